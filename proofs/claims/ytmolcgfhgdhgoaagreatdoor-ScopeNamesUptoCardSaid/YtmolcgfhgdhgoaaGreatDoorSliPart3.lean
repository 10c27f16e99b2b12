/-
  Show: the library's functions that are taken as one step: strings.Builder's String, and strings.Join: they do what is said of them. To: Scope: what the laws' frame asks for.
-/
import Derived.Test.YtmolcgfhgdhgoaaGreatDoorSliPart2
set_option linter.all false
section
set_option linter.unusedVariables false
namespace Go.Proofs
open Go.Shelf Go.RowKit
variable {P:Program} {ρ:Ren}
set_option maxHeartbeats 2000000 in
set_option maxRecDepth 100000 in
theorem Any.String_core(L:Lays.n169 P ρ)(X:Builder.Extra P ρ)(b:Nat)(w w2:World)(ao p:Option Addr)(n cap:Nat)(s:ByteArray)
  (c1:w.drew.cell? ⟨b,1,none⟩=some (.slice ao n cap))
  (hSD:(Builtin.unsafeSliceData_ #[(ρ.t 37)] (ρ.t 127) #[.slice ao n cap]).run P w.drew=.ok (.pointer p) w.drew)
  (hUS:(Builtin.unsafeString_ #[(ρ.t 127),(ρ.t 3)] (ρ.t 9) #[.pointer p,.int .i64 n]).run P w.drew=.ok (.string s) w2) :
  Calls P (ρ.f 169) #[.pointer (some ⟨b,0,none⟩)] w λ e w'=>e=.returned (.string s)∧w'=w2:=by
 have mixed:=L.mixed;have t72:=L.t72; have a72:=L.a72; have z72:=L.z72; have v72:=L.v72; have u72:=run_underlying L.t72;have t70:=L.t70; have a70:=L.a70; have z70:=L.z70; have v70:=L.v70; have u70:=run_underlying L.t70;have t37:=L.t37; have a37:=L.a37; have z37:=L.z37; have v37:=L.v37; have u37:=run_underlying L.t37;have t127:=L.t127; have a127:=L.a127; have z127:=L.z127; have v127:=L.v127; have u127:=run_underlying L.t127;have t3:=L.t3; have a3:=L.a3; have z3:=L.z3; have v3:=L.v3; have u3:=run_underlying L.t3;have t9:=L.t9; have a9:=L.a9; have z9:=L.z9; have v9:=L.v9; have u9:=run_underlying L.t9;have t5:=X.t5; have a5:=X.a5; have z5:=X.z5; have v5:=X.v5; have u5:=run_underlying X.t5
 go_enter L.f169,Body.n169_ntmps ρ
 go_wp2
 go_region_o
 all_goals (go_wp2; go_ret; exact ⟨rfl,rfl⟩)
theorem Tryz.String_core(b:Nat)(w w2:World)(ao p:Option Addr)(n cap:Nat)(s:ByteArray)
  (c1:w.drew.cell? ⟨b,1,none⟩=some (.slice ao n cap))
  (hSD:(Builtin.unsafeSliceData_ #[174] 232 #[.slice ao n cap]).run Tryz.prog w.drew=.ok (.pointer p) w.drew)
  (hUS:(Builtin.unsafeString_ #[232,3] 9 #[.pointer p,.int .i64 n]).run Tryz.prog w.drew=.ok (.string s) w2) :
  Calls Tryz.prog 164 #[.pointer (some ⟨b,0,none⟩)] w λ e w'=>e=.returned (.string s)∧w'=w2:=
 Any.String_core Tryz.lays169 Tryz.Builder_Extra_169 b w w2 ao p n cap s c1 hSD hUS
end Go.Proofs
namespace Go.Vai
open Go.Proofs Go.Sort
section
variable {cx:Cx} {w w':World} {σ:St} {μ:Mu}
theorem zjw(w:World)(g n:Nat):∀ b,b ≠ g→(w.freeze ⟨g,0,none⟩ n).heap[b]?=w.heap[b]?:=λ b hb=>by
 unfold World.freeze;split
 ·rfl
 ·simp [Array.getElem?_modify,Ne.symm hb]
theorem zrm(w:World)(g n:Nat)(b k:Nat):(w.freeze ⟨g,0,none⟩ n).cell? ⟨b,k,none⟩=w.cell? ⟨b,k,none⟩:=by
 by_cases hbg:b=g
 ·subst hbg;unfold World.freeze;split
  ·rfl
  ·unfold World.cell?;simp only [Array.getElem?_modify,if_true];cases h:w.heap[b]? with
   | none=>rfl
   | some o=>cases o <;> rfl
 ·unfold World.cell?;simp only;rw [zjw w g n b hbg]
theorem zyb{id k:Nat}(ho:zf σ id=some (.tok k))(hos:w'.os=w.os)(hout:w'.output=w.output)(hsize:w.heap.size≤w'.heap.size)
  (hblk:∀ b,b<w.heap.size→(μ id).blk ≠ some b→w'.heap[b]?=w.heap[b]?) (hcell:∀ b i x,w.cell? ⟨b,i,none⟩=some x→w'.cell? ⟨b,i,none⟩=some x) :
  Upd cx w σ μ w' (vx σ id (.tok (k+1))) (setMu μ id ⟨none,0,0,0⟩) [id] where
 os:=hos
 output:=hout
 size:=hsize
 blk:=λ b hb h=>hblk b hb λ e=>h id (by simp) _ ho (μ id).f ⟨e,Nat.le_refl _⟩
 cell:=λ b i x _ h=>hcell b i x h
 fr:=rfl
 same:=λ j hj=>by
  have:id ≠ j:=λ e=>hj (by simp [e])
  exact ⟨by simp [zk,this],by simp [setMu,Ne.symm this]⟩
 own:=λ j hj q hq b i hown _=>by
  simp at hj; subst hj;simp only [zk,if_true] at hq;cases hq;have:=hown.1;simp [setMu] at this
 still:=λ j hj q hq=>by
  simp at hj; subst hj;rw [ho] at hq; cases hq;simp only [zk,if_true];exact ⟨by omega,λ h=>by omega⟩
 apart:=λ j hj j' hj' _ _ _ _ _ _ _ _ _=>by simp at hj hj'; rw [hj,hj']
theorem ztj{id k:Nat}(hi:Inv cx w σ μ)(ho:zf σ id=some (.tok k))(hos:w'.os=w.os)(hout:w'.output=w.output)(hsize:w.heap.size≤w'.heap.size)
  (hblk:∀ b,b<w.heap.size→(μ id).blk ≠ some b→w'.heap[b]?=w.heap[b]?) (hcell:∀ b i x,w.cell? ⟨b,i,none⟩=some x→w'.cell? ⟨b,i,none⟩=some x) :
  After cx w σ μ w' (vx σ id (.tok (k+1))) (setMu μ id ⟨none,0,0,0⟩):=
 (zyb ho hos hout hsize hblk hcell).after hi λ j hj o' ho'=>by
  simp at hj; subst hj;simp only [zk,if_true] at ho';cases ho';intro b hb;simp [setMu] at hb
theorem zjl:szN 6291457=1:=by decide
theorem zwd{id k:Nat}(hc:Canon σ)(ho:zf σ id=some (.tok k)):∀ j o,zf (vx σ id (.tok (k+1))) j=some o→j<σ.length∧∀ i∈o.ids,i<σ.length:=by
 intro j o hj;rw [zk] at hj;by_cases h:id=j
 ·subst h;rw [if_pos rfl] at hj;cases hj;exact ⟨(hc id _ ho).1,by simp [Ob.ids]⟩
 ·rw [if_neg h] at hj;exact hc j o hj
theorem zvi(hP : cx.P = Tryz.prog){args : List V}{out : Out}{σ' : St}(h : zst args σ = some (out, σ')){vs : List Value}(hi : Inv cx w σ μ)(hcan : Canon σ)(hv : RVs w σ μ vs args) :
    ∃ u, out = .ret u ∧ (∀ k o, zf σ' k = some o → k < σ.length ∧ ∀ i ∈ o.ids, i < σ.length) ∧ (∀ i ∈ u.ids, i < σ.length) ∧
    Calls cx.P 164 vs.toArray w λ e w' => ∃ μ' x, e = .returned x ∧ After cx w σ μ w' σ' μ' ∧ RV w' σ' μ' x u := by
  unfold zst at h;obtain ⟨i, hargs, h1⟩ := zb h;clear h;obtain rfl := zu9 hargs;obtain ⟨⟨sz, l, id⟩, hq, h2⟩ := zb h1;clear h1;obtain ⟨n, p, r, ho⟩ := zsi hq;obtain ⟨k, hk, h3⟩ := zb h2;clear h2;have ht := zse hk;obtain ⟨hc, h4⟩ := zd h3;clear h3;obtain ⟨s, hs, h⟩ := zb h4;clear h4;cases h;clear hk hq hargs;simp only at hs hc ht ho;simp only [pq, decide_eq_true_eq] at hc;obtain ⟨⟨hsz, hk⟩, hlen⟩ := hc;have hsz := po hsz;subst hsz;subst hk;have hl := zmg l s hs;refine ⟨_, rfl, zwd hcan ht, by simp [V.ids], ?_⟩
  -- the argument
  obtain ⟨v, rfl⟩ : ∃ v, vs = [v] := List.length_eq_one_iff.1 (by simpa using hv.1)
  have hv0 := hv.2 0 v _ rfl rfl;cases hv0 with | ptr _ _ b _ hb => ?_
  obtain ⟨b', cs, el, hb', hh, _, _, _, hrs, _⟩ := hi.ob i _ ho;obtain rfl : b = b' := by rw [hb] at hb'; exact Option.some.inj hb'
  obtain ⟨v1, hv1⟩ : ∃ v1, cs.toList[1]? = some v1 := yo (by rw [hrs.1]; simp [V.cells])
  have hr1 := hrs.2 1 v1 (.sl 6291457 l id) hv1 rfl;cases hr1 with | sl _ _ _ _ n' hrd ht' hn' htail => ?_
  rw [ht] at ht'; cases ht';have htail := htail rfl;rw [zjl] at hrd;obtain ⟨base, cap, rfl⟩ := hrd.slice_inv;have c1 : w.drew.cell? ⟨b, 1, none⟩ = some (.slice base l.length cap) := by
    show w.cell? ⟨b, 1, none⟩ = _;rw [cell_of_heap hh];simpa using hv1
  rw [hP]
  have fin : ∀ w', w'.os = w.os → w'.output = w.output → w.heap.size ≤ w'.heap.size → (∀ b, b < w.heap.size → (μ id).blk ≠ some b → w'.heap[b]? = w.heap[b]?) →
      (∀ b i x, w.cell? ⟨b, i, none⟩ = some x → w'.cell? ⟨b, i, none⟩ = some x) →
      ∃ μ' x, Ending.returned (.string ⟨s.toArray⟩) = .returned x ∧ After cx w σ μ w' (vx σ id (.tok (l.length + 1))) μ' ∧ RV w' (vx σ id (.tok (l.length + 1))) μ' x (.d (.str s)) :=
    λ w' h1 h2 h3 h4 h5 => ⟨_, _, rfl, ztj hi ht h1 h2 h3 h4 h5, .d _ _ (.str s)⟩
  by_cases he : l = []
  · subst he;have hs0 : s = [] := by cases s with | nil => rfl | cons a b => simp at hl
    subst hs0;rcases htail with ⟨h1, _, _, h2⟩ | ⟨b2, o, _, _, _, _, _, h2⟩
    · subst h1
      obtain rfl : base = none := by rcases h2 with h2 | h2; · exact absurd h2 (by decide)
                                     · exact h2
      refine (Tryz.String_core b w w.drew none none 0 0 .empty c1 rfl (Lib.run_unsafeString_none w.drew 232 3 9 none)).mono ?_;rintro e w' ⟨rfl, rfl⟩;exact fin _ rfl rfl (Nat.le_refl _) (λ _ _ _ => rfl) (λ _ _ _ h => h)
    · rcases h2 with h2 | h2
      · exact absurd h2 (by decide)
      · exact absurd h2.2.2 (by simp)
  · have hpos : 0 < l.length := List.length_pos_iff.2 he;rcases htail with ⟨_, h1, _⟩ | ⟨g, o, hbase, hg, hf, hend, hnc, h2⟩
    · omega
    rcases h2 with h2 | ⟨hel, ho0, _⟩
    · exact absurd h2 (by decide)
    subst hbase;subst ho0;obtain ⟨cs', el', fr', hh', hel', hcs', _⟩ := hi.ob id _ ht g hg;have h6 : (6291457 : Nat) / 1048576 = 6 := by decide
    have hel5 : el' = 5 := by rw [hel']; rw [h6] at hel; exact (Nat.succ.inj hel).symm
    rw [zjl] at hend;subst hel5;have hsl : s.length = l.length := by rw [hl]; simp
    have hs0 : s ≠ [] := λ e => by rw [e] at hsl; simp at hsl; omega
    have hcell : ∀ j x, s[j]? = some x → w.drew.cell? ((⟨g, 0, none⟩ : Addr).add j) = some (.int .u8 x.toNat) := by
      intro j x hx;have hj := (pr.1 hx).1;generalize hnl : l.length = nl at hrd;cases hrd with
      | sl0 => exact absurd rfl he
      | sl _ _ _ _ _ _ xs hn hcap hszs hcells hels =>
        have hlx : l[j]? = some (zo0 x) := by rw [hl, List.getElem?_map, hx]; rfl
        have h1 := hcells j (by omega)
        have h2 := hels j 0 (zo0 x) (zo0 x) hlx rfl;simp only [Nat.mul_one, Nat.add_zero] at h2;rw [show (⟨g, 0, none⟩ : Addr).add j = ⟨g, 0 + j, none⟩ from by by_cases hj0 : j = 0 <;> simp [Addr.add, hj0]]
        have h3 : w.cell? ⟨g, 0 + j, none⟩ = some (xs j) := h1.1;generalize xs j = q at h2 h3;unfold zo0 at h2;cases h2;exact h3
    have hUS := Lib.run_unsafeString_row (P := Tryz.prog) w.drew 232 3 9 5 (by kernel_rfl) (by kernel_rfl) g cs'.size (by show w.shape? g = _; simp [World.shape?, hh']) s hs0 (by rw [hsl, hcs']; omega) (by omega) hcell
    rw [hsl] at hUS;refine (Tryz.String_core b w _ (some ⟨g, 0, none⟩) (some ⟨g, 0, none⟩) l.length cap ⟨s.toArray⟩ c1 (Lib.run_unsafeSliceData_row w.drew _ _ _ _ _ (by omega)) hUS).mono ?_
    rintro e w' ⟨rfl, rfl⟩;refine fin _ ?_ ?_ ?_ (λ b' _ hb' => ?_) (λ b' i' x hx => ?_)
    · unfold World.freeze; split <;> rfl
    · unfold World.freeze; split <;> rfl
    · unfold World.freeze; split
      · exact Nat.le_refl _
      · simp
    · rw [zjw w.drew g _ b' (λ e => hb' (by rw [e]; exact hg))]
      rfl
    · rw [zrm];exact hx
theorem zsw(hP:cx.P=Tryz.prog){args:List V}{out:Out}{σ':St}(h:zpj args σ=some (out,σ')){vs:List Value}(hi:Inv cx w σ μ)(hcan:Canon σ)(hv:RVs w σ μ vs args) :
  ∃ u,out=.ret u∧(∀ k o,zf σ' k=some o→k<σ.length∧∀ i∈o.ids,i<σ.length)∧(∀ i∈u.ids,i<σ.length) ∧
  Calls cx.P 192 vs.toArray w λ e w'=>∃ μ' x,e=.returned x∧After cx w σ μ w' σ' μ'∧RV w' σ' μ' x u:=by
 unfold zpj at h;split at h
 case h_2=>cases h
 rename_i sz xs sep;obtain ⟨l,hl,h1⟩:=zb h;clear h;obtain ⟨hc,h⟩:=zd h1;clear h1;cases h;simp only [pq,decide_eq_true_eq] at hc;refine ⟨_,rfl,hcan,by simp [V.ids],?_⟩
 obtain ⟨v1,v2,rfl⟩:∃ v1 v2,vs=[v1,v2]:=by
  have:=hv.1
  match vs,this with
  | [a,b],_=>exact ⟨a,b,rfl⟩
 have h1:=hv.2 0 v1 _ rfl rfl;have h2:=hv.2 1 v2 _ rfl rfl;cases h2 with | d _ _ h2=>?_
 cases h2;cases h1 with | d _ _ h1=>?_
 have hxs:=ziu xs l hl;rw [hP];have fin:∀ (q:ByteArray) (w':World),q=y8 (Lib.join l sep)→RowKit.Below w.heap.size w w'→∃ μ' x,Ending.returned (.string q)=.returned x∧After cx w σ μ w' σ μ'∧RV w' σ μ' x (.d (.str (Lib.join l sep))):=by
  rintro q w' rfl hb;exact ⟨μ,_,rfl,zdc hi hb,.d _ _ (.str _)⟩
 cases h1 with
 | sl0 base cap _=>
  have hl0:l=[]:=by cases l with | nil=>rfl | cons a b=>simp at hxs
  subst hl0;refine (Tryz.strings_Join_none base cap (y8 sep) w).mono ?_;rintro e w' ⟨rfl,rfl⟩;exact fin _ _ (by simp [Lib.join,List.intercalate,y8]) (RowKit.Below.refl _ _)
 | sl b o n cap _ _ ys hn hcap hsz hcell hels=>
  subst hn;by_cases h0:l=[]
  ·subst h0;have hx0:xs=[]:=by simpa using hxs
   subst hx0;refine (Tryz.strings_Join_none (some ⟨b,o,none⟩) cap (y8 sep) w).mono ?_;rintro e w' ⟨rfl,rfl⟩;exact fin _ _ (by simp [Lib.join,List.intercalate,y8]) (RowKit.Below.refl _ _)
  have hlen:xs.length=(l.map y8).length:=by rw [hxs]; simp
  have hsz1:sz=1:=by
   have hne:xs ≠ []:=by rw [hxs]; simpa using h0
   obtain ⟨y,hy⟩:=List.exists_mem_of_ne_nil xs hne;have:=hsz y hy;rw [hxs] at hy;obtain ⟨q,_,rfl⟩:=List.mem_map.1 hy;exact this.symm
  subst hsz1;have hmap:(l.map y8).map (·.data.toList)=l:=by
   rw [List.map_map]
   conv=>rhs; rw [←List.map_id l]
   exact List.map_congr_left λ a _=>by simp [y8]
  have hsep:(y8 sep).data.toList=sep:=by simp [y8]
  have hj:=Tryz.strings_Join b o cap (l.map y8) (y8 sep) w (λ j x hx=>?_) ?_ (by rw [←hlen,hxs]; simpa using hc.1) (by rw [←hlen]; exact hcap) (by rw [hmap,hsep]; exact hc.2)
  ·rw [hmap,hsep,←hlen] at hj;refine hj.mono ?_;rintro e w' ⟨rfl,hb⟩;exact fin _ _ rfl hb
  ·rw [List.getElem?_map,Option.map_eq_some_iff] at hx;obtain ⟨q,hq,rfl⟩:=hx;have hjl:j<xs.length:=by rw [hlen]; simpa using (pr.1 hq).1
   have g1:=(hcell j (by omega)).1
   have hlx:xs[j]?=some (.str q):=by rw [hxs,List.getElem?_map,hq]; rfl
   have g2:=hels j 0 (.str q) (.str q) hlx rfl;simp only [Nat.mul_one,Nat.add_zero] at g2;generalize ys j=z at g1 g2;cases g2;exact g1
  ·have hpos:0<xs.length:=by rw [hlen]; simpa using List.length_pos_iff.2 h0
   exact lt_of_cell (hcell 0 (by omega)).1
theorem zgz:∀ l:List Int,(zdn l).Perm l
 | []=>.refl _
 | x::l=>by
  have ins:∀ (x:Int) (l:List Int),(zpr x l).Perm (x::l):=by
   intro x l
   induction l with
   | nil=>exact .refl _
   | cons y r ih=>
    unfold zpr;cases decide (x≤y)
    ·exact (ih.cons y).trans (.swap x y r)
    ·exact .refl _
  exact (ins x _).trans ((zgz l).cons x)
theorem zqt:∀ l:List Int,(zdn l).Pairwise (·≤·)
 | []=>by simp [zdn]
 | x::l=>by
  have ins:∀ (x:Int) (l:List Int),l.Pairwise (·≤·)→(zpr x l).Pairwise (·≤·):=by
   intro x l
   induction l with
   | nil=>intro _; simp [zpr]
   | cons y r ih=>
    intro h;rw [List.pairwise_cons] at h;unfold zpr;by_cases hxy:x≤y
    ·rw [pb hxy];simp only [p5,List.pairwise_cons,List.mem_cons];refine ⟨λ z hz=>?_,h⟩;rcases hz with rfl | hz
     ·exact hxy
     ·exact Int.le_trans hxy (h.1 z hz)
    ·rw [pd hxy];simp only [p6,List.pairwise_cons];refine ⟨λ z hz=>?_,ih h.2⟩;have hz:z=x∨z∈r:=by
      have hp:(zpr x r).Perm (x::r):=by
       clear ih h hz hxy
       induction r with
       | nil=>exact .refl _
       | cons y r ih=>
        unfold zpr;cases decide (x≤y)
        ·exact (ih.cons y).trans (.swap x y r)
        ·exact .refl _
      simpa using hp.mem_iff.1 hz
     rcases hz with rfl | hz
     ·omega
     ·exact h.1 z hz
  exact ins x _ (zqt l)
theorem zqs(l:List Int):(l.mergeSort λ x y=>decide (x≤y))=zdn l:=by
 have h1:(l.mergeSort λ x y=>decide (x≤y)).Pairwise (·≤·):=by
  have:=List.pairwise_mergeSort (le:=λ x y:Int=>decide (x≤y)) (by intro a b c; simp; omega) (by intro a b; simp; omega) l
  exact this.imp λ h=>by simpa using h
 exact ((List.mergeSort_perm l _).trans (zgz l).symm).eq_of_pairwise (λ a b _ _ h1 h2=>by omega) h1 (zqt l)
theorem zoa:∀ {l:List D} {zs:List Int},zun l=some zs→l=zs.map (.int .i64)
 | [],zs,h=>by cases h; rfl
 | x::r,zs,h=>by
  unfold zun at h;split at h
  ·rename_i he; cases he
  ·rename_i n q he;cases he;split at h
   ·rename_i l hl; cases h; rw [zoa hl]; rfl
   ·cases h
  ·cases h
theorem zsu(hP:cx.P=Tryz.prog){args:List V}{out:Out}{σ':St}(h:zph args σ=some (out,σ')){vs:List Value}(hi:Inv cx w σ μ)(hcan:Canon σ)(hv:RVs w σ μ vs args) :
  ∃ u,out=.ret u∧(∀ k o,zf σ' k=some o→k<σ.length∧∀ i∈o.ids,i<σ.length)∧(∀ i∈u.ids,i<σ.length) ∧
  Calls cx.P 49 vs.toArray w λ e w'=>∃ μ' x,e=.returned x∧After cx w σ μ w' σ' μ'∧RV w' σ' μ' x u:=by
 unfold zph at h;split at h
 case h_2=>cases h
 rename_i id k;split at h
 case h_2=>cases h
 rename_i l ho;obtain ⟨hc,h1⟩:=zd h;clear h;obtain ⟨zs,hz,h⟩:=zb h1;clear h1;cases h;simp only [pq,decide_eq_true_eq,Bool.not_eq_true'] at hc;obtain ⟨⟨hk,hle⟩,hne⟩:=hc;obtain rfl:=po hk;have hl:=zoa hz;have hlen:l.length=zs.length:=by rw [hl]; simp
 have hpos:0<l.length:=by cases l with | nil=>simp at hne | cons=>simp
 refine ⟨_,rfl,λ j o hj=>?_,by simp [V.ids,V.idsL],?_⟩
 ·rw [zk] at hj;by_cases h:id=j
  ·subst h;rw [if_pos rfl] at hj;cases hj;exact ⟨(hcan id _ ho).1,by simp [Ob.ids]⟩
  ·rw [if_neg h] at hj;exact hcan j o hj
 obtain ⟨v,rfl⟩:∃ v,vs=[v]:=List.length_eq_one_iff.1 (by simpa using hv.1)
 have hv0:=hv.2 0 v _ rfl rfl;cases hv0 with | slo _ _ _ cap base l' hl' hkl hcap hn hat=>?_
 rw [ho] at hl'; cases hl';rcases hat rfl with ⟨_,_,hc0⟩ | ⟨b,rfl,hb,hf,hend⟩
 ·omega
 obtain ⟨cs,el,hh,hcs,h2,h3,h4,h5⟩:=hi.ob id _ ho b hb;rw [hf] at h2 h4 h5;have hget:∀ (j:Nat) z,zs[j]?=some z→cs[j]?=some (.int .i64 z):=λ j z hj=>by
  have hlj:l[j]?=some (.int .i64 z):=by rw [hl,List.getElem?_map,hj]; rfl
  obtain ⟨v,hv,hvc⟩:=h5 j 0 _ (.int .i64 z) hlj rfl;cases hvc;simpa using hv
 have hH:Holds (Value.int .i64) w b 0 zs.toArray:=λ j hj=>by
  have hj':j<zs.length:=by simpa using hj
  refine ⟨?_,?_⟩
  ·rw [cell_of_heap hh,Nat.zero_add,hget j zs[j] (p9 hj')];rw [getElem!_pos zs.toArray j hj];simp
  ·simp [World.frozen?,hh]
 rw [hP,show ([Value.slice (some ⟨b,0,none⟩) l.length cap]).toArray = #[.slice (some ⟨b,0,none⟩) zs.length cap] by rw [hlen]]
 refine (Tryz.slices_Sort_int b 0 cap zs w hH (lt_of_heap hh) (by omega)).mono ?_
 rintro e w' ⟨rfl,n,os,hw'⟩;rw [zqs] at hw';have hsl:(zdn zs).length=zs.length:=(zgz zs).length_eq;have hlt:=lt_of_heap hh;have hother:∀ b',b' ≠ b→b'<w.heap.size→w'.heap[b']?=w.heap[b']?:=λ b' hb' hlt'=>by
  rw [hw',heap_grow_old _ _ (by simpa [putRow,mapBlock,Sort.ahead] using hlt')]
  simp [putRow,mapBlock,Sort.ahead,Array.getElem?_modify,Ne.symm hb']
 have hnew:w'.heap[b]?=some (.cells (putCells (Value.int .i64) 0 (zdn zs).toArray cs) el (0,0)):=by
  rw [hw',heap_grow_old _ _ (by simpa [putRow,mapBlock,Sort.ahead] using hlt)]
  simp [putRow,mapBlock,Sort.ahead,Array.getElem?_modify,hh,onCells]
 have hsize:w.heap.size≤w'.heap.size:=by rw [hw']; simp [grow,putRow,mapBlock,Sort.ahead]
 have hup:Upd cx w σ μ w' (vx σ id (.row ((zdn zs).map (.int .i64)))) μ [id]:={
  os:=by rw [hw']; rfl,output:=by rw [hw']; rfl,size:=hsize,
  blk:=λ b' hb' hno=>hother b' (λ e=>hno id (by simp) _ ho 0 (by rw [e]; exact hb)) hb',
  cell:=λ b' i x hno hc=>by
   have hne:b' ≠ b:=λ e=>hno id (by simp) _ ho (by rw [e]; exact hb)
   have:=hother b' hne (lt_of_cell hc);unfold World.cell? at hc ⊢;simp only at hc ⊢;rw [this]; exact hc,
  fr:=rfl,same:=λ j hj=>⟨by rw [zk,if_neg (Ne.symm (by simpa using hj))],rfl⟩,
  own:=λ j hj q hq b' i hown _=>by
   simp at hj; subst hj;rw [zk,if_pos rfl] at hq; cases hq;exact ⟨_,ho,hown⟩,
  still:=λ j hj q hq=>by
   simp at hj; subst hj;rw [ho] at hq; cases hq;rw [zk,if_pos rfl];exact ⟨by simp [hsl,hlen],λ _=>rfl⟩,
  apart:=λ j hj j' hj' _ _ _ _ _ _ _ _ _=>by simp at hj hj'; rw [hj,hj'] }
 refine ⟨μ,_,rfl,hup.after hi λ j hj o' ho'=>?_,.tup #[] [] rfl (by simp)⟩
 simp at hj; subst hj;rw [zk,if_pos rfl] at ho'; cases ho';refine w7.of hb hnew (by simp [putCells,hcs]) (by rw [hf]; simp [putCells,hsl]; omega) (λ x hx=>?_) (λ y hy=>?_) λ k c hk=>?_
 ·simp only [putCells,Array.toList_mapIdx,List.mem_mapIdx] at hx;obtain ⟨i,hi',hx⟩:=hx;rw [←hx];split
  ·rfl
  ·exact h3 _ (List.getElem_mem _)
 ·rw [hf];obtain ⟨z,_,rfl⟩:=List.mem_map.1 hy;rfl
 ·have hfl:ye ((zdn zs).map (.int .i64))=(zdn zs).map (.int .i64):=by
   unfold ye;generalize zdn zs=q
   induction q with
   | nil=>rfl
   | cons a q ih=>simp only [List.map_cons,List.flatMap_cons,ih]; rfl
  rw [hfl,List.getElem?_map,Option.map_eq_some_iff] at hk;obtain ⟨z,hz',rfl⟩:=hk;have hklt:=(pr.1 hz').1;refine ⟨.int .i64 z,?_,.int _ _⟩;have hkc:k<cs.size:=by omega
  simp only [putCells,Array.getElem?_mapIdx,Array.getElem?_eq_getElem hkc,Option.map_some];rw [if_pos ⟨Nat.zero_le _,by simpa using hklt⟩]
  rw [getElem!_pos _ _ (by simpa using hklt)]
  have:(zdn zs)[k]=z:=(pr.1 hz').2;simp [this]
theorem zk1{n:Nat}{l:List (List UInt8)}{v:Value}(hi:Inv cx w σ μ)(h:w'.ownsRow w.heap.size 9 1 v n (l.map λ s=>Value.string (y8 s)))(hn:l.length=n)(haf:After cx w σ μ w' σ μ):RD w' (zp σ μ) v (.sl 1 (l.map .str)):=by
 obtain ⟨hlen,h⟩:=h;rcases h with ⟨rfl,h0⟩ | ⟨g,cap,cur,rfl,hg,hh,hcap,_,hsize,htake⟩
 ·have:l=[]:=List.eq_nil_of_length_eq_zero (by omega)
  subst this;exact .sl0 _ _ _
 ·have hfree:∀ i,¬ zp σ μ g i:=λ i ho=>by
   rcases ho with hf | ⟨id,o,ho,hown⟩
   ·exact absurd (hi.frLt _ _ hf) (by omega)
   ·exact absurd (zb6 hi ho hown) (by omega)
  refine RD.ofRow (cs:=cur) hh (by simp [hn]) hcap (λ y hy=>by obtain ⟨s,_,rfl⟩:=List.mem_map.1 hy; rfl) (λ k c hk=>?_) λ k _=>by rw [Nat.zero_add]; exact hfree k
  have hfl:ye (l.map .str)=l.map .str:=by
   unfold ye;clear hlen htake hn hk
   induction l with
   | nil=>rfl
   | cons a q ih=>simp only [List.map_cons,List.flatMap_cons,ih]; rfl
  rw [hfl,List.getElem?_map,Option.map_eq_some_iff] at hk;obtain ⟨s,hs,rfl⟩:=hk;have hklt:=(pr.1 hs).1;have:(cur.toList.take (n * 1))[k]?=some (.string (y8 s)):=by rw [htake,List.getElem?_map,hs]; rfl
  rw [List.getElem?_take,if_pos (by omega)] at this
  exact ⟨_,by simpa using this,.str s,rfl⟩
theorem zq8(hP:cx.P=Tryz.prog){args:List V}{out:Out}{σ':St}(h:zla args σ=some (out,σ')){vs:List Value}(hi:Inv cx w σ μ)(hcan:Canon σ)(hv:RVs w σ μ vs args) :
  ∃ u,out=.ret u∧(∀ k o,zf σ' k=some o→k<σ.length∧∀ i∈o.ids,i<σ.length)∧(∀ i∈u.ids,i<σ.length) ∧
  Calls cx.P 99 vs.toArray w λ e w'=>∃ μ' x,e=.returned x∧After cx w σ μ w' σ' μ'∧RV w' σ' μ' x u:=by
 unfold zla at h;split at h
 case h_2=>cases h
 rename_i xs;obtain ⟨hc,h1⟩:=zd h;clear h;obtain ⟨l,hl,h⟩:=zb h1;clear h1;cases h;have hc:=ph hc;have hxs:=ziu xs l hl;subst hxs;rw [pm] at hc;refine ⟨_,rfl,hcan,by simp [V.ids],?_⟩
 obtain ⟨v,rfl⟩:∃ v,vs=[v]:=List.length_eq_one_iff.1 (by simpa using hv.1)
 have hv0:=hv.2 0 v _ rfl rfl;cases hv0 with | d _ _ hd=>?_
 rw [hP];have e0:∀ zs:List (List UInt8),(zs.map y8).map (Value.string)=zs.map λ s=>Value.string (y8 s):=λ zs=>by rw [List.map_map]; rfl
 by_cases hne:l=[]
 ·subst hne;obtain ⟨base,cap,rfl⟩:=hd.slice_inv;cases base with
  | none=>
   refine (Tryz.slices_Clone_string_nil 0 cap w).mono ?_;rintro e w' ⟨rfl,rfl⟩;exact ⟨μ,_,rfl,After.refl hi,.d _ _ (.sl0 _ _ _)⟩
  | some a=>
   refine (Tryz.slices_Clone_string_zero a cap w).mono ?_;rintro e w' ⟨v',rfl,ho,_,hb⟩;have haf:=zdc hi hb;exact ⟨μ,_,rfl,haf,.d _ _ (zk1 (l:=[]) hi ho rfl haf)⟩
 ·generalize hnl:(l.map D.str)=q at hd;cases hd with
  | sl0=>exact absurd (by simpa using hnl) hne
  | sl b o n cap _ _ ys hn hcap hsz hcell hels=>
   subst hnl;have hn:n=l.length:=by simpa using hn
   subst hn;have hj:=Tryz.slices_Clone_string b o l.length cap (l.map y8) w (by simp) (by omega) (λ j hj=>by
    have hj':j<l.length:=by simpa using hj
    have g1:=(hcell j (by omega)).1
    have hlx:(l.map D.str)[j]?=some (.str l[j]):=by rw [List.getElem?_map,p9 hj']; rfl
    have g2:=hels j 0 (.str l[j]) (.str l[j]) hlx rfl;simp only [Nat.mul_one,Nat.add_zero] at g2;generalize ys j=z at g1 g2;cases g2;rw [g1];simp [List.getD_eq_getElem?_getD,hj'])
   refine hj.mono ?_;rintro e w' ⟨v',rfl,ho,_,hb⟩;have haf:=zdc hi hb;rw [List.take_of_length_le (by simp),e0] at ho
   exact ⟨μ,_,rfl,haf,.d _ _ (zk1 hi ho rfl haf)⟩
theorem zzo(hP : cx.P = Tryz.prog)(hg : ∀ g e, cx.grow g = some e → g = 165 ∧ e = 9) : zyz cx := by
  intro g e h n w h0 h1;obtain ⟨rfl, rfl⟩ := hg g e h;refine ⟨⟨_, by rw [hP]; exact Tryz.func165, by kernel_rfl⟩, ?_⟩
  obtain ⟨m, rfl⟩ : ∃ m : Nat, n = (m : Int) := ⟨n.toNat, by omega⟩
  rw [hP];by_cases hm : m = 0
  · subst hm;refine (Any8.slices_Grow_room Tryz.growS none 0 0 0 w (by omega) (by omega) (by omega) (by omega)).mono ?_
    rintro x w' ⟨rfl, rfl⟩;exact ⟨none, 0, rfl, .inl ⟨rfl, rfl, rfl⟩⟩
  · have hi9 : Tryz.prog.info? 9 = Tryz.prog.info? 9 := rfl;obtain ⟨i, hi⟩ : ∃ i, Tryz.prog.info? 9 = some i := by
      cases hq : Tryz.prog.info? 9 with
      | some i => exact ⟨i, rfl⟩
      | none => have : (Tryz.prog.info? 9).isSome = true := by kernel_rfl
                rw [hq] at this; cases this
    have hs : (Tryz.prog.info? 9).map (λ i => (i.zero.isSome, i.size, i.bytes)) = some (true, 1, 16) := by kernel_rfl
    rw [hi] at hs;simp only [Option.map_some, Option.some.injEq, Prod.mk.injEq] at hs;obtain ⟨hz, hsz, hby⟩ := hs;obtain ⟨z, hz⟩ := Option.isSome_iff_exists.1 hz;have hzc : z.cells.size = 1 := by
      have : (Tryz.prog.info? 9).bind (λ i => i.zero.map λ z => z.cells.size) = some 1 := by kernel_rfl
      rw [hi] at this;simp only [Option.bind_some, hz, Option.map_some, Option.some.injEq] at this;exact this
    refine (Any8.slices_Grow_grow Tryz.growS i z hi hz (by omega) none 0 0 m [] w (by omega) (by omega) (by rw [hby]; omega) (by omega) (by simp) (λ _ => rfl) (λ a h => by cases h)).mono ?_
    rintro x w' ⟨rfl, rfl⟩;refine ⟨_, _, rfl, .inr ⟨_, _, rfl, rfl, ?_⟩⟩;have hc1 : Tryz.prog.cellsOf 9 = 1 := by kernel_rfl
    have hge := grownCap_ge w (0 + m) 0 9;simp only [Array.size_append, wh, hzc, hc1];show ([] : List Value).toArray.size + (0 + m - 0) * 1 + (_ - (0 + m)) * 1 = _ * 1;simp only [List.size_toArray, p8];have hge : 0 + m ≤ grownCap w (0 + m) 0 (Tryz.growS_ren.t 25) := hge;omega
theorem zh1{f g : Nat}{out : Out}{σ' : St}{vs : List Value}(hfg : f = g)(hfn : ∃ fn, cx.P.funcs[g]? = some fn ∧ fn.body.isNone = false) : (∃ u, out = .ret u ∧ (∀ k o, zf σ' k = some o → k < σ.length ∧ ∀ i ∈ o.ids, i < σ.length) ∧ (∀ i ∈ u.ids, i < σ.length) ∧
      Calls cx.P g vs.toArray w λ e w' => ∃ μ' x, e = .returned x ∧ After cx w σ μ w' σ' μ' ∧ RV w' σ' μ' x u) →
    (∃ fn, cx.P.funcs[f]? = some fn ∧ fn.body.isNone = false) ∧ (∀ k o, zf σ' k = some o → k < σ.length ∧ ∀ i ∈ o.ids, i < σ.length) ∧ (∀ i ∈ (match out with | .ret v => v.ids | .pan v => v.ids), i < σ.length) ∧
    Calls cx.P f vs.toArray w λ e w' => ∃ μ', After cx w σ μ w' σ' μ' ∧
      match out, e with
      | .ret v, .returned x => RV w' σ' μ' x v
      | .pan v, .panicked chain => ∃ x, chain = [{ v := x, recovered := false }] ∧ RV w' σ' μ' x v
      | _, _ => False := by
  intro h;subst hfg;obtain ⟨u, rfl, h1, h2, h3⟩ := h;refine ⟨hfn, h1, h2, h3.mono ?_⟩;rintro e w' ⟨μ', x, rfl, ha, hr⟩;exact ⟨μ', ha, hr⟩
theorem nat_ok(hP:cx.P=Tryz.prog)(hg:∀ g e,cx.grow g=some e→g=165∧e=9)(hG:cx.glob 4=some zie):vu cx nat:=by
 refine ⟨zzo hP hg,?_⟩;intro f args σ out σ' h w μ vs hi hcan hids hall hv;unfold nat at h;cases h1:Nat.beq f 164 <;> rw [h1] at h
 ·rw [p6] at h;cases h2:Nat.beq f 192 <;> rw [h2] at h
  ·rw [p6] at h;cases h3:Nat.beq f 49 <;> rw [h3] at h
   ·rw [p6] at h;cases h4:Nat.beq f 99 <;> rw [h4] at h
    ·rw [p6] at h;cases h5:Nat.beq f 234 <;> rw [h5] at h
     ·cases h
     ·exact zh1 (po h5) ⟨_,by rw [hP]; exact Tryz.func234,by kernel_rfl⟩ (zsv hP hG h hi hcan hv)
    ·exact zh1 (po h4) ⟨_,by rw [hP]; exact Tryz.func99,by kernel_rfl⟩ (zq8 hP h hi hcan hv)
   ·exact zh1 (po h3) ⟨_,by rw [hP]; exact Tryz.func49,by kernel_rfl⟩ (zsu hP h hi hcan hv)
  ·exact zh1 (po h2) ⟨_,by rw [hP]; exact Tryz.func192,by kernel_rfl⟩ (zsw hP h hi hcan hv)
 ·exact zh1 (po h1) ⟨_,by rw [hP]; exact Tryz.func164,by kernel_rfl⟩ (zvi hP h hi hcan hv)
end
end Go.Vai
end
noncomputable section
namespace Go.Vai
open Go.Proofs
section
variable {α R:Type} {cx:Cx}
theorem zoe(ops:List Oper)(o:Oper)(fr:Fr)(yes no:Fr→Option α)(F:α→Option R):za (zak ops o fr yes no) F=zak ops o fr (λ fr=>za (yes fr) F) (λ fr=>za (no fr) F):=by
 unfold zak;split
 ·rfl
 ·split
  ·rfl
  ·split
   ·simp only [zz]
   ·rfl
   ·rfl
theorem zfp{m nt:Nat}{call:yu}{ops:List Oper}(F:α→Option R):∀ (l:List Oper) (fr:Fr) (σ:St) (K:Ex→Fr→St→Option α),za (qz cx m nt call ops l fr σ K) F=qz cx m nt call ops l fr σ λ e fr σ=>za (K e fr σ) F
 | [],_,_,_=>rfl
 | o::r,fr,σ,K=>by
  unfold qz;rw [zj,zoe];congr 2
  ·funext fr;rw [zq];congr 1; funext p;obtain ⟨oc,δ,fp⟩:=p;cases oc with
   | val v=>exact zfp F r _ _ K
   | pan v=>rfl
  ·funext fr;exact zfp F r _ _ K
theorem zch{m nt:Nat}{call:yu}{ops:List Oper}{pre:List Nat}(F:α→Option R):∀ (l:List Oper) (i:Nat) (log:List Log) (dead:Option (Nat×V)) (fr:Fr) (σ:St) (K:Ex→Fr→St→Option α),za (x4 cx m nt call ops pre i l log dead fr σ K) F=x4 cx m nt call ops pre i l log dead fr σ λ e fr σ=>za (K e fr σ) F
 | [],_,log,none,_,_,_=>rfl
 | [],_,log,some (k,v),_,_,_=>by unfold x4; rw [zj]
 | o::r,i,log,dead,fr,σ,K=>by
  unfold x4;rw [zz,zj,zoe,zch F r];congr 3
  ·funext fr;rw [zq];congr 1; funext p;rw [zj];congr 1;obtain ⟨oc,δ,fp⟩:=p;cases oc with
   | val v=>exact zch F r _ _ _ _ _ K
   | pan v=>cases dead with
    | none=>exact zch F r _ _ _ _ _ K
    | some _=>rfl
  ·funext fr;exact zch F r _ _ _ _ _ K
theorem zkf(m f key:Nat)(fr:Fr)(σ:St)(K:Fr→St→Option α)(F:α→Option R):za (tidy cx m f key fr σ K) F=tidy cx m f key fr σ λ fr σ=>za (K fr σ) F:=by
 unfold tidy;simp only [zj]
theorem zqz(nt:Nat)(σ:St)(fr:Fr)(q:Pend)(K:Fr→St→Option α)(F:α→Option R):za (zc6 cx nt σ fr q K) F=zc6 cx nt σ fr q λ fr σ=>za (K fr σ) F:=by
 unfold zc6;rw [zj];congr 1;split
 ·simp only [zj,zq];congr 1; congr 1; funext s; congr 1; funext pl; congr 1; funext jv; congr 1; funext v; congr 1; funext y;split
  ·split
   ·simp only [zj,zj0]
   ·rfl
  ·rfl
 ·rfl
theorem zvv(nt:Nat)(ops:List Oper)(k:Nat)(fr:Fr)(σ:St)(K:List Oper→Fr→St→Option α)(F:α→Option R):za (zal cx nt ops k fr σ K) F=zal cx nt ops k fr σ λ r fr σ=>za (K r fr σ) F:=by
 unfold zal;split
 ·rw [zq];congr 1; funext q;exact zqz ..
 ·rfl
theorem zvt(nt:Nat)(ops:List Oper)(k:Nat)(fr:Fr)(σ:St)(K:Fr→St→Option α)(F:α→Option R):za (zbm cx nt ops k fr σ K) F=zbm cx nt ops k fr σ λ fr σ=>za (K fr σ) F:=by
 unfold zbm;split
 ·rw [zq];congr 1; funext q;rw [zqz];congr 1; funext fr σ;split
  ·rw [zj,zq];congr 1; congr 1; funext pv;rw [zq];congr 1; funext v;split
   ·split
    ·rw [zj]
    ·rfl
   ·rfl
  ·rfl
 ·rfl
theorem zum{body:Fr→St→(Ex→Fr→St→Option α)→Option α}{body':Fr→St→(Ex→Fr→St→Option R)→Option R}{m f key:Nat}(F:α→Option R)
  (hb:∀ fr σ K,za (body fr σ K) F=body' fr σ λ e fr σ=>za (K e fr σ) F):∀ (n:Nat) (fr:Fr) (σ:St) (K:Ex→Fr→St→Option α),za (iter body (tidy cx m f key) n fr σ K) F=iter body' (tidy cx m f key) n fr σ λ e fr σ=>za (K e fr σ) F
 | 0,_,_,_=>rfl
 | n+1,fr,σ,K=>by
  unfold iter;rw [hb];congr 1; funext e fr σ;cases e with
  | normal=>
   refine (zkf ..).trans ?_;show tidy cx m f key fr σ _=tidy cx m f key fr σ _;congr 1; funext fr σ;exact zum F hb n fr σ K
  | _=>rfl
theorem zv0{f m nt n:Nat}{call:yu}(F:α→Option R):∀ (c:Code) (fr:Fr) (σ:St) (K:Ex→Fr→St→Option α),za (yb cx f m nt call n c fr σ K) F=yb cx f m nt call n c fr σ λ e fr σ=>za (K e fr σ) F:=by
 intro c
 induction c with
 | skip=>intros; rfl
 | label l=>intros; rfl
 | exit id=>intros; rfl
 | goto l=>intros; rfl
 | ret=>intros; rfl
 | refuse why=>intros; rfl
 | rangeFunc f params assign body _ _=>intros; rfl
 | region id ops draw=>
  intro fr σ K;cases draw
  ·unfold yb;split
   ·exact zfp F _ _ _ _
   ·rw [zfp];congr 1; funext e fr σ;cases e with
    | normal=>
     refine (zvv ..).trans ?_;show zal cx nt _ _ fr σ _=zal cx nt _ _ fr σ _;congr 1; funext r fr σ;exact zfp F _ _ _ _
    | _=>rfl
  ·unfold yb;split
   ·rw [zj,zch]
   ·rw [zj,zj,zch];congr 2;congr 1; funext e fr σ;cases e with
    | normal=>exact zvt ..
    | _=>rfl
 | seq x y ihx ihy=>
  intro fr σ K;unfold yb;rw [ihx];congr 1; funext e fr σ;cases e <;> first | rfl | exact ihy _ _ _
 | cond c x y ihx ihy=>
  intro fr σ K;unfold yb;simp only [zq,zr9,zz,ihx,ihy]
 | block id c ih=>
  intro fr σ K;unfold yb;rw [ih];congr 1; funext e fr σ;cases e with
  | normal=>exact zkf ..
  | exit id'=>
   show za (bif Nat.beq id' id then _ else _) F=bif Nat.beq id' id then _ else _;rw [zz];congr 1;exact zkf ..
  | _=>rfl
 | loop c ih=>
  intro fr σ K;unfold yb;rw [zkf];congr 1; funext fr σ;exact zum F (λ fr σ K=>ih fr σ K) n fr σ K
 | scope c ih=>
  intro fr σ K;unfold yb;rw [ih];congr 1; funext e fr σ;cases e <;> rfl
def zpy(cx:Cx)(call:CK R)(n f:Nat)(args:List V)(σ:St)(K:Out→St→Option R):Option R:=
 match cx.nat f args σ with
 | some r=>K r.1 r.2
 | none=>
 match cx.P.funcs[f]? with
 | none=>none
 | some fn=>
  match fn.body with
  | none=>none
  | some c=>bif cx.dfr f then za (qc cx call.S n f args σ) λ p=>K p.1 p.2
   else xn cx f σ.length fn.ntmps call n c (vy 0 args) σ λ e fr σ'=>za (zg9 cx f σ.length fn.results.toList e fr σ') λ p=>K p.1 p.2
theorem zx9{call:CK R}{n f:Nat}{args:List V}{σ:St}{K:Out→St→Option R}:zpy cx call n f args σ K=(match qc cx call.S n f args σ with | some (o,σ')=>K o σ' | none=>none):=by
 have e:∀ o:Option (Out×St),(match o with | some (o,σ')=>K o σ' | none=>none)=za o λ p=>K p.1 p.2:=λ o=>by rcases o with _ | ⟨_,_⟩ <;> rfl
 rw [e];unfold zpy;cases hd:cx.dfr f
 ·unfold qc;rw [hd];split
  ·rename_i r h; rw [h]; rfl
  ·rename_i h;rw [h];split
   ·rename_i h; rw [h]; rfl
   ·rename_i fn h;rw [h];split
    ·rename_i h; simp only [h]; rfl
    ·rename_i c h;simp only [h,p6];rw [zv0,zfr]
 ·simp only [p5];split
  ·rename_i r h; unfold qc; rw [h]; rfl
  ·rename_i h;split
   ·rename_i h'; unfold qc; rw [h,h']; rfl
   ·rename_i fn h';split
    ·rename_i h''; unfold qc; rw [h,h']; simp only [h'']; rfl
    ·rfl
end
def zt5(K:CK R1)(N:Nat):CK R1 where
 S:=qc cx K.S N
 run:=zpy cx K N
 ok:=λ g a σ F=>zx9
theorem ze9{K:CK R1}(h:knows cx K.S (zl cx))(N:Nat):knows cx (zt5 K N).S (zl cx):=λ f args σ r _ hr=>zrb (zfo h (Nat.le_refl N) f args σ r hr)
def zia(w:CK R1→CK R1)(N:Nat):Nat→CK R1
 | 0=>w (CK.plain xx)
 | n+1=>w (zt5 (zia w N n) N)
theorem qm{w:CK R1→CK R1}{N:Nat}(hw:∀ K:CK R1,knows cx K.S (zl cx)→knows cx (w K).S (zl cx)):∀ n,knows cx (zia w N n).S (zl cx)
 | 0=>hw _ yj
 | n+1=>hw _ (ze9 (qm hw n) N)
def zkn:List (List UInt8):=[[85],[83,49],[98,97,115,101],[110,111,114,116,104],[115,111,117,116,104],[108,111,111,112],[102,115,116],[115,110,100],[83,117,115,112],[117,110,103,108,117,101],[109,101,114,105,100],[103,108,117,101],[71,108,117,101],[80,97,116,104],[116,114,97,110,115,112],[104,99,111,109,112],[83,49,101,108,105,109],[83,117,115,112,101,108,105,109]]
def z2c:List Nat:=[0,0,0,0,0,0,1,1,1,1,1,2,2,3,3,3,4,5]
def wdK:List D:=zkn.map .str
def wdV:List D:=z2c.map λ k:Nat=>D.int .i64 k
def zz3:List D→List (List UInt8)→Bool
 | .str s::r,t::l=>decide (s=t)&&zz3 r l
 | [],[]=>true
 | _,_=>false
def zz2:List D→List Nat→Bool
 | .int .i64 n::r,m::l=>decide (n=(m:Int))&&zz2 r l
 | [],[]=>true
 | _,_=>false
def zln(ks vs:List D):Bool:=zz3 ks zkn&&zz2 vs z2c
theorem zor:∀ {r:List D} {l:List (List UInt8)},zz3 r l=true→r=l.map .str
 | [],[],_=>rfl
 | .str s::r,t::l,h=>by
  simp only [zz3,pq] at h;rw [ph h.1,zor h.2]; rfl
 | [],_::_,h=>by cases h
 | .str _::_,[],h=>by cases h
 | .bool _::_,_,h | .int _ _::_,_,h=>by cases h
theorem zoq:∀ {r:List D} {l:List Nat},zz2 r l=true→r=l.map λ k:Nat=>D.int .i64 k
 | [],[],_=>rfl
 | .int .i64 n::r,m::l,h=>by
  simp only [zz2,pq] at h;rw [ph h.1,zoq h.2]; rfl
 | [],_::_,h=>by cases h
 | .int .i64 _::_,[],h=>by cases h
theorem zi8{ks vs:List D}(h:zln ks vs=true):ks=wdK∧vs=wdV:=by
 unfold zln at h;rw [pq] at h;exact ⟨zor h.1,zoq h.2⟩
def zl5:List V→Option ((D×D×D)×List UInt8)
 | [.d (.agg [.map ks vs,g,v,i]),.d (.agg [.int .i64 _,.str s,_,_,.int .i64 _])]=>bif zln ks vs then some ((g,v,i),s) else none
 | _=>none
def zze(r:Int×Int×List UInt8):V:=.d (.agg [.int .i64 r.1,.int .i64 r.2.1,.str r.2.2,.sl 2 [],.sl 6 [],.sl 2 []])
def zot:List V→Option (List UInt8)
 | [.d (.agg [.map ks vs,_,_,_]),.d (.str s)]=>bif zln ks vs then some s else none
 | _=>none
def zib:List V→Option (List UInt8) | [.d (.str s)]=>some s | _=>none
def mk0(_:Unit):V:=.d (.int .i64 0)
def zzd(_:Unit):V:=.d (.bool false)
def zuk(_:Unit):V:=.d (.bool true)
def zov:List V→Option ((D×D×D)×D)
 | [.d (.agg [.map ks vs,g,v,i]),.d t]=>bif zln ks vs then some ((g,v,i),t) else none
 | _=>none
def mk6(r:D×D×D×D×D×D):V:=.d (.agg [r.1,r.2.1,r.2.2.1,r.2.2.2.1,r.2.2.2.2.1,r.2.2.2.2.2])
def wNm(pu pw:List UInt8→Option Unit)(pn:(D×D×D)×List UInt8→Option (Int×Int×List UInt8))(pp:(D×D×D)×List UInt8→Option Unit)(K:CK R1):CK R1:=
 xl 126 zib pu zuk (xl 79 zot pw zzd (xl 107 zl5 pn zze (xl 185 zl5 pp mk0 K)))
def wAp(f:Nat)(pa:(D×D×D)×D→Option (D×D×D×D×D×D))(K:CK R1):CK R1:=xl f zov pa mk6 K
def zus:List V→Option (((D×D×D)×List UInt8)×Int)
 | [.d (.agg [.map ks vs,g,v,i]),.d (.agg [.int .i64 _,.str s,_,_,.int .i64 a])]=>bif zln ks vs then some (((g,v,i),s),a) else none
 | _=>none
def knL:List (List UInt8):=[[85],[83,49],[98,97,115,101],[110,111,114,116,104],[115,111,117,116,104],[102,115,116],[115,110,100],[83,117,115,112],[117,110,103,108,117,101]]
def knN:List Nat:=[3,19,20,24,25,9,10,23,18]
def z2a:List D:=knL.map .str
def zyx:List D:=knN.map λ k:Nat=>D.int .i64 k
def zzf(_:Unit):V:=.d (.map z2a zyx)
def ztl:List V→Option Unit | []=>some () | _=>none
def zye:List V→Option (D×D) | [.d a,.d b]=>some (a,b) | _=>none
def zgs:List V→Option (List D×List UInt8) | [.d (.sl 1 l),.d (.str s)]=>some (l,s) | _=>none
def z5y:List V→Option (List UInt8)
 | [.d (.agg [.map ks vs,_,_,_]),.d _,.d (.str s)]=>bif zln ks vs then some s else none
 | _=>none
def z2w(_:Unit):V:=.tup []
def z08(r:Tr×Int×Int):V:=.tup [.d (trD r.1),.d (.int .i64 r.2.1),.d (.int .i64 r.2.2)]
def z0p:List V→Option (D×D×D×D) | [.d t,.d a,.d b,.d c]=>some (t,a,b,c) | _=>none
def zg4(r:(D×D×D×D×D×D)×Int×Int):V:=.tup [mk6 r.1,.d (.int .i64 r.2.1),.d (.int .i64 r.2.2)]
def K14(p12:List UInt8→Option (Tr×Int×Int))(p42:D×D×D×D→Option ((D×D×D×D×D×D)×Int×Int)):CK R1:=
 xl 12 zib p12 z08 (xl 42 z0p p42 zg4 (CK.plain xx))
def vr(n:Int):D:=.agg [.int .i64 1,.int .i64 n,.str [],.sl 2 [],.sl 6 [],.sl 2 []]
def zyi:List V→Option (List UInt8×D) | [.d (.str s),.d x]=>some (s,x) | _=>none
def zyh:List V→Option (Int×List UInt8×List UInt8×List UInt8) | [.d (.int .i64 a),.d (.str x),.d (.str y),.d (.str z)]=>some (a,x,y,z) | _=>none
def KL3(p12:List UInt8→Option (Tr×Int×Int))(p13:List UInt8→Option Int)(p15:Int×List UInt8×List UInt8×List UInt8→Option (List UInt8))(p14:List UInt8×D→Option ((D×D×D×D×D×D)×Int×Int))(p16:D×D→Option Bool):CK R1:=
 xl 11 ztl some zuk (xl 12 zib p12 z08 (xl 13 zib p13 mkI (xl 15 zyh p15 mkS (xl 14 zyi p14 zg4 (xl 16 zye p16 mkB (CK.plain xx))))))
def ztq:List V→Option ((List UInt8×Int)×(List UInt8×Int)×Int)
 | [.d (.agg [.int .i64 6,.str [],.sl 5 [.agg [.int .i64 1,.str x,.sl 5 [],.sl 1 [],.int .i64 a],.agg [.int .i64 1,.str y,.sl 5 [],.sl 1 [],.int .i64 b]],.sl 1 [],.int .i64 c])]=>some ((x,a),(y,b),c)
 | _=>none
def nmT(q:List UInt8×Int):D:=.agg [.int .i64 1,.str q.1,.sl 5 [],.sl 1 [],.int .i64 q.2]
def z0l(q:(List UInt8×Int)×(List UInt8×Int)×Int):V:=.tup [.d (nmT q.1),.d (.sl 5 [nmT q.2.1])]
def z0o:List V→Option Unit | _=>none
def z4k(p81:(D×D×D)×D→Option (D×D×D×D×D×D)):CK R1:=
 xl 149 ztq some z0l (xl 81 zov p81 mk6 (xl 150 z0o some z2w (xl 114 z0o some z2w (zt5 (CK.plain xx) 5))))
def z07(b:Bool):V:=.d (.bool b)
theorem e11:xz cx 200 11 [] []=some (.ret (z07 true),[]):=by kernel_rfl
theorem m11:zl cx 11 [] []=some (.ret (z07 true),[]):=zdf e11
theorem ym{c:UInt8}{r:List UInt8}(h:(yq (c.toNat:Int)||wl (c.toNat:Int))=false):fol (c::r):=λ d hd=>by cases hd; exact h
theorem zzu:fol []:=λ c h=>by cases h
theorem vc{x r:List UInt8}{l:List (Int×List UInt8)}(h:zb0 x)(hf:fol r)(hr:Lex r l):Lex (x++r) ((1,x)::l):=zul h r l hf hr
theorem zlf{x:List UInt8}(h:zb0 x):Lex x [(1,x)]:=by
 have:=zul h [] [] zzu .nil
 rwa [List.append_nil] at this
theorem zi4{x r:List UInt8}{l:List (Int×List UInt8)}(h:zb0 x)(hf:fol r)(hr:Lex r l):Lex (92::(x++r)) ((2,[92])::(1,x)::l):=by
 have h2:=vc h hf hr;obtain ⟨b,t,rfl,hb,_⟩:=h;exact Lex.tok (k:=2) (t:=[92]) (zy9 hb _) (by simp) (λ _=>rfl) h2
theorem zsr:zb0 [97]:=⟨97,[],rfl,rfl,by decide⟩
theorem zuj:zb0 [80,97,116,104]:=⟨80,[97,116,104],rfl,rfl,by decide⟩
theorem zq7:zb0 [104,99,111,109,112]:=⟨104,[99,111,109,112],rfl,rfl,by decide⟩
theorem znw:zb0 [83,49,101,108,105,109]:=⟨83,[49,101,108,105,109],rfl,rfl,by decide⟩
theorem zjc{I:List D}(h:Er I []):I=[]:=by cases h; rfl
theorem zm{I:List D}{k:Int}{t:List UInt8}{l:List (Int×List UInt8)}(h:Er I ((k,t)::l)):∃ a J,I=zy k t a::J∧Er J l:=by
 cases h with
 | tok h=>exact ⟨_,_,rfl,h⟩
def zc0(K:Nat)(L:List D):Option TR:=za (xr K L 0 1) λ p=>
 bif yw p then za (zg L (zo p)) λ q=>bif decide (q.1=0) then some (.ok (zc p)) else some (.bad q.2.2 61)
 else some (.bad (yy p) (xm p))
theorem zfd{s:List UInt8}{ks:List (Int×List UInt8)}(h:Lex s ks)(hl:s.length≤65536) :
  ∃ I,Er I ks∧∀ K,xu K s=zc0 K (I++[zy 0 [] (s.length:Int),zy 0 [] (s.length:Int),zy 0 [] (s.length:Int)]):=by
 obtain ⟨I,hs,he⟩:=zre h hl;refine ⟨I,he,λ K=>?_⟩;have hE:xj s=0:=by unfold xj; rw [hs]
 have hL:yr s=I++[zy 0 [] (s.length:Int)]:=by unfold yr; rw [hs]
 unfold xu zc0;rw [hE,pb rfl,p5,hL,zfn,List.append_assoc];rfl
theorem z14{s:List UInt8}{e:Nat}{l:List D}(h:Cov s e l):∀ (k:Int) (t:List UInt8) (a:Int),zy k t a∈l→t=[]∨Tk k t:=by
 induction h with
 | fin _ _=>
  intro k t a hm;rcases List.mem_singleton.1 hm with h;exact .inl (zcn h).2.1
 | tok _ _ _ ho hne _ ih=>
  intro k t a hm;cases hm with
  | head=>exact .inr (zir ho hne)
  | tail _ hm=>exact ih k t a hm
theorem z0a{e:Nat}{l:List D}(h:Cov [] e l):l.length=1:=by
 generalize hs:([]:List UInt8)=s at h;cases h with
 | fin _ _=>rfl
 | tok _ _ hlt _ _ _=>subst hs; cases hlt
def z39:Option TR→Bool | some (.ok _)=>true | _=>false
theorem zxb:v6.all (λ s=>!z39 (xu 600000 s))=true:=by kernel_rfl
theorem zzc{s:List UInt8}{t:Tr}(h:xu 600000 s=some (.ok t))(hk:t.k=1)(hn:t.nm=s):zb0 s:=by
 rcases zt9 s with ⟨I,hT⟩ | ⟨hE,_⟩
 ·rcases zua hT (Nat.le_refl 600000) with ⟨t',n,h1,_,hpos,x,hx,hW⟩ | ⟨a,e,h1,_⟩
  ·rw [h] at h1;cases h1;cases n with
   | zero=>exact hW.elim
   | succ n=>
    obtain ⟨p,hp,_,hnm,_⟩:=hW;have hps:p.2.1=s:=(hnm hk).symm.trans hn;obtain ⟨_,_,_,hg⟩:=qv hp;have hm:=pz hg;rw [zfn] at hm;have hm2:zy p.1 p.2.1 p.2.2∈I++[zy 0 [] (s.length:Int)]:=by
     rcases List.mem_append.1 hm with h | h
     ·exact h
     ·refine List.mem_append_right _ ?_;simpa using h
    rcases z14 hT.cov _ _ _ hm2 with h0 | hk
    ·rw [hps] at h0;subst h0;have hc:=hT.cov;have:=z0a hc;rw [pj] at this;simp only [p7,p8] at this;omega
    ·rw [hps] at hk;rcases hk with ⟨_,b,r,e,hb,hr⟩ | ⟨_,hs⟩
     ·exact ⟨b,r,e,hb,hr⟩
     ·have:=List.all_eq_true.1 zxb s hs;rw [h] at this;cases this
  ·rw [h] at h1; cases h1
 ·unfold xu at h;rw [pd hE,p6] at h;cases h
theorem z23{x:List UInt8}(hx:zb0 x){y:List UInt8}(hy:zb0 y):Lex (92::(x++(32::(y++(46::(32::(x++(32::y)))))))) [(2,[92]),(1,x),(1,y),(2,[46]),(1,x),(1,y)]:=
 (zi4 hx (ym rfl) (.blank (vc (x:=y) hy (ym rfl) (zvk _ _ (.blank (vc (x:=x) hx (ym rfl) (.blank (zlf hy))))))))
theorem z21{x:List UInt8}(hx:zb0 x){y:List UInt8}(hy:zb0 y){i:List UInt8}(hi:zb0 i):Lex (40::(x++(32::(58::(32::(97::(41::(32::(45::62::(32::(40::(y++(32::(58::(32::(x++(41::(32::(42::(32::(80::97::116::104::(32::(40::(60::(i++(62::(32::(x++(41::(32::(y++(32::y)))))))))))))))))))))))))))))))) [(2,[40]),(1,x),(2,[58]),(1,[97]),(2,[41]),(2,[45,62]),(2,[40]),(1,y),(2,[58]),(1,x),(2,[41]),(2,[42]),(1,[80,97,116,104]),(2,[40]),(2,[60]),(1,i),(2,[62]),(1,x),(2,[41]),(1,y),(1,y)]:=
 (zs2 _ _ (vc (x:=x) hx (ym rfl) (.blank (z29 _ _ (.blank (vc (x:=[97]) zsr (ym rfl) (zs1 _ _ (.blank (zxm _ _ (.blank (zs2 _ _ (vc (x:=y) hy (ym rfl) (.blank (z29 _ _ (.blank (vc (x:=x) hx (ym rfl) (zs1 _ _ (.blank (z41 _ _ (.blank (vc (x:=[80,97,116,104]) zuj (ym rfl) (.blank (zs2 _ _ (zxo _ _ (vc (x:=i) hi (ym rfl) (zxn _ _ (.blank (vc (x:=x) hx (ym rfl) (zs1 _ _ (.blank (vc (x:=y) hy (ym rfl) (.blank (zlf hy)))))))))))))))))))))))))))))))))
theorem z2z{x:List UInt8}(hx:zb0 x){i:List UInt8}(hi:zb0 i):Lex (92::(x++(46::(32::(60::(i++(62::(32::(x++(32::(64::(32::(40::(i++(32::(47::92::(32::(126::(i++(41::[])))))))))))))))))))) [(2,[92]),(1,x),(2,[46]),(2,[60]),(1,i),(2,[62]),(1,x),(2,[64]),(2,[40]),(1,i),(2,[47,92]),(2,[126]),(1,i),(2,[41])]:=
 (zi4 hx (ym rfl) (zvk _ _ (.blank (zxo _ _ (vc (x:=i) hi (ym rfl) (zxn _ _ (.blank (vc (x:=x) hx (ym rfl) (.blank (z26 _ _ (.blank (zs2 _ _ (vc (x:=i) hi (ym rfl) (.blank (z1f _ _ (.blank (z3a _ _ (vc (x:=i) hi (ym rfl) (zs1 _ _ .nil)))))))))))))))))))
theorem z2y{x:List UInt8}(hx:zb0 x){y:List UInt8}(hy:zb0 y){i:List UInt8}(hi:zb0 i):Lex (92::(x++(46::(32::(60::(i++(62::(32::(104::99::111::109::112::(32::(97::(32::(91::(40::(i++(61::(48::(41::(32::(45::62::(32::(60::(y++(62::(32::(x++(32::(64::(32::(y++(93::(32::x)))))))))))))))))))))))))))))))) [(2,[92]),(1,x),(2,[46]),(2,[60]),(1,i),(2,[62]),(1,[104,99,111,109,112]),(1,[97]),(2,[91]),(2,[40]),(1,i),(2,[61]),(2,[48]),(2,[41]),(2,[45,62]),(2,[60]),(1,y),(2,[62]),(1,x),(2,[64]),(1,y),(2,[93]),(1,x)]:=
 (zi4 hx (ym rfl) (zvk _ _ (.blank (zxo _ _ (vc (x:=i) hi (ym rfl) (zxn _ _ (.blank (vc (x:=[104,99,111,109,112]) zq7 (ym rfl) (.blank (vc (x:=[97]) zsr (ym rfl) (.blank (z4y _ _ (zs2 _ _ (vc (x:=i) hi (ym rfl) (z4z _ _ (z40 _ _ (zs1 _ _ (.blank (zxm _ _ (.blank (zxo _ _ (vc (x:=y) hy (ym rfl) (zxn _ _ (.blank (vc (x:=x) hx (ym rfl) (.blank (z26 _ _ (.blank (vc (x:=y) hy (ym rfl) (z4x _ _ (.blank (zlf hx))))))))))))))))))))))))))))))))
theorem z2x{x:List UInt8}(hx:zb0 x){y:List UInt8}(hy:zb0 y){i:List UInt8}(hi:zb0 i):Lex (92::(x++(46::(32::(92::(y++(46::(32::(83::49::101::108::105::109::(32::(40::(92::(x++(46::(32::(97::(41::(32::(y++(32::(40::(60::(i++(62::(32::(y++(41::(32::x)))))))))))))))))))))))))))) [(2,[92]),(1,x),(2,[46]),(2,[92]),(1,y),(2,[46]),(1,[83,49,101,108,105,109]),(2,[40]),(2,[92]),(1,x),(2,[46]),(1,[97]),(2,[41]),(1,y),(2,[40]),(2,[60]),(1,i),(2,[62]),(1,y),(2,[41]),(1,x)]:=
 (zi4 hx (ym rfl) (zvk _ _ (.blank (zi4 hy (ym rfl) (zvk _ _ (.blank (vc (x:=[83,49,101,108,105,109]) znw (ym rfl) (.blank (zs2 _ _ (zi4 hx (ym rfl) (zvk _ _ (.blank (vc (x:=[97]) zsr (ym rfl) (zs1 _ _ (.blank (vc (x:=y) hy (ym rfl) (.blank (zs2 _ _ (zxo _ _ (vc (x:=i) hi (ym rfl) (zxn _ _ (.blank (vc (x:=y) hy (ym rfl) (zs1 _ _ (.blank (zlf hx))))))))))))))))))))))))))
theorem a79(n:Nat)(ks vs:List D)(a b c:D)(s:List UInt8):zx cx (CK.plain xx) n 79 [.d (.agg [.map ks vs,a,b,c]),.d (.str s)] []=za (zah (D.str s) ks 0) λ o=>zk3 o (λ i=>vh vs i λ y=>match y with | D.int k' n=>bif decide (k'=IntKind.i64) then some (Out.ret (V.d (D.bool true)),[]) else none | x=>none) (some (Out.ret (V.d (D.bool false)),[])):=by kernel_rfl
theorem z5q(n:Nat)(l:List (List UInt8))(s:List UInt8):zx cx (CK.plain xx) n 132 [.d (.sl 1 (l.map .str)),.d (.str s)] []=LP cx (CK.plain xx) n 132 0 2 n [(0,V.d (D.sl 1 (List.map D.str l))),(1,V.d (D.str s)),(7,V.d (D.int .i64 (↑(List.map D.str l).length:Int))),(8,V.d (D.int .i64 (0:Int)))] [] (AK cx (CK.plain xx) n 132 0 2 (EK cx 132 0)):=by kernel_rfl
theorem z34(n k:Nat)(l:List (List UInt8))(s:List UInt8)(i:Int):LP cx (CK.plain xx) n 132 0 2 (k+1) [(0,.d (.sl 1 (l.map .str))),(1,.d (.str s)),(7,.d (.int .i64 (l.length:Int))),(8,.d (.int .i64 i))] [] (AK cx (CK.plain xx) n 132 0 2 (EK cx 132 0))=bif decide (i<(↑l.length:Int)) then zh (decide (0≤i)&&decide (i<(↑(List.map D.str l).length:Int))) (vh (List.map D.str l) i.toNat λ y=>vh y.cells 0 λ c=>match c with | D.str s_1=>bif decide (s=s_1) then some (Out.ret (V.d (D.int .i64 i)),[]) else LP cx (CK.plain xx) n 132 0 2 k [(0,V.d (D.sl 1 (List.map D.str l))),(1,V.d (D.str s)),(7,V.d (D.int .i64 (↑l.length:Int))),(8,V.d (D.int .i64 (IntKind.i64.wrap (i+(1:Int)))))] [] (AK cx (CK.plain xx) n 132 0 2 (EK cx 132 0)) | x=>none) else some (Out.ret (V.d (D.int .i64 (Int.negSucc 0))),[]):=by kernel_rfl
theorem z5s(pw:List UInt8→Option Unit)(pi:List D×List UInt8→Option Int)(pc:List D×List UInt8→Option Bool)(n:Nat)(ks vs g v:List D)(i:D)(s:List UInt8)(k a:Int)(kd nm:D):zx cx (zia (λ K=>xl 146 ztl some zzf (xl 79 zot pw zzd (xl 132 zgs pi mkI (xl 90 zgs pc mkB K)))) 5 3) n 107 [.d (.agg [.map wdK wdV,.sl 1 g,.sl 1 v,i]),.d (.agg [.int .i64 k,.str s,kd,nm,.int .i64 a])] []=za (zah (D.str s) (knL.map D.str) 0) λ o=>zk3 o (λ i=>vh zyx i λ y=>match y with | D.int k' n=>bif decide (k'=IntKind.i64) then za (zah (D.str s) (zkn.map D.str) 0) λ o=>zk3 o (λ i=>vh wdV i λ y=>match y with | D.int k' n_1=>bif decide (k'=IntKind.i64) then bif decide (n_1=(0:Int)) then some (Out.ret (V.d (D.agg [D.int .i64 n,D.int .i64 (0:Int),D.str [],D.sl 2 [],D.sl 6 [],D.sl 2 []])),[]) else za (pw s) λ b=>za (pi (v,s)) λ b=>bif decide ((0:Int)≤b) then some (Out.ret (V.d (D.agg [D.int .i64 (1:Int),D.int .i64 b,D.str [],D.sl 2 [],D.sl 6 [],D.sl 2 []])),[]) else za (pc (g,s)) λ b=>bif !b then some (Out.pan (V.d (D.iface 133 (D.agg [D.int .i64 a,D.int .i64 (90:Int)]))),[]) else some (Out.ret (V.d (D.agg [D.int .i64 (2:Int),D.int .i64 (0:Int),D.str s,D.sl 2 [],D.sl 6 [],D.sl 2 []])),[]) else none | x=>none) (some (Out.ret (V.d (D.agg [D.int .i64 n,D.int .i64 (0:Int),D.str [],D.sl 2 [],D.sl 6 [],D.sl 2 []])),[])) else none | x=>none) (za (pw s) λ b=>za (pi (v,s)) λ b=>bif decide ((0:Int)≤b) then some (Out.ret (V.d (D.agg [D.int .i64 (1:Int),D.int .i64 b,D.str [],D.sl 2 [],D.sl 6 [],D.sl 2 []])),[]) else za (pc (g,s)) λ b=>bif !b then some (Out.pan (V.d (D.iface 133 (D.agg [D.int .i64 a,D.int .i64 (90:Int)]))),[]) else some (Out.ret (V.d (D.agg [D.int .i64 (2:Int),D.int .i64 (0:Int),D.str s,D.sl 2 [],D.sl 6 [],D.sl 2 []])),[])):=by kernel_rfl
theorem a13(s:List UInt8):zx cx (CK.plain xx) 30 13 [.d (.str s)] []=bif decide ([85]=s) then some (Out.ret (V.d (D.int .i64 0)),[]) else bif decide ([83,49]=s) then some (Out.ret (V.d (D.int .i64 0)),[]) else bif decide ([98,97,115,101]=s) then some (Out.ret (V.d (D.int .i64 0)),[]) else bif decide ([110,111,114,116,104]=s) then some (Out.ret (V.d (D.int .i64 0)),[]) else bif decide ([115,111,117,116,104]=s) then some (Out.ret (V.d (D.int .i64 0)),[]) else bif decide ([108,111,111,112]=s) then some (Out.ret (V.d (D.int .i64 0)),[]) else bif decide ([102,115,116]=s) then some (Out.ret (V.d (D.int .i64 1)),[]) else bif decide ([115,110,100]=s) then some (Out.ret (V.d (D.int .i64 1)),[]) else bif decide ([83,117,115,112]=s) then some (Out.ret (V.d (D.int .i64 1)),[]) else bif decide ([117,110,103,108,117,101]=s) then some (Out.ret (V.d (D.int .i64 1)),[]) else bif decide ([109,101,114,105,100]=s) then some (Out.ret (V.d (D.int .i64 1)),[]) else bif decide ([103,108,117,101]=s) then some (Out.ret (V.d (D.int .i64 2)),[]) else bif decide ([71,108,117,101]=s) then some (Out.ret (V.d (D.int .i64 2)),[]) else bif decide ([80,97,116,104]=s) then some (Out.ret (V.d (D.int .i64 3)),[]) else bif decide ([116,114,97,110,115,112]=s) then some (Out.ret (V.d (D.int .i64 3)),[]) else bif decide ([104,99,111,109,112]=s) then some (Out.ret (V.d (D.int .i64 3)),[]) else bif decide ([83,49,101,108,105,109]=s) then some (Out.ret (V.d (D.int .i64 4)),[]) else bif decide ([83,117,115,112,101,108,105,109]=s) then some (Out.ret (V.d (D.int .i64 5)),[]) else some (Out.ret (V.d (D.int .i64 (Int.negSucc 0))),[]):=by kernel_rfl
theorem a90(pi:List D×List UInt8→Option Int)(l:List D)(s:List UInt8):zx cx (xl 132 zgs pi mkI (CK.plain xx)) 0 90 [.d (.sl 1 l),.d (.str s)] []=za (pi (l,s)) λ r=>some (Out.ret (V.d (D.bool (decide (0≤r)))),[]):=by kernel_rfl
theorem z5p(pi:List D×List UInt8→Option Int)(g v:D)(l:List D)(k a:Int)(s:List UInt8)(kd nm:D):zx cx (xl 132 zgs pi mkI (zt5 (CK.plain xx) 5)) 5 185 [.d (.agg [.map wdK wdV,g,v,.sl 1 l]),.d (.agg [.int .i64 k,.str s,kd,nm,.int .i64 a])] []=za (pi (l,s)) λ r=>bif decide (r<0) then some (Out.pan (V.d (D.iface 133 (D.agg [D.int .i64 a,D.int .i64 90]))),[]) else some (Out.ret (V.d (D.int .i64 r)),[]):=by kernel_rfl
theorem z5r(p81:(D×D×D)×D→Option (D×D×D×D×D×D))(g v i:D)(x y:List UInt8)(a b c:Int):zx cx (z4k p81) 5 112 [.d (.agg [.map wdK wdV,g,v,i]),.d (.agg [.int .i64 6,.str [],.sl 5 [.agg [.int .i64 1,.str x,.sl 5 [],.sl 1 [],.int .i64 a],.agg [.int .i64 1,.str y,.sl 5 [],.sl 1 [],.int .i64 b]],.sl 1 [],.int .i64 c])] []=za (zah (D.str x) (zkn.map D.str) 0) λ o=>zk3 o (λ i=>vh wdV i λ y_1=>match y_1 with | D.int k' n=>bif decide (k'=IntKind.i64) then bif decide ((↑[D.agg [D.int .i64 (1:Int),D.str y,D.sl 5 [],D.sl 1 [],D.int .i64 ((x,a),(y,b),c).snd.fst.snd]].length:Int)<n) then none else bif decide (x=[109,101,114,105,100]) then none else bif decide (x=[108,111,111,112]) then none else zh (decide (0≤n)&&decide (n≤(↑[D.agg [D.int .i64 (1:Int),D.str y,D.sl 5 [],D.sl 1 [],D.int .i64 ((x,a),(y,b),c).snd.fst.snd]].length:Int))) none else none | x=>none) (za (p81 ((g,v,i),D.agg [D.int .i64 (1:Int),D.str x,D.sl 5 [],D.sl 1 [],D.int .i64 a])) λ b_1=>za (p81 ((g,v,i),D.agg [D.int .i64 (1:Int),D.str y,D.sl 5 [],D.sl 1 [],D.int .i64 b])) λ b=>some (Out.ret (V.d (D.agg [D.int .i64 (6:Int),D.int .i64 (0:Int),D.str [],D.sl 2 [],D.sl 6 [D.agg [b_1.1,b_1.snd.1,b_1.snd.snd.1,b_1.snd.snd.snd.1,b_1.snd.snd.snd.snd.1,b_1.snd.snd.snd.snd.2],D.agg [b.1,b.snd.1,b.snd.snd.1,b.snd.snd.snd.1,b.snd.snd.snd.snd.1,b.snd.snd.snd.snd.2]],D.sl 2 []])),[])):=by kernel_rfl
theorem a14(p12:List UInt8→Option (Tr×Int×Int))(p42:D×D×D×D→Option ((D×D×D×D×D×D)×Int×Int))(s:List UInt8)(g v i:List D):zx cx (K14 p12 p42) 5 14 [.d (.str s),.d (.agg [.sl 1 g,.sl 1 v,.sl 1 i])] []=bif decide (s.length≤4611686018427387904) then za (p12 s) λ r=>bif !decide (r.snd.snd=0) then some (Out.ret (V.tup [V.d (D.agg [D.int .i64 0,D.int .i64 0,D.str [],D.sl 2 [],D.sl 6 [],D.sl 2 []]),V.d (D.int .i64 r.snd.fst),V.d (D.int .i64 r.snd.snd)]),[]) else za (p42 (D.agg [D.int .i64 r.fst.k,D.str r.fst.2,D.sl 5 r.fst.3,D.sl 1 r.fst.4,D.int .i64 r.fst.pl],D.sl 1 g,D.sl 1 v,D.sl 1 i)) λ r=>some (Out.ret (V.tup [V.d (D.agg [r.fst.1,r.fst.snd.1,r.fst.snd.snd.1,r.fst.snd.snd.snd.1,r.fst.snd.snd.snd.snd.1,r.fst.snd.snd.snd.snd.2]),V.d (D.int .i64 r.snd.fst),V.d (D.int .i64 r.snd.snd)]),[]) else none:=by kernel_rfl
def znd(s:List UInt8):Bool:=zkn.any λ t=>decide (s=t)
theorem zc9{s:List UInt8}:∀ (ks:List (List UInt8)) (i:Nat),(ks.any λ t=>decide (s=t))=false→zah (.str s) (ks.map .str) i=some none
 | [],_,_=>rfl
 | t::ks,i,h=>by
  rw [List.any_cons,Bool.or_eq_false_iff] at h;show (bif decide (s=t) then some (some i) else zah (.str s) (ks.map .str) (i+1))=_;rw [h.1,p6];exact zc9 ks (i+1) h.2
theorem zzn{s:List UInt8}(h:znd s=false):(knL.any λ t=>decide (s=t))=false:=by
 unfold znd zkn at h;unfold knL;simp only [List.any_cons,List.any_nil,Bool.or_eq_false_iff,Bool.or_false] at h ⊢;exact ⟨h.1,h.2.1,h.2.2.1,h.2.2.2.1,h.2.2.2.2.1,h.2.2.2.2.2.2.1,h.2.2.2.2.2.2.2.1,h.2.2.2.2.2.2.2.2.1,h.2.2.2.2.2.2.2.2.2.1⟩
theorem z4v(l:List (List UInt8))(s:List UInt8)(hl:zo8 l=true):zl cx 132 [.d (.sl 1 (l.map .str)),.d (.str s)] []=some (.ret (mkI (zez (λ t=>decide (s=t)) l)),[]):=by
 refine zt yj (N:=l.length+1) ?_;rw [z5q,pm]
 have h:=ztc (λ k i=>LP cx (CK.plain xx) (l.length+1) 132 0 2 k [(0,.d (.sl 1 (l.map .str))),(1,.d (.str s)),(7,.d (.int .i64 (l.length:Int))),(8,.d (.int .i64 i))] [] (AK cx (CK.plain xx) (l.length+1) 132 0 2 (EK cx 132 0)))
  l (λ t=>decide (s=t)) (λ j=>some (Out.ret (V.d (D.int .i64 j)),[])) (some (Out.ret (V.d (D.int .i64 (Int.negSucc 0))),[])) (zy5 hl)
  (λ k j x hj hx=>by
   rw [z34,pm,z1e hj,z06,zvg,px,hx];rfl) (λ k=>by rw [z34,z1z,p6]) (Nat.lt_succ_self _)
 refine h.trans ?_;unfold zez;cases yn (λ t=>decide (s=t)) l 0 <;> rfl
def ze0(q:List D×List UInt8):Option Int:=za (strs q.1) λ l=>zh (zo8 l) (some (zez (λ t=>decide (q.2=t)) l))
def zu2(q:List D×List UInt8):Option Bool:=za (ze0 q) λ b=>some (decide (0≤b))
theorem zl6{a:List V}{q}(h:zgs a=some q):a=[.d (.sl 1 q.1),.d (.str q.2)]:=by
 unfold zgs at h; split at h <;> cases h; rfl
theorem z1w{K:CK R1}(hK:knows cx K.S (zl cx)):knows cx (xl 132 zgs ze0 mkI K).S (zl cx):=yp hK λ a q b _ h hb=>by
 rw [zl6 h];obtain ⟨l,hl,hb⟩:=zb hb;obtain ⟨h1,hb⟩:=zd hb;cases hb;rw [znl hl];exact z4v l q.2 h1
theorem k90{K:CK R1}(hK:knows cx K.S (zl cx)):knows cx (xl 90 zgs zu2 mkB K).S (zl cx):=yp hK λ a q b _ h hb=>by
 rw [zl6 h];obtain ⟨r,hr,hb⟩:=zb hb;cases hb;refine zt (z1w yj) (N:=0) ?_;rw [a90];show za (ze0 q) _=_;rw [hr];rfl
def spW(s:List UInt8):Option Unit:=bif znd s then none else some ()
theorem ztk{a:List V}{s}(h:zot a=some s):∃ x y z,a=[.d (.agg [.map wdK wdV,x,y,z]),.d (.str s)]:=by
 unfold zot at h;split at h
 ·rename_i ks vs x y z u;cases hw:zln ks vs
  ·rw [hw] at h; cases h
  ·rw [hw] at h;cases h;obtain ⟨rfl,rfl⟩:=zi8 hw;exact ⟨_,_,_,rfl⟩
 ·cases h
theorem zqr{s:List UInt8}{b:Unit}(h:spW s=some b):znd s=false:=by
 unfold spW at h;cases hw:znd s
 ·rfl
 ·rw [hw] at h; cases h
theorem k79{K:CK R1}(hK:knows cx K.S (zl cx)):knows cx (xl 79 zot spW zzd K).S (zl cx):=yp hK λ a q b _ h hb=>by
 obtain ⟨x,y,z,rfl⟩:=ztk h;refine zt yj (N:=0) ?_;rw [a79,show wdK=zkn.map D.str from rfl,zc9 zkn 0 (zqr hb)];rfl
theorem zl2{a:List V}{q:Unit}(h:ztl a=some q):a=[]:=by
 unfold ztl at h; split at h
 ·rfl
 ·cases h
theorem z5h:xz cx 5 146 [] []=some (.ret (zzf ()),[]):=by kernel_rfl
theorem z44{K:CK R1}(hK:knows cx K.S (zl cx)):knows cx (xl 146 ztl some zzf K).S (zl cx):=yp hK λ a q b _ h hb=>by
 rw [zl2 h];exact zdf z5h
def zbe(q:(D×D×D)×List UInt8):Option (Int×Int×List UInt8):=
 match q.1.1,q.1.2.1 with
 | .sl 1 g,.sl 1 v=>za (spW q.2) λ _=>za (ze0 (v,q.2)) λ b=>bif decide (0≤b) then some (1,b,[]) else za (zu2 (g,q.2)) λ c=>bif c then some (2,0,q.2) else none
 | _,_=>none
theorem zjy{a:List V}{q}(h:zus a=some q):∃ k kd nm,a=[.d (.agg [.map wdK wdV,q.1.1.1,q.1.1.2.1,q.1.1.2.2]),.d (.agg [.int .i64 k,.str q.1.2,kd,nm,.int .i64 q.2])]:=by
 unfold zus at h;split at h
 ·rename_i ks vs x y z k s kd nm a;cases hw:zln ks vs
  ·rw [hw] at h; cases h
  ·rw [hw] at h;cases h;obtain ⟨rfl,rfl⟩:=zi8 hw;exact ⟨_,_,_,rfl⟩
 ·cases h
theorem zl4{a:List V}{q}(h:zl5 a=some q):∃ p,zus a=some (q,p):=by
 unfold zl5 at h;unfold zus;split at h
 ·rename_i ks vs x y z k s kd nm a;cases hw:zln ks vs
  ·rw [hw] at h; cases h
  ·rw [hw] at h;cases h;exact ⟨a,rfl⟩
 ·cases h
theorem zt3:∀ n,knows cx (zia (λ K=>xl 146 ztl some zzf (xl 79 zot spW zzd (xl 132 zgs ze0 mkI (xl 90 zgs zu2 mkB K)))) 5 n).S (zl cx):=
 qm λ _ h=>z44 (k79 (z1w (k90 h)))
theorem z36{K:CK R1}(hK:knows cx K.S (zl cx)):knows cx (xl 107 zl5 zbe zze K).S (zl cx):=yp hK λ a q b _ h hb=>by
 obtain ⟨p,h⟩:=zl4 h;obtain ⟨k,kd,nm,rfl⟩:=zjy h;obtain ⟨⟨g,v,i⟩,s⟩:=q;unfold zbe at hb;split at hb
 ·rename_i g v hg hv;obtain rfl:_=D.sl 1 _:=hg;obtain rfl:_=D.sl 1 _:=hv;obtain ⟨u,hu,hb⟩:=zb hb;obtain ⟨c,hc,hb⟩:=zb hb;refine zt (zt3 3) (N:=0) ?_;show zx cx _ 0 107 [.d (.agg [.map wdK wdV,.sl 1 g,.sl 1 v,i]),.d (.agg [.int .i64 k,.str s,kd,nm,.int .i64 p])] []=_;rw [z5s _ _ _ _ g v,zc9 knL 0 (zzn (zqr hu))];show za (spW s) _=_;rw [hu];show za (ze0 (v,s)) _=_;rw [hc];show (bif decide (0≤c) then _ else _)=_;cases h0:decide (0≤c)
  ·rw [h0,p6] at hb;obtain ⟨d,hd,hb⟩:=zb hb;show za (zu2 (g,s)) _=_;rw [hd];cases d
   ·cases hb
   ·cases hb; rfl
  ·rw [h0,p5] at hb;cases hb;rfl
 ·cases hb
def zj4(q:(D×D×D)×List UInt8):Option Unit:=
 match q.1.2.2 with
 | .sl 1 l=>za (ze0 (l,q.2)) λ b=>bif decide (b=0) then some () else none
 | _=>none
theorem z43{K:CK R1}(hK:knows cx K.S (zl cx)):knows cx (xl 185 zl5 zj4 mk0 K).S (zl cx):=yp hK λ a q b _ h hb=>by
 obtain ⟨p,h⟩:=zl4 h;obtain ⟨k,kd,nm,rfl⟩:=zjy h;obtain ⟨⟨g,v,i⟩,s⟩:=q;unfold zj4 at hb;split at hb
 ·rename_i l hl;obtain rfl:_=D.sl 1 _:=hl;obtain ⟨c,hc,hb⟩:=zb hb;refine zt (z1w (ze9 yj 5)) (N:=5) ?_;show zx cx _ 5 185 [.d (.agg [.map wdK wdV,g,v,.sl 1 l]),.d (.agg [.int .i64 k,.str s,kd,nm,.int .i64 p])] []=_;rw [z5p];show za (ze0 (l,s)) _=_;rw [hc];cases h0:decide (c=0)
  ·rw [h0] at hb; cases hb
  ·have:=ph h0;subst this;rfl
 ·cases hb
def spU(s:List UInt8):Option Unit:=zh (decide (s.length≤big)&&q8 s) (some ())
theorem zem{a:List V}{s}(h:zib a=some s):a=[.d (.str s)]:=by
 unfold zib at h; split at h <;> cases h; rfl
theorem z45{K:CK R1}(hK:knows cx K.S (zl cx)):knows cx (xl 126 zib spU zuk K).S (zl cx):=yp hK λ a q b _ h hb=>by
 rw [zem h];obtain ⟨h1,_⟩:=zd hb;rw [pq] at h1;have:=z3k q (ph h1.1);rw [h1.2] at this;exact this
theorem zdm{K:CK R1}(hK:knows cx K.S (zl cx)):knows cx (wNm spU spW zbe zj4 K).S (zl cx):=z45 (k79 (z36 (z43 hK)))
theorem zxj{x:List UInt8}(h:zb0 x)(hl:x.length≤1000):q8 x=true:=by
 obtain ⟨I,hs,he⟩:=zre (zlf h) (by omega)
 obtain ⟨a,J,rfl,he2⟩:=zm he;obtain rfl:=zjc he2;unfold q8 xj yr;rw [hs];show (decide ((0:Int)=0)&&(decide ((1:Int)=1)&&decide (x=x)))=true;simp
theorem zgy{x:List UInt8}(h:zb0 x)(hl:x.length≤1000):spU x=some ():=by
 unfold spU;rw [zxj h hl,pb (by unfold big; omega)]
 rfl
theorem z0y{x:List UInt8}(h:znd x=false):spW x=some ():=by
 unfold spW; rw [h]; rfl
open Classical in
def atQ{α β:Type}(a:α)(b:β)(x:α):Option β:=if x=a then some b else none
theorem zmn{α β:Type}{a:α}{b:β}:atQ a b a=some b:=by unfold atQ; rw [if_pos rfl]
theorem zmm{α β:Type}{a x:α}{b c:β}(h:atQ a b x=some c):x=a∧c=b:=by
 unfold atQ at h;split at h
 ·cases h; exact ⟨by assumption,rfl⟩
 ·cases h
theorem m14{s:List UInt8}{g v i:List D}{t:Tr}{r:(D×D×D×D×D×D)×Int×Int}(hs:s.length≤big)(ht:xu 600000 s=some (.ok t))
  (h42:zl cx 42 [.d (trD t),.d (.sl 1 g),.d (.sl 1 v),.d (.sl 1 i)] []=some (.ret (zg4 r),[])) :
  zl cx 14 [.d (.str s),.d (.agg [.sl 1 g,.sl 1 v,.sl 1 i])] []=some (.ret (zg4 r),[]):=by
 have hk:knows cx (K14 (atQ s (t,0,0)) (atQ (trD t,D.sl 1 g,D.sl 1 v,D.sl 1 i) r)).S (zl cx):=
  yp (yp yj λ a q b _ h hb=>by
   obtain ⟨rfl,rfl⟩:=zmm hb;unfold z0p at h;split at h <;> cases h;exact h42) λ a q b _ h hb=>by
   obtain ⟨rfl,rfl⟩:=zmm hb;rw [zem h];exact zxv 600000 q hs _ ht trivial
 refine zt hk (N:=5) ?_;rw [a14,pb (show s.length≤4611686018427387904 from hs),p5,zmn];show za (atQ (trD t,D.sl 1 g,D.sl 1 v,D.sl 1 i) r (trD t,D.sl 1 g,D.sl 1 v,D.sl 1 i)) _=_;rw [zmn];rfl
def zis:List (List UInt8×Int)→List UInt8→Int
 | [],_=>-1
 | (w,n)::r,s=>bif decide (w=s) then n else zis r s
def zfc:List (List UInt8×Int):=zkn.zip [0,0,0,0,0,0,1,1,1,1,1,2,2,3,3,3,4,5]
theorem z0d(c:Bool)(x y:Int):(bif c then some (Out.ret (V.d (D.int .i64 x)),([]:St)) else some (Out.ret (V.d (D.int .i64 y)),[]))=some (Out.ret (V.d (D.int .i64 (bif c then x else y))),[]):=by cases c <;> rfl
theorem m13(s:List UInt8):zl cx 13 [.d (.str s)] []=some (.ret (mkI (zis zfc s)),[]):=by
 refine zt yj (N:=30) ?_;rw [a13];simp only [z0d];rfl
theorem zw1{s:List UInt8}:∀ (l:List (List UInt8×Int)),(l.all λ p=>decide (0≤p.2))=true→zis l s<0→((l.map (·.1)).any λ t=>decide (s=t))=false
 | [],_,_=>rfl
 | (w,n)::r,ha,h=>by
  rw [List.all_cons,pq] at ha;have h0:(0:Int)≤n:=ph ha.1;unfold zis at h;by_cases e:w=s
  ·rw [pb e,p5] at h; omega
  ·rw [pd e,p6] at h;rw [List.map_cons,List.any_cons,pd (show ¬ s=w from λ h=>e h.symm),zw1 r ha.2 h];rfl
theorem z2h{s:List UInt8}(h:zis zfc s<0):znd s=false:=zw1 zfc (by decide) h
def okN(x:List UInt8):Prop:=zb0 x∧x.length≤1000∧znd x=false
theorem okN.ln{x:List UInt8}(h:okN x):decide (x.length≤4611686018427387904)=true:=pb (by have:=h.2.1; omega)
theorem okN.uu{x:List UInt8}(h:okN x):spU x=some ():=zgy h.1 h.2.1
theorem okN.ww{x:List UInt8}(h:okN x):spW x=some ():=z0y h.2.2
theorem zq4:okN [97]:=⟨zsr,by decide,by decide⟩
theorem zt4{x w:List UInt8}(h:okN x)(hm:w∈zkn):decide (x=w)=false:=by
 have h2:=h.2.2;unfold znd at h2;rw [List.any_eq_false] at h2;have:=h2 w hm;simpa using this
theorem zcr{g v:List D}{i:D}{lv:List (List UInt8)}{s:List UInt8}(n:Nat)(hw:spW s=some ())(hv:strs v=some lv)(hs:zo8 lv=true)(hf:yn (λ t=>decide (s=t)) lv 0=some n):zbe ((.sl 1 g,.sl 1 v,i),s)=some (1,(n:Int),[]):=by
 have h1:ze0 (v,s)=some (n:Int):=by
  show za (strs v) _=_;rw [hv,zi,hs];show some (zez (λ t=>decide (s=t)) lv)=_;unfold zez;rw [hf]
 show za (spW s) _=_;rw [hw,zi,h1,zi,pb (Int.natCast_nonneg n)];rfl
theorem z38{v:List D}{lv:List (List UInt8)}{s:List UInt8}(hv:strs v=some lv)(hs:zo8 lv=true)(hf:yn (λ t=>decide (s=t)) lv 0=none):ze0 (v,s)=some (-1):=by
 show za (strs v) _=_;rw [hv,zi,hs];show some (zez (λ t=>decide (s=t)) lv)=_;unfold zez;rw [hf]
theorem z0n{v:List D}{lv:List (List UInt8)}{s:List UInt8}(n:Nat)(hv:strs v=some lv)(hs:zo8 lv=true)(hf:yn (λ t=>decide (s=t)) lv 0=some n):ze0 (v,s)=some (n:Int):=by
 show za (strs v) _=_;rw [hv,zi,hs];show some (zez (λ t=>decide (s=t)) lv)=_;unfold zez;rw [hf]
theorem zsn{g v:List D}{i:D}{lv lg:List (List UInt8)}{s:List UInt8}(n:Nat)(hw:spW s=some ())(hv:strs v=some lv)(hs:zo8 lv=true)(hf:yn (λ t=>decide (s=t)) lv 0=none)
  (hg:strs g=some lg) (hs':zo8 lg=true) (hf':yn (λ t=>decide (s=t)) lg 0=some n):zbe ((.sl 1 g,.sl 1 v,i),s)=some (2,0,s):=by
 show za (spW s) _=_;rw [hw,zi,z38 hv hs hf,zi];show za (zu2 (g,s)) _=_;unfold zu2;rw [z0n n hg hs' hf',zi,pb (Int.natCast_nonneg n)];rfl
theorem zxf{g v:D}{l:List D}{ll:List (List UInt8)}{s:List UInt8}(hv:strs l=some ll)(hs:zo8 ll=true)(hf:yn (λ t=>decide (s=t)) ll 0=some 0):zj4 ((g,v,.sl 1 l),s)=some ():=by
 show za (ze0 (l,s)) _=_;rw [z0n 0 hv hs hf];rfl
structure Ok3 (x y i:List UInt8):Prop where
 ox:okN x
 oy:okN y
 oi:okN i
 xy:x ≠ y
 xi:x ≠ i
 yi:y ≠ i
 xa:x ≠ [97]
 ya:y ≠ [97]
 ia:i ≠ [97]
theorem z5m(pu pw:List UInt8→Option Unit)(pn:(D×D×D)×List UInt8→Option (Int×Int×List UInt8))(pp:(D×D×D)×List UInt8→Option Unit)(pa:(D×D×D)×D→Option (D×D×D×D×D×D))(x y:List UInt8)(a0 a1 a2 a3 a4 a5 z:Int):zx cx (zia (λ K=>wAp 112 pa (wNm pu pw pn pp K)) 30 20) 30 42 [.d (.agg [.int .i64 2,.str [],.sl 5 [D.agg [D.int .i64 6,D.str [],D.sl 5 [D.agg [D.int .i64 1,D.str x,D.sl 5 [],D.sl 1 [],D.int .i64 a4],D.agg [D.int .i64 1,D.str y,D.sl 5 [],D.sl 1 [],D.int .i64 a5]],D.sl 1 [],D.int .i64 a4]],.sl 1 [D.str x,D.str y],.int .i64 a0]),.d (.sl 1 [.str [97]]),.d (.sl 1 []),.d (.sl 1 [])] []=za (pw [97]) λ r=>bif decide (x.length≤4611686018427387904) then bif decide (x.length≤4611686018427387904) then za (pu x) λ r=>bif decide (y.length≤4611686018427387904) then bif decide (y.length≤4611686018427387904) then za (pu y) λ r=>bif decide (x.length≤4611686018427387904) then za (pu x) λ r=>bif decide (y.length≤4611686018427387904) then za (pu y) λ r=>za (pw x) λ r=>za (pw y) λ r=>za (pa ((D.sl 1 [D.str [97]],D.sl 1 [D.str y,D.str x],D.sl 1 []),D.agg [D.int .i64 6,D.str [],D.sl 5 [D.agg [D.int .i64 1,D.str x,D.sl 5 [],D.sl 1 [],D.int .i64 a4],D.agg [D.int .i64 1,D.str y,D.sl 5 [],D.sl 1 [],D.int .i64 a5]],D.sl 1 [],D.int .i64 a4])) λ r=>some (Out.ret (V.tup [V.d (D.agg [D.int .i64 5,D.int .i64 0,D.str [],D.sl 2 [],D.sl 6 [D.agg [D.int .i64 5,D.int .i64 0,D.str [],D.sl 2 [],D.sl 6 [D.agg [r.1,r.snd.1,r.snd.snd.1,r.snd.snd.snd.1,r.snd.snd.snd.snd.1,r.snd.snd.snd.snd.2]],D.sl 2 []]],D.sl 2 []]),V.d (D.int .i64 0),V.d (D.int .i64 0)]),[]) else none else none else none else none else none else none:=by kernel_rfl
theorem z5l(pu pw:List UInt8→Option Unit)(pn:(D×D×D)×List UInt8→Option (Int×Int×List UInt8))(pp:(D×D×D)×List UInt8→Option Unit) (x y i:List UInt8)(a0 a1 a2 a3 a4 a5 a6 a7 a8 a9 a10 a11 a12 a13 a14 a15 a16 a17 a18 a19 a20 z:Int):zx cx (zia (wNm pu pw pn pp) 30 20) 30 42 [.d (.agg [.int .i64 4,.str [],.sl 5 [D.agg [D.int .i64 1,D.str [97],D.sl 5 [],D.sl 1 [],D.int .i64 a3],D.agg [D.int .i64 5,D.str [],D.sl 5 [D.agg [D.int .i64 1,D.str x,D.sl 5 [],D.sl 1 [],D.int .i64 a9],D.agg [D.int .i64 6,D.str [],D.sl 5 [D.agg [D.int .i64 6,D.str [],D.sl 5 [D.agg [D.int .i64 6,D.str [],D.sl 5 [D.agg [D.int .i64 1,D.str [80,97,116,104],D.sl 5 [],D.sl 1 [],D.int .i64 a12],D.agg [D.int .i64 3,D.str [],D.sl 5 [D.agg [D.int .i64 1,D.str x,D.sl 5 [],D.sl 1 [],D.int .i64 a17]],D.sl 1 [D.str i],D.int .i64 a14]],D.sl 1 [],D.int .i64 a12],D.agg [D.int .i64 1,D.str y,D.sl 5 [],D.sl 1 [],D.int .i64 a19]],D.sl 1 [],D.int .i64 a12],D.agg [D.int .i64 1,D.str y,D.sl 5 [],D.sl 1 [],D.int .i64 a20]],D.sl 1 [],D.int .i64 a12]],D.sl 1 [D.str y],D.int .i64 a6]],.sl 1 [D.str x],.int .i64 a0]),.d (.sl 1 [.str [97]]),.d (.sl 1 []),.d (.sl 1 [])] []=za (pw [97]) λ r=>bif decide (x.length≤4611686018427387904) then bif decide (x.length≤4611686018427387904) then za (pu x) λ r=>za (pu [97]) λ r=>bif decide (y.length≤4611686018427387904) then bif decide (y.length≤4611686018427387904) then za (pu y) λ r=>bif decide (x.length≤4611686018427387904) then za (pu x) λ r=>za (pu [80,97,116,104]) λ r=>bif decide (i.length≤4611686018427387904) then bif decide (i.length≤4611686018427387904) then za (pu i) λ r=>bif decide (x.length≤4611686018427387904) then za (pu x) λ r=>bif decide (y.length≤4611686018427387904) then za (pu y) λ r=>bif decide (y.length≤4611686018427387904) then za (pu y) λ r=>za (pw x) λ r=>za (pn ((D.sl 1 [D.str [97]],D.sl 1 [],D.sl 1 []),[97])) λ r=>za (pw y) λ r_1=>za (pn ((D.sl 1 [D.str [97]],D.sl 1 [D.str x],D.sl 1 []),x)) λ r_2=>za (pw i) λ r_3=>za (pn ((D.sl 1 [D.str [97]],D.sl 1 [D.str y,D.str x],D.sl 1 [D.str i]),x)) λ r_4=>za (pn ((D.sl 1 [D.str [97]],D.sl 1 [D.str y,D.str x],D.sl 1 []),y)) λ r_5=>za (pn ((D.sl 1 [D.str [97]],D.sl 1 [D.str y,D.str x],D.sl 1 []),y)) λ r_6=>some (Out.ret (V.tup [V.d (D.agg [D.int .i64 4,D.int .i64 0,D.str [],D.sl 2 [],D.sl 6 [D.agg [D.int .i64 r.fst,D.int .i64 r.snd.fst,D.str r.snd.2,D.sl 2 [],D.sl 6 [],D.sl 2 []],D.agg [D.int .i64 7,D.int .i64 0,D.str [],D.sl 2 [],D.sl 6 [D.agg [D.int .i64 r_2.fst,D.int .i64 r_2.snd.fst,D.str r_2.snd.2,D.sl 2 [],D.sl 6 [],D.sl 2 []],D.agg [D.int .i64 11,D.int .i64 0,D.str [],D.sl 2 [],D.sl 6 [D.agg [D.int .i64 r_4.fst,D.int .i64 r_4.snd.fst,D.str r_4.snd.2,D.sl 2 [],D.sl 6 [],D.sl 2 []],D.agg [D.int .i64 r_5.fst,D.int .i64 r_5.snd.fst,D.str r_5.snd.2,D.sl 2 [],D.sl 6 [],D.sl 2 []],D.agg [D.int .i64 r_6.fst,D.int .i64 r_6.snd.fst,D.str r_6.snd.2,D.sl 2 [],D.sl 6 [],D.sl 2 []]],D.sl 2 []]],D.sl 2 []]],D.sl 2 []]),V.d (D.int .i64 0),V.d (D.int .i64 0)]),[]) else none else none else none else none else none else none else none else none else none else none:=by kernel_rfl
theorem z5k(pu pw:List UInt8→Option Unit)(pn:(D×D×D)×List UInt8→Option (Int×Int×List UInt8))(pp:(D×D×D)×List UInt8→Option Unit) (x i:List UInt8)(a0 a1 a2 a3 a4 a5 a6 a7 a8 a9 a10 a11 a12 a13 z:Int):zx cx (zia (wNm pu pw pn pp) 30 20) 30 42 [.d (.agg [.int .i64 2,.str [],.sl 5 [D.agg [D.int .i64 3,D.str [],D.sl 5 [D.agg [D.int .i64 7,D.str [],D.sl 5 [D.agg [D.int .i64 1,D.str x,D.sl 5 [],D.sl 1 [],D.int .i64 a6],D.agg [D.int .i64 15,D.str [],D.sl 5 [D.agg [D.int .i64 1,D.str i,D.sl 5 [],D.sl 1 [],D.int .i64 a9],D.agg [D.int .i64 16,D.str [],D.sl 5 [D.agg [D.int .i64 1,D.str i,D.sl 5 [],D.sl 1 [],D.int .i64 a12]],D.sl 1 [],D.int .i64 a11]],D.sl 1 [],D.int .i64 a9]],D.sl 1 [],D.int .i64 a6]],D.sl 1 [D.str i],D.int .i64 a3]],.sl 1 [D.str x],.int .i64 a0]),.d (.sl 1 [.str [97]]),.d (.sl 1 []),.d (.sl 1 [])] []=za (pw [97]) λ r=>bif decide (x.length≤4611686018427387904) then bif decide (x.length≤4611686018427387904) then za (pu x) λ r=>bif decide (i.length≤4611686018427387904) then bif decide (i.length≤4611686018427387904) then za (pu i) λ r=>bif decide (x.length≤4611686018427387904) then za (pu x) λ r=>bif decide (i.length≤4611686018427387904) then za (pu i) λ r=>bif decide (i.length≤4611686018427387904) then za (pu i) λ r=>za (pw x) λ r=>za (pw i) λ r=>bif decide (x=[108,111,111,112]) then za (pp ((D.sl 1 [D.str [97]],D.sl 1 [D.str x],D.sl 1 [D.str i]),i)) λ r=>za (pp ((D.sl 1 [D.str [97]],D.sl 1 [D.str x],D.sl 1 [D.str i]),i)) λ r=>some (Out.ret (V.tup [V.d (D.agg [D.int .i64 5,D.int .i64 0,D.str [],D.sl 2 [],D.sl 6 [D.agg [D.int .i64 12,D.int .i64 0,D.str [],D.sl 2 [],D.sl 6 [D.agg [D.int .i64 21,D.int .i64 0,D.str [],D.sl 2 [D.agg [D.int IntKind.u32 1,D.int IntKind.u32 1]],D.sl 6 [],D.sl 2 []]],D.sl 2 []]],D.sl 2 []]),V.d (D.int .i64 0),V.d (D.int .i64 0)]),[]) else bif decide (x=[109,101,114,105,100]) then za (pn ((D.sl 1 [D.str [97]],D.sl 1 [D.str x],D.sl 1 [D.str i]),x)) λ r=>za (pp ((D.sl 1 [D.str [97]],D.sl 1 [D.str x],D.sl 1 [D.str i]),i)) λ r_1=>za (pp ((D.sl 1 [D.str [97]],D.sl 1 [D.str x],D.sl 1 [D.str i]),i)) λ r_2=>some (Out.ret (V.tup [V.d (D.agg [D.int .i64 5,D.int .i64 0,D.str [],D.sl 2 [],D.sl 6 [D.agg [D.int .i64 12,D.int .i64 0,D.str [],D.sl 2 [],D.sl 6 [D.agg [D.int .i64 13,D.int .i64 0,D.str [],D.sl 2 [D.agg [D.int IntKind.u32 1,D.int IntKind.u32 1]],D.sl 6 [D.agg [D.int .i64 r.fst,D.int .i64 r.snd.fst,D.str r.snd.2,D.sl 2 [],D.sl 6 [],D.sl 2 []],D.agg [D.int .i64 3,D.int .i64 0,D.str [],D.sl 2 [],D.sl 6 [],D.sl 2 []],D.agg [D.int .i64 3,D.int .i64 0,D.str [],D.sl 2 [],D.sl 6 [],D.sl 2 []]],D.sl 2 []]],D.sl 2 []]],D.sl 2 []]),V.d (D.int .i64 0),V.d (D.int .i64 0)]),[]) else za (pn ((D.sl 1 [D.str [97]],D.sl 1 [D.str x],D.sl 1 [D.str i]),x)) λ r=>za (pp ((D.sl 1 [D.str [97]],D.sl 1 [D.str x],D.sl 1 [D.str i]),i)) λ r_1=>za (pp ((D.sl 1 [D.str [97]],D.sl 1 [D.str x],D.sl 1 [D.str i]),i)) λ r_2=>some (Out.ret (V.tup [V.d (D.agg [D.int .i64 5,D.int .i64 0,D.str [],D.sl 2 [],D.sl 6 [D.agg [D.int .i64 12,D.int .i64 0,D.str [],D.sl 2 [],D.sl 6 [D.agg [D.int .i64 13,D.int .i64 0,D.str [],D.sl 2 [D.agg [D.int IntKind.u32 1,D.int IntKind.u32 1]],D.sl 6 [D.agg [D.int .i64 r.fst,D.int .i64 r.snd.fst,D.str r.snd.2,D.sl 2 [],D.sl 6 [],D.sl 2 []],D.agg [D.int .i64 3,D.int .i64 0,D.str [],D.sl 2 [],D.sl 6 [],D.sl 2 []],D.agg [D.int .i64 3,D.int .i64 0,D.str [],D.sl 2 [],D.sl 6 [],D.sl 2 []]],D.sl 2 []]],D.sl 2 []]],D.sl 2 []]),V.d (D.int .i64 0),V.d (D.int .i64 0)]),[]) else none else none else none else none else none else none else none:=by kernel_rfl
theorem z5j(pu pw:List UInt8→Option Unit)(pn:(D×D×D)×List UInt8→Option (Int×Int×List UInt8))(pp:(D×D×D)×List UInt8→Option Unit) (x y i:List UInt8)(a0 a1 a2 a3 a4 a5 a6 a7 a8 a9 a10 a11 a12 a13 a14 a15 a16 a17 a18 a19 a20 a21 a22 z:Int):zx cx (zia (wNm pu pw pn pp) 30 20) 30 42 [.d (.agg [.int .i64 2,.str [],.sl 5 [D.agg [D.int .i64 3,D.str [],D.sl 5 [D.agg [D.int .i64 6,D.str [],D.sl 5 [D.agg [D.int .i64 6,D.str [],D.sl 5 [D.agg [D.int .i64 6,D.str [],D.sl 5 [D.agg [D.int .i64 1,D.str [104,99,111,109,112],D.sl 5 [],D.sl 1 [],D.int .i64 a6],D.agg [D.int .i64 1,D.str [97],D.sl 5 [],D.sl 1 [],D.int .i64 a7]],D.sl 1 [],D.int .i64 a6],D.agg [D.int .i64 10,D.str [],D.sl 5 [D.agg [D.int .i64 11,D.str [],D.sl 5 [D.agg [D.int .i64 12,D.str [],D.sl 5 [D.agg [D.int .i64 13,D.str i,D.sl 5 [],D.sl 1 [D.str [48]],D.int .i64 a9]],D.sl 1 [],D.int .i64 a9],D.agg [D.int .i64 3,D.str [],D.sl 5 [D.agg [D.int .i64 7,D.str [],D.sl 5 [D.agg [D.int .i64 1,D.str x,D.sl 5 [],D.sl 1 [],D.int .i64 a18],D.agg [D.int .i64 1,D.str y,D.sl 5 [],D.sl 1 [],D.int .i64 a20]],D.sl 1 [],D.int .i64 a18]],D.sl 1 [D.str y],D.int .i64 a15]],D.sl 1 [],D.int .i64 a9]],D.sl 1 [],D.int .i64 a8]],D.sl 1 [],D.int .i64 a6],D.agg [D.int .i64 1,D.str x,D.sl 5 [],D.sl 1 [],D.int .i64 a22]],D.sl 1 [],D.int .i64 a6]],D.sl 1 [D.str i],D.int .i64 a3]],.sl 1 [D.str x],.int .i64 a0]),.d (.sl 1 [.str [97]]),.d (.sl 1 []),.d (.sl 1 [])] []=za (pw [97]) λ r=>bif decide (x.length≤4611686018427387904) then bif decide (x.length≤4611686018427387904) then za (pu x) λ r=>bif decide (i.length≤4611686018427387904) then bif decide (i.length≤4611686018427387904) then za (pu i) λ r=>za (pu [104,99,111,109,112]) λ r=>za (pu [97]) λ r=>bif decide (i.length≤4611686018427387904) then za (pu i) λ r=>bif decide (y.length≤4611686018427387904) then bif decide (y.length≤4611686018427387904) then za (pu y) λ r=>bif decide (x.length≤4611686018427387904) then za (pu x) λ r=>bif decide (y.length≤4611686018427387904) then za (pu y) λ r=>bif decide (x.length≤4611686018427387904) then za (pu x) λ r=>za (pw x) λ r=>za (pw i) λ r=>za (pn ((D.sl 1 [D.str [97]],D.sl 1 [D.str x],D.sl 1 [D.str i]),[97])) λ r=>za (pp ((D.sl 1 [D.str [97]],D.sl 1 [D.str x],D.sl 1 [D.str i]),i)) λ r_1=>za (pw y) λ r_2=>bif decide (x=[108,111,111,112]) then za (pp ((D.sl 1 [D.str [97]],D.sl 1 [D.str x],D.sl 1 [D.str y,D.str i]),y)) λ r_3=>za (pn ((D.sl 1 [D.str [97]],D.sl 1 [D.str x],D.sl 1 [D.str i]),x)) λ r_4=>some (Out.ret (V.tup [V.d (D.agg [D.int .i64 5,D.int .i64 0,D.str [],D.sl 2 [],D.sl 6 [D.agg [D.int .i64 12,D.int .i64 0,D.str [],D.sl 2 [],D.sl 6 [D.agg [D.int .i64 15,D.int .i64 0,D.str [],D.sl 2 [],D.sl 6 [D.agg [D.int .i64 r.fst,D.int .i64 r.snd.fst,D.str r.snd.2,D.sl 2 [],D.sl 6 [],D.sl 2 []],D.agg [D.int .i64 r_4.fst,D.int .i64 r_4.snd.fst,D.str r_4.snd.2,D.sl 2 [],D.sl 6 [],D.sl 2 []]],D.sl 2 [D.agg [D.sl 2 [D.agg [D.int IntKind.u32 0,D.int IntKind.u32 1]],D.sl 6 [D.agg [D.int .i64 21,D.int .i64 0,D.str [],D.sl 2 [D.agg [D.int IntKind.u32 1,D.int IntKind.u32 0]],D.sl 6 [],D.sl 2 []]]]]]],D.sl 2 []]],D.sl 2 []]),V.d (D.int .i64 0),V.d (D.int .i64 0)]),[]) else bif decide (x=[109,101,114,105,100]) then za (pn ((D.sl 1 [D.str [97]],D.sl 1 [D.str x],D.sl 1 [D.str y,D.str i]),x)) λ r_3=>za (pp ((D.sl 1 [D.str [97]],D.sl 1 [D.str x],D.sl 1 [D.str y,D.str i]),y)) λ r_4=>za (pn ((D.sl 1 [D.str [97]],D.sl 1 [D.str x],D.sl 1 [D.str i]),x)) λ r_5=>some (Out.ret (V.tup [V.d (D.agg [D.int .i64 5,D.int .i64 0,D.str [],D.sl 2 [],D.sl 6 [D.agg [D.int .i64 12,D.int .i64 0,D.str [],D.sl 2 [],D.sl 6 [D.agg [D.int .i64 15,D.int .i64 0,D.str [],D.sl 2 [],D.sl 6 [D.agg [D.int .i64 r.fst,D.int .i64 r.snd.fst,D.str r.snd.2,D.sl 2 [],D.sl 6 [],D.sl 2 []],D.agg [D.int .i64 r_5.fst,D.int .i64 r_5.snd.fst,D.str r_5.snd.2,D.sl 2 [],D.sl 6 [],D.sl 2 []]],D.sl 2 [D.agg [D.sl 2 [D.agg [D.int IntKind.u32 0,D.int IntKind.u32 1]],D.sl 6 [D.agg [D.int .i64 13,D.int .i64 0,D.str [],D.sl 2 [D.agg [D.int IntKind.u32 1,D.int IntKind.u32 0]],D.sl 6 [D.agg [D.int .i64 r_3.fst,D.int .i64 r_3.snd.fst,D.str r_3.snd.2,D.sl 2 [],D.sl 6 [],D.sl 2 []],D.agg [D.int .i64 3,D.int .i64 0,D.str [],D.sl 2 [],D.sl 6 [],D.sl 2 []],D.agg [D.int .i64 3,D.int .i64 0,D.str [],D.sl 2 [],D.sl 6 [],D.sl 2 []]],D.sl 2 []]]]]]],D.sl 2 []]],D.sl 2 []]),V.d (D.int .i64 0),V.d (D.int .i64 0)]),[]) else za (pn ((D.sl 1 [D.str [97]],D.sl 1 [D.str x],D.sl 1 [D.str y,D.str i]),x)) λ r_3=>za (pp ((D.sl 1 [D.str [97]],D.sl 1 [D.str x],D.sl 1 [D.str y,D.str i]),y)) λ r_4=>za (pn ((D.sl 1 [D.str [97]],D.sl 1 [D.str x],D.sl 1 [D.str i]),x)) λ r_5=>some (Out.ret (V.tup [V.d (D.agg [D.int .i64 5,D.int .i64 0,D.str [],D.sl 2 [],D.sl 6 [D.agg [D.int .i64 12,D.int .i64 0,D.str [],D.sl 2 [],D.sl 6 [D.agg [D.int .i64 15,D.int .i64 0,D.str [],D.sl 2 [],D.sl 6 [D.agg [D.int .i64 r.fst,D.int .i64 r.snd.fst,D.str r.snd.2,D.sl 2 [],D.sl 6 [],D.sl 2 []],D.agg [D.int .i64 r_5.fst,D.int .i64 r_5.snd.fst,D.str r_5.snd.2,D.sl 2 [],D.sl 6 [],D.sl 2 []]],D.sl 2 [D.agg [D.sl 2 [D.agg [D.int IntKind.u32 0,D.int IntKind.u32 1]],D.sl 6 [D.agg [D.int .i64 13,D.int .i64 0,D.str [],D.sl 2 [D.agg [D.int IntKind.u32 1,D.int IntKind.u32 0]],D.sl 6 [D.agg [D.int .i64 r_3.fst,D.int .i64 r_3.snd.fst,D.str r_3.snd.2,D.sl 2 [],D.sl 6 [],D.sl 2 []],D.agg [D.int .i64 3,D.int .i64 0,D.str [],D.sl 2 [],D.sl 6 [],D.sl 2 []],D.agg [D.int .i64 3,D.int .i64 0,D.str [],D.sl 2 [],D.sl 6 [],D.sl 2 []]],D.sl 2 []]]]]]],D.sl 2 []]],D.sl 2 []]),V.d (D.int .i64 0),V.d (D.int .i64 0)]),[]) else none else none else none else none else none else none else none else none else none else none:=by kernel_rfl
theorem z5i(pu pw:List UInt8→Option Unit)(pn:(D×D×D)×List UInt8→Option (Int×Int×List UInt8))(pp:(D×D×D)×List UInt8→Option Unit) (x y i:List UInt8)(a0 a1 a2 a3 a4 a5 a6 a7 a8 a9 a10 a11 a12 a13 a14 a15 a16 a17 a18 a19 a20 z:Int):zx cx (zia (wNm pu pw pn pp) 30 20) 30 42 [.d (.agg [.int .i64 2,.str [],.sl 5 [D.agg [D.int .i64 2,D.str [],D.sl 5 [D.agg [D.int .i64 6,D.str [],D.sl 5 [D.agg [D.int .i64 6,D.str [],D.sl 5 [D.agg [D.int .i64 6,D.str [],D.sl 5 [D.agg [D.int .i64 6,D.str [],D.sl 5 [D.agg [D.int .i64 1,D.str [83,49,101,108,105,109],D.sl 5 [],D.sl 1 [],D.int .i64 a6],D.agg [D.int .i64 2,D.str [],D.sl 5 [D.agg [D.int .i64 1,D.str [97],D.sl 5 [],D.sl 1 [],D.int .i64 a11]],D.sl 1 [D.str x],D.int .i64 a8]],D.sl 1 [],D.int .i64 a6],D.agg [D.int .i64 1,D.str y,D.sl 5 [],D.sl 1 [],D.int .i64 a13]],D.sl 1 [],D.int .i64 a6],D.agg [D.int .i64 3,D.str [],D.sl 5 [D.agg [D.int .i64 1,D.str y,D.sl 5 [],D.sl 1 [],D.int .i64 a18]],D.sl 1 [D.str i],D.int .i64 a15]],D.sl 1 [],D.int .i64 a6],D.agg [D.int .i64 1,D.str x,D.sl 5 [],D.sl 1 [],D.int .i64 a20]],D.sl 1 [],D.int .i64 a6]],D.sl 1 [D.str y],D.int .i64 a3]],.sl 1 [D.str x],.int .i64 a0]),.d (.sl 1 [.str [97]]),.d (.sl 1 []),.d (.sl 1 [])] []=za (pw [97]) λ r=>bif decide (x.length≤4611686018427387904) then bif decide (x.length≤4611686018427387904) then za (pu x) λ r=>bif decide (y.length≤4611686018427387904) then bif decide (y.length≤4611686018427387904) then za (pu y) λ r=>za (pu [83,49,101,108,105,109]) λ r=>bif decide (x.length≤4611686018427387904) then bif decide (x.length≤4611686018427387904) then za (pu x) λ r=>za (pu [97]) λ r=>bif decide (y.length≤4611686018427387904) then za (pu y) λ r=>bif decide (i.length≤4611686018427387904) then bif decide (i.length≤4611686018427387904) then za (pu i) λ r=>bif decide (y.length≤4611686018427387904) then za (pu y) λ r=>bif decide (x.length≤4611686018427387904) then za (pu x) λ r=>za (pw x) λ r=>za (pw y) λ r=>za (pw x) λ r=>za (pn ((D.sl 1 [D.str [97]],D.sl 1 [D.str x,D.str y,D.str x],D.sl 1 []),[97])) λ r=>za (pn ((D.sl 1 [D.str [97]],D.sl 1 [D.str y,D.str x],D.sl 1 []),y)) λ r_1=>za (pw i) λ r_2=>za (pn ((D.sl 1 [D.str [97]],D.sl 1 [D.str y,D.str x],D.sl 1 [D.str i]),y)) λ r_3=>za (pn ((D.sl 1 [D.str [97]],D.sl 1 [D.str y,D.str x],D.sl 1 []),x)) λ r_4=>some (Out.ret (V.tup [V.d (D.agg [D.int .i64 5,D.int .i64 0,D.str [],D.sl 2 [],D.sl 6 [D.agg [D.int .i64 5,D.int .i64 0,D.str [],D.sl 2 [],D.sl 6 [D.agg [D.int .i64 22,D.int .i64 0,D.str [],D.sl 2 [],D.sl 6 [D.agg [D.int .i64 r.fst,D.int .i64 r.snd.fst,D.str r.snd.2,D.sl 2 [],D.sl 6 [],D.sl 2 []],D.agg [D.int .i64 r_1.fst,D.int .i64 r_1.snd.fst,D.str r_1.snd.2,D.sl 2 [],D.sl 6 [],D.sl 2 []],D.agg [D.int .i64 12,D.int .i64 0,D.str [],D.sl 2 [],D.sl 6 [D.agg [D.int .i64 r_3.fst,D.int .i64 r_3.snd.fst,D.str r_3.snd.2,D.sl 2 [],D.sl 6 [],D.sl 2 []]],D.sl 2 []],D.agg [D.int .i64 r_4.fst,D.int .i64 r_4.snd.fst,D.str r_4.snd.2,D.sl 2 [],D.sl 6 [],D.sl 2 []]],D.sl 2 []]],D.sl 2 []]],D.sl 2 []]),V.d (D.int .i64 0),V.d (D.int .i64 0)]),[]) else none else none else none else none else none else none else none else none else none else none else none:=by kernel_rfl
def zhm:D×D×D×D×D×D:=(D.int .i64 5,D.int .i64 0,D.str [],D.sl 2 [],D.sl 6 [D.agg [D.int .i64 5,D.int .i64 0,D.str [],D.sl 2 [],D.sl 6 [D.agg [D.int .i64 6,D.int .i64 0,D.str [],D.sl 2 [],D.sl 6 [vr 1,vr 0],D.sl 2 []]],D.sl 2 []]],D.sl 2 [])
theorem c81(pn:(D×D×D)×List UInt8→Option (Int×Int×List UInt8))(g v i:D)(s:List UInt8)(a:Int):zx cx (xl 107 zl5 pn zze (CK.plain xx)) 5 81 [.d (.agg [.map wdK wdV,g,v,i]),.d (.agg [.int .i64 1,.str s,.sl 5 [],.sl 1 [],.int .i64 a])] []=za (pn ((g,v,i),s)) λ r=>some (.ret (zze r),[]):=by kernel_rfl
theorem z5g(x y:List UInt8)(a b c:Int):xz cx 40 149 [.d (.agg [.int .i64 6,.str [],.sl 5 [.agg [.int .i64 1,.str x,.sl 5 [],.sl 1 [],.int .i64 a],.agg [.int .i64 1,.str y,.sl 5 [],.sl 1 [],.int .i64 b]],.sl 1 [],.int .i64 c])] []=some (.ret (z0l ((x,a),(y,b),c)),[]):=by kernel_rfl
def six(r:Int×Int×List UInt8):D×D×D×D×D×D:=(.int .i64 r.1,.int .i64 r.2.1,.str r.2.2,.sl 2 [],.sl 6 [],.sl 2 [])
def z0z(q:(D×D×D)×D):Option (D×D×D×D×D×D):=match q.2 with
 | .agg [.int .i64 1,.str s,.sl 5 [],.sl 1 [],.int .i64 _]=>za (zbe (q.1,s)) λ r=>some (six r)
 | _=>none
theorem zl3{a:List V}{q}(h:zov a=some q):a=[.d (.agg [.map wdK wdV,q.1.1,q.1.2.1,q.1.2.2]),.d q.2]:=by
 unfold zov at h;split at h
 ·rename_i ks vs g v i t;cases hw:zln ks vs
  ·rw [hw] at h; cases h
  ·rw [hw] at h;cases h;obtain ⟨rfl,rfl⟩:=zi8 hw;rfl
 ·cases h
theorem k81{K:CK R1}(hK:knows cx K.S (zl cx)):knows cx (xl 81 zov z0z mk6 K).S (zl cx):=yp hK λ a q b _ h hb=>by
 rw [zl3 h];obtain ⟨⟨g,v,i⟩,t⟩:=q;unfold z0z at hb;split at hb
 ·rename_i s p ht;obtain rfl:t=_:=ht;obtain ⟨r,hr,hb⟩:=zb hb;cases hb;refine zt (z36 yj) (N:=5) ?_;show zx cx _ 5 81 [.d (.agg [.map wdK wdV,g,v,i]),.d (.agg [.int .i64 1,.str s,.sl 5 [],.sl 1 [],.int .i64 p])] []=_;rw [c81];show za (zbe ((g,v,i),s)) _=_;rw [hr];rfl
 ·cases hb
theorem zr0{a:List V}{q}(h:ztq a=some q):a=[.d (.agg [.int .i64 6,.str [],.sl 5 [nmT q.1,nmT q.2.1],.sl 1 [],.int .i64 q.2.2])]:=by
 unfold ztq at h; split at h <;> cases h; rfl
theorem zt2:knows cx (z4k z0z).S (zl cx):=
 yp (k81 (yp (yp (ze9 yj 5) λ _ _ _ _ h=>by cases h) λ _ _ _ _ h=>by cases h)) λ a q b _ h hb=>by
  cases hb;rw [zr0 h];exact zdf (z5g q.1.1 q.2.1.1 q.1.2 q.2.1.2 q.2.2)
def z19:D×D×D×D×D×D:=(.int .i64 6,.int .i64 0,.str [],.sl 2 [],.sl 6 [vr 1,vr 0],.sl 2 [])
theorem z4w{x y i:List UInt8}(h:Ok3 x y i)(a b c:Int):zl cx 112 [.d (.agg [.map wdK wdV,.sl 1 [.str [97]],.sl 1 [.str y,.str x],.sl 1 []]),.d (.agg [.int .i64 6,.str [],.sl 5 [.agg [.int .i64 1,.str x,.sl 5 [],.sl 1 [],.int .i64 a],.agg [.int .i64 1,.str y,.sl 5 [],.sl 1 [],.int .i64 b]],.sl 1 [],.int .i64 c])] []=some (.ret (mk6 z19),[]):=by
 refine zt zt2 (N:=5) ?_;rw [z5r,zc9 zkn 0 h.ox.2.2];show za (za (zbe ((.sl 1 [.str [97]],.sl 1 [.str y,.str x],.sl 1 []),x)) λ r=>some (six r)) _=_;rw [show zbe ((.sl 1 [.str [97]],.sl 1 [.str y,.str x],.sl 1 []),x)=_ from zcr 1 h.ox.ww rfl rfl (by simp [yn,h.xy])]
 show za (za (zbe ((.sl 1 [.str [97]],.sl 1 [.str y,.str x],.sl 1 []),y)) λ r=>some (six r)) _=_;rw [show zbe ((.sl 1 [.str [97]],.sl 1 [.str y,.str x],.sl 1 []),y)=_ from zcr 0 h.oy.ww rfl rfl (by simp [yn])]
 rfl
theorem hap{x y i:List UInt8}(h:Ok3 x y i)(a4 a5:Int):∀ a q b,cx.dom 112 a=true→zov a=some q→atQ ((D.sl 1 [D.str [97]],D.sl 1 [D.str y,D.str x],D.sl 1 []),D.agg [D.int .i64 6,D.str [],D.sl 5 [D.agg [D.int .i64 1,D.str x,D.sl 5 [],D.sl 1 [],D.int .i64 a4],D.agg [D.int .i64 1,D.str y,D.sl 5 [],D.sl 1 [],D.int .i64 a5]],D.sl 1 [],D.int .i64 a4]) z19 q=some b→zl cx 112 a []=some (.ret (mk6 b),[]):=λ a q b _ hd hb=>by
 rw [zl3 hd];obtain ⟨rfl,rfl⟩:=zmm hb;exact z4w h a4 a5 a4
theorem z1d{x y i:List UInt8}(h:Ok3 x y i)(a0 a1 a2 a3 a4 a5:Int):zl cx 42 [.d (.agg [.int .i64 2,.str [],.sl 5 [D.agg [D.int .i64 6,D.str [],D.sl 5 [D.agg [D.int .i64 1,D.str x,D.sl 5 [],D.sl 1 [],D.int .i64 a4],D.agg [D.int .i64 1,D.str y,D.sl 5 [],D.sl 1 [],D.int .i64 a5]],D.sl 1 [],D.int .i64 a4]],.sl 1 [D.str x,D.str y],.int .i64 a0]),.d (.sl 1 [.str [97]]),.d (.sl 1 []),.d (.sl 1 [])] []=some (.ret (zg4 (zhm,0,0)),[]):=by
 refine zt (qm (N:=30) (λ _ hK=>yp (zdm hK) (hap h a4 a5)) 20) (N:=30) ?_;refine (z5m spU spW zbe zj4 (atQ ((D.sl 1 [D.str [97]],D.sl 1 [D.str y,D.str x],D.sl 1 []),D.agg [D.int .i64 6,D.str [],D.sl 5 [D.agg [D.int .i64 1,D.str x,D.sl 5 [],D.sl 1 [],D.int .i64 a4],D.agg [D.int .i64 1,D.str y,D.sl 5 [],D.sl 1 [],D.int .i64 a5]],D.sl 1 [],D.int .i64 a4]) z19) x y a0 a1 a2 a3 a4 a5 0).trans ?_;simp only [p5,p6,zi,zq4.ww,h.ox.ln,h.ox.uu,h.oy.ln,h.oy.uu,h.ox.ww,h.oy.ww,zmn] <;> rfl
def zhl:D×D×D×D×D×D:=(D.int .i64 4,D.int .i64 0,D.str [],D.sl 2 [],D.sl 6 [D.agg [D.int .i64 2,D.int .i64 0,D.str [97],D.sl 2 [],D.sl 6 [],D.sl 2 []],D.agg [D.int .i64 7,D.int .i64 0,D.str [],D.sl 2 [],D.sl 6 [D.agg [D.int .i64 1,D.int .i64 0,D.str [],D.sl 2 [],D.sl 6 [],D.sl 2 []],D.agg [D.int .i64 11,D.int .i64 0,D.str [],D.sl 2 [],D.sl 6 [D.agg [D.int .i64 1,D.int .i64 1,D.str [],D.sl 2 [],D.sl 6 [],D.sl 2 []],D.agg [D.int .i64 1,D.int .i64 0,D.str [],D.sl 2 [],D.sl 6 [],D.sl 2 []],D.agg [D.int .i64 1,D.int .i64 0,D.str [],D.sl 2 [],D.sl 6 [],D.sl 2 []]],D.sl 2 []]],D.sl 2 []]],D.sl 2 [])
theorem z1c{x y i:List UInt8}(h:Ok3 x y i)(a0 a1 a2 a3 a4 a5 a6 a7 a8 a9 a10 a11 a12 a13 a14 a15 a16 a17 a18 a19 a20:Int):zl cx 42 [.d (.agg [.int .i64 4,.str [],.sl 5 [D.agg [D.int .i64 1,D.str [97],D.sl 5 [],D.sl 1 [],D.int .i64 a3],D.agg [D.int .i64 5,D.str [],D.sl 5 [D.agg [D.int .i64 1,D.str x,D.sl 5 [],D.sl 1 [],D.int .i64 a9],D.agg [D.int .i64 6,D.str [],D.sl 5 [D.agg [D.int .i64 6,D.str [],D.sl 5 [D.agg [D.int .i64 6,D.str [],D.sl 5 [D.agg [D.int .i64 1,D.str [80,97,116,104],D.sl 5 [],D.sl 1 [],D.int .i64 a12],D.agg [D.int .i64 3,D.str [],D.sl 5 [D.agg [D.int .i64 1,D.str x,D.sl 5 [],D.sl 1 [],D.int .i64 a17]],D.sl 1 [D.str i],D.int .i64 a14]],D.sl 1 [],D.int .i64 a12],D.agg [D.int .i64 1,D.str y,D.sl 5 [],D.sl 1 [],D.int .i64 a19]],D.sl 1 [],D.int .i64 a12],D.agg [D.int .i64 1,D.str y,D.sl 5 [],D.sl 1 [],D.int .i64 a20]],D.sl 1 [],D.int .i64 a12]],D.sl 1 [D.str y],D.int .i64 a6]],.sl 1 [D.str x],.int .i64 a0]),.d (.sl 1 [.str [97]]),.d (.sl 1 []),.d (.sl 1 [])] []=some (.ret (zg4 (zhl,0,0)),[]):=by
 refine zt (qm (N:=30) (λ _ hK=>zdm hK) 20) (N:=30) ?_;refine (z5l spU spW zbe zj4 x y i a0 a1 a2 a3 a4 a5 a6 a7 a8 a9 a10 a11 a12 a13 a14 a15 a16 a17 a18 a19 a20 0).trans ?_;simp only [p5,p6,zi,zq4.ww,h.ox.ln,h.ox.uu,zgy zsr (by decide),h.oy.ln,h.oy.uu,zgy zuj (by decide),h.oi.ln,h.oi.uu,h.ox.ww,(show zbe ((D.sl 1 [D.str [97]],D.sl 1 [],D.sl 1 []),[97])=_ from zsn 0 zq4.ww rfl rfl (by simp [yn,h.xy,h.xy.symm,h.xi,h.xi.symm,h.yi,h.yi.symm,h.xa,h.xa.symm,h.ya,h.ya.symm,h.ia,h.ia.symm]) rfl rfl (by simp [yn,h.xy,h.xy.symm,h.xi,h.xi.symm,h.yi,h.yi.symm,h.xa,h.xa.symm,h.ya,h.ya.symm,h.ia,h.ia.symm])),h.oy.ww,(show zbe ((D.sl 1 [D.str [97]],D.sl 1 [D.str x],D.sl 1 []),x)=_ from zcr 0 h.ox.ww rfl rfl (by simp [yn,h.xy,h.xy.symm,h.xi,h.xi.symm,h.yi,h.yi.symm,h.xa,h.xa.symm,h.ya,h.ya.symm,h.ia,h.ia.symm])),h.oi.ww,(show zbe ((D.sl 1 [D.str [97]],D.sl 1 [D.str y,D.str x],D.sl 1 [D.str i]),x)=_ from zcr 1 h.ox.ww rfl rfl (by simp [yn,h.xy,h.xy.symm,h.xi,h.xi.symm,h.yi,h.yi.symm,h.xa,h.xa.symm,h.ya,h.ya.symm,h.ia,h.ia.symm])),(show zbe ((D.sl 1 [D.str [97]],D.sl 1 [D.str y,D.str x],D.sl 1 []),y)=_ from zcr 0 h.oy.ww rfl rfl (by simp [yn,h.xy,h.xy.symm,h.xi,h.xi.symm,h.yi,h.yi.symm,h.xa,h.xa.symm,h.ya,h.ya.symm,h.ia,h.ia.symm]))] <;> rfl
def zhk:D×D×D×D×D×D:=(D.int .i64 5,D.int .i64 0,D.str [],D.sl 2 [],D.sl 6 [D.agg [D.int .i64 12,D.int .i64 0,D.str [],D.sl 2 [],D.sl 6 [D.agg [D.int .i64 13,D.int .i64 0,D.str [],D.sl 2 [D.agg [D.int IntKind.u32 1,D.int IntKind.u32 1]],D.sl 6 [D.agg [D.int .i64 1,D.int .i64 0,D.str [],D.sl 2 [],D.sl 6 [],D.sl 2 []],D.agg [D.int .i64 3,D.int .i64 0,D.str [],D.sl 2 [],D.sl 6 [],D.sl 2 []],D.agg [D.int .i64 3,D.int .i64 0,D.str [],D.sl 2 [],D.sl 6 [],D.sl 2 []]],D.sl 2 []]],D.sl 2 []]],D.sl 2 [])
theorem z1b{x y i:List UInt8}(h:Ok3 x y i)(a0 a1 a2 a3 a4 a5 a6 a7 a8 a9 a10 a11 a12 a13:Int):zl cx 42 [.d (.agg [.int .i64 2,.str [],.sl 5 [D.agg [D.int .i64 3,D.str [],D.sl 5 [D.agg [D.int .i64 7,D.str [],D.sl 5 [D.agg [D.int .i64 1,D.str x,D.sl 5 [],D.sl 1 [],D.int .i64 a6],D.agg [D.int .i64 15,D.str [],D.sl 5 [D.agg [D.int .i64 1,D.str i,D.sl 5 [],D.sl 1 [],D.int .i64 a9],D.agg [D.int .i64 16,D.str [],D.sl 5 [D.agg [D.int .i64 1,D.str i,D.sl 5 [],D.sl 1 [],D.int .i64 a12]],D.sl 1 [],D.int .i64 a11]],D.sl 1 [],D.int .i64 a9]],D.sl 1 [],D.int .i64 a6]],D.sl 1 [D.str i],D.int .i64 a3]],.sl 1 [D.str x],.int .i64 a0]),.d (.sl 1 [.str [97]]),.d (.sl 1 []),.d (.sl 1 [])] []=some (.ret (zg4 (zhk,0,0)),[]):=by
 refine zt (qm (N:=30) (λ _ hK=>zdm hK) 20) (N:=30) ?_;refine (z5k spU spW zbe zj4 x i a0 a1 a2 a3 a4 a5 a6 a7 a8 a9 a10 a11 a12 a13 0).trans ?_;simp only [p5,p6,zi,zq4.ww,h.ox.ln,h.ox.uu,h.oi.ln,h.oi.uu,h.ox.ww,h.oi.ww,zt4 h.ox (w:=[108,111,111,112]) (by decide),zt4 h.ox (w:=[109,101,114,105,100]) (by decide),(show zbe ((D.sl 1 [D.str [97]],D.sl 1 [D.str x],D.sl 1 [D.str i]),x)=_ from zcr 0 h.ox.ww rfl rfl (by simp [yn,h.xy,h.xy.symm,h.xi,h.xi.symm,h.yi,h.yi.symm,h.xa,h.xa.symm,h.ya,h.ya.symm,h.ia,h.ia.symm])),(show zj4 ((D.sl 1 [D.str [97]],D.sl 1 [D.str x],D.sl 1 [D.str i]),i)=_ from zxf rfl rfl (by simp [yn,h.xy,h.xy.symm,h.xi,h.xi.symm,h.yi,h.yi.symm,h.xa,h.xa.symm,h.ya,h.ya.symm,h.ia,h.ia.symm]))] <;> rfl
def zhj:D×D×D×D×D×D:=(D.int .i64 5,D.int .i64 0,D.str [],D.sl 2 [],D.sl 6 [D.agg [D.int .i64 12,D.int .i64 0,D.str [],D.sl 2 [],D.sl 6 [D.agg [D.int .i64 15,D.int .i64 0,D.str [],D.sl 2 [],D.sl 6 [D.agg [D.int .i64 2,D.int .i64 0,D.str [97],D.sl 2 [],D.sl 6 [],D.sl 2 []],D.agg [D.int .i64 1,D.int .i64 0,D.str [],D.sl 2 [],D.sl 6 [],D.sl 2 []]],D.sl 2 [D.agg [D.sl 2 [D.agg [D.int IntKind.u32 0,D.int IntKind.u32 1]],D.sl 6 [D.agg [D.int .i64 13,D.int .i64 0,D.str [],D.sl 2 [D.agg [D.int IntKind.u32 1,D.int IntKind.u32 0]],D.sl 6 [D.agg [D.int .i64 1,D.int .i64 0,D.str [],D.sl 2 [],D.sl 6 [],D.sl 2 []],D.agg [D.int .i64 3,D.int .i64 0,D.str [],D.sl 2 [],D.sl 6 [],D.sl 2 []],D.agg [D.int .i64 3,D.int .i64 0,D.str [],D.sl 2 [],D.sl 6 [],D.sl 2 []]],D.sl 2 []]]]]]],D.sl 2 []]],D.sl 2 [])
theorem z1a{x y i:List UInt8}(h:Ok3 x y i)(a0 a1 a2 a3 a4 a5 a6 a7 a8 a9 a10 a11 a12 a13 a14 a15 a16 a17 a18 a19 a20 a21 a22:Int):zl cx 42 [.d (.agg [.int .i64 2,.str [],.sl 5 [D.agg [D.int .i64 3,D.str [],D.sl 5 [D.agg [D.int .i64 6,D.str [],D.sl 5 [D.agg [D.int .i64 6,D.str [],D.sl 5 [D.agg [D.int .i64 6,D.str [],D.sl 5 [D.agg [D.int .i64 1,D.str [104,99,111,109,112],D.sl 5 [],D.sl 1 [],D.int .i64 a6],D.agg [D.int .i64 1,D.str [97],D.sl 5 [],D.sl 1 [],D.int .i64 a7]],D.sl 1 [],D.int .i64 a6],D.agg [D.int .i64 10,D.str [],D.sl 5 [D.agg [D.int .i64 11,D.str [],D.sl 5 [D.agg [D.int .i64 12,D.str [],D.sl 5 [D.agg [D.int .i64 13,D.str i,D.sl 5 [],D.sl 1 [D.str [48]],D.int .i64 a9]],D.sl 1 [],D.int .i64 a9],D.agg [D.int .i64 3,D.str [],D.sl 5 [D.agg [D.int .i64 7,D.str [],D.sl 5 [D.agg [D.int .i64 1,D.str x,D.sl 5 [],D.sl 1 [],D.int .i64 a18],D.agg [D.int .i64 1,D.str y,D.sl 5 [],D.sl 1 [],D.int .i64 a20]],D.sl 1 [],D.int .i64 a18]],D.sl 1 [D.str y],D.int .i64 a15]],D.sl 1 [],D.int .i64 a9]],D.sl 1 [],D.int .i64 a8]],D.sl 1 [],D.int .i64 a6],D.agg [D.int .i64 1,D.str x,D.sl 5 [],D.sl 1 [],D.int .i64 a22]],D.sl 1 [],D.int .i64 a6]],D.sl 1 [D.str i],D.int .i64 a3]],.sl 1 [D.str x],.int .i64 a0]),.d (.sl 1 [.str [97]]),.d (.sl 1 []),.d (.sl 1 [])] []=some (.ret (zg4 (zhj,0,0)),[]):=by
 refine zt (qm (N:=30) (λ _ hK=>zdm hK) 20) (N:=30) ?_;refine (z5j spU spW zbe zj4 x y i a0 a1 a2 a3 a4 a5 a6 a7 a8 a9 a10 a11 a12 a13 a14 a15 a16 a17 a18 a19 a20 a21 a22 0).trans ?_;simp only [p5,p6,zi,zq4.ww,h.ox.ln,h.ox.uu,h.oi.ln,h.oi.uu,zgy zq7 (by decide),zgy zsr (by decide),h.oy.ln,h.oy.uu,h.ox.ww,h.oi.ww,(show zbe ((D.sl 1 [D.str [97]],D.sl 1 [D.str x],D.sl 1 [D.str i]),[97])=_ from zsn 0 zq4.ww rfl rfl (by simp [yn,h.xy,h.xy.symm,h.xi,h.xi.symm,h.yi,h.yi.symm,h.xa,h.xa.symm,h.ya,h.ya.symm,h.ia,h.ia.symm]) rfl rfl (by simp [yn,h.xy,h.xy.symm,h.xi,h.xi.symm,h.yi,h.yi.symm,h.xa,h.xa.symm,h.ya,h.ya.symm,h.ia,h.ia.symm])),(show zj4 ((D.sl 1 [D.str [97]],D.sl 1 [D.str x],D.sl 1 [D.str i]),i)=_ from zxf rfl rfl (by simp [yn,h.xy,h.xy.symm,h.xi,h.xi.symm,h.yi,h.yi.symm,h.xa,h.xa.symm,h.ya,h.ya.symm,h.ia,h.ia.symm])),h.oy.ww,zt4 h.ox (w:=[108,111,111,112]) (by decide),zt4 h.ox (w:=[109,101,114,105,100]) (by decide),(show zbe ((D.sl 1 [D.str [97]],D.sl 1 [D.str x],D.sl 1 [D.str y,D.str i]),x)=_ from zcr 0 h.ox.ww rfl rfl (by simp [yn,h.xy,h.xy.symm,h.xi,h.xi.symm,h.yi,h.yi.symm,h.xa,h.xa.symm,h.ya,h.ya.symm,h.ia,h.ia.symm])),(show zj4 ((D.sl 1 [D.str [97]],D.sl 1 [D.str x],D.sl 1 [D.str y,D.str i]),y)=_ from zxf rfl rfl (by simp [yn,h.xy,h.xy.symm,h.xi,h.xi.symm,h.yi,h.yi.symm,h.xa,h.xa.symm,h.ya,h.ya.symm,h.ia,h.ia.symm])),(show zbe ((D.sl 1 [D.str [97]],D.sl 1 [D.str x],D.sl 1 [D.str i]),x)=_ from zcr 0 h.ox.ww rfl rfl (by simp [yn,h.xy,h.xy.symm,h.xi,h.xi.symm,h.yi,h.yi.symm,h.xa,h.xa.symm,h.ya,h.ya.symm,h.ia,h.ia.symm]))] <;> rfl
def zhi:D×D×D×D×D×D:=(D.int .i64 5,D.int .i64 0,D.str [],D.sl 2 [],D.sl 6 [D.agg [D.int .i64 5,D.int .i64 0,D.str [],D.sl 2 [],D.sl 6 [D.agg [D.int .i64 22,D.int .i64 0,D.str [],D.sl 2 [],D.sl 6 [D.agg [D.int .i64 2,D.int .i64 0,D.str [97],D.sl 2 [],D.sl 6 [],D.sl 2 []],D.agg [D.int .i64 1,D.int .i64 0,D.str [],D.sl 2 [],D.sl 6 [],D.sl 2 []],D.agg [D.int .i64 12,D.int .i64 0,D.str [],D.sl 2 [],D.sl 6 [D.agg [D.int .i64 1,D.int .i64 0,D.str [],D.sl 2 [],D.sl 6 [],D.sl 2 []]],D.sl 2 []],D.agg [D.int .i64 1,D.int .i64 1,D.str [],D.sl 2 [],D.sl 6 [],D.sl 2 []]],D.sl 2 []]],D.sl 2 []]],D.sl 2 [])
theorem z09{x y i:List UInt8}(h:Ok3 x y i)(a0 a1 a2 a3 a4 a5 a6 a7 a8 a9 a10 a11 a12 a13 a14 a15 a16 a17 a18 a19 a20:Int):zl cx 42 [.d (.agg [.int .i64 2,.str [],.sl 5 [D.agg [D.int .i64 2,D.str [],D.sl 5 [D.agg [D.int .i64 6,D.str [],D.sl 5 [D.agg [D.int .i64 6,D.str [],D.sl 5 [D.agg [D.int .i64 6,D.str [],D.sl 5 [D.agg [D.int .i64 6,D.str [],D.sl 5 [D.agg [D.int .i64 1,D.str [83,49,101,108,105,109],D.sl 5 [],D.sl 1 [],D.int .i64 a6],D.agg [D.int .i64 2,D.str [],D.sl 5 [D.agg [D.int .i64 1,D.str [97],D.sl 5 [],D.sl 1 [],D.int .i64 a11]],D.sl 1 [D.str x],D.int .i64 a8]],D.sl 1 [],D.int .i64 a6],D.agg [D.int .i64 1,D.str y,D.sl 5 [],D.sl 1 [],D.int .i64 a13]],D.sl 1 [],D.int .i64 a6],D.agg [D.int .i64 3,D.str [],D.sl 5 [D.agg [D.int .i64 1,D.str y,D.sl 5 [],D.sl 1 [],D.int .i64 a18]],D.sl 1 [D.str i],D.int .i64 a15]],D.sl 1 [],D.int .i64 a6],D.agg [D.int .i64 1,D.str x,D.sl 5 [],D.sl 1 [],D.int .i64 a20]],D.sl 1 [],D.int .i64 a6]],D.sl 1 [D.str y],D.int .i64 a3]],.sl 1 [D.str x],.int .i64 a0]),.d (.sl 1 [.str [97]]),.d (.sl 1 []),.d (.sl 1 [])] []=some (.ret (zg4 (zhi,0,0)),[]):=by
 refine zt (qm (N:=30) (λ _ hK=>zdm hK) 20) (N:=30) ?_;refine (z5i spU spW zbe zj4 x y i a0 a1 a2 a3 a4 a5 a6 a7 a8 a9 a10 a11 a12 a13 a14 a15 a16 a17 a18 a19 a20 0).trans ?_;simp only [p5,p6,zi,zq4.ww,h.ox.ln,h.ox.uu,h.oy.ln,h.oy.uu,zgy znw (by decide),zgy zsr (by decide),h.oi.ln,h.oi.uu,h.ox.ww,h.oy.ww,(show zbe ((D.sl 1 [D.str [97]],D.sl 1 [D.str x,D.str y,D.str x],D.sl 1 []),[97])=_ from zsn 0 zq4.ww rfl rfl (by simp [yn,h.xy,h.xy.symm,h.xi,h.xi.symm,h.yi,h.yi.symm,h.xa,h.xa.symm,h.ya,h.ya.symm,h.ia,h.ia.symm]) rfl rfl (by simp [yn,h.xy,h.xy.symm,h.xi,h.xi.symm,h.yi,h.yi.symm,h.xa,h.xa.symm,h.ya,h.ya.symm,h.ia,h.ia.symm])),(show zbe ((D.sl 1 [D.str [97]],D.sl 1 [D.str y,D.str x],D.sl 1 []),y)=_ from zcr 0 h.oy.ww rfl rfl (by simp [yn,h.xy,h.xy.symm,h.xi,h.xi.symm,h.yi,h.yi.symm,h.xa,h.xa.symm,h.ya,h.ya.symm,h.ia,h.ia.symm])),h.oi.ww,(show zbe ((D.sl 1 [D.str [97]],D.sl 1 [D.str y,D.str x],D.sl 1 [D.str i]),y)=_ from zcr 0 h.oy.ww rfl rfl (by simp [yn,h.xy,h.xy.symm,h.xi,h.xi.symm,h.yi,h.yi.symm,h.xa,h.xa.symm,h.ya,h.ya.symm,h.ia,h.ia.symm])),(show zbe ((D.sl 1 [D.str [97]],D.sl 1 [D.str y,D.str x],D.sl 1 []),x)=_ from zcr 1 h.ox.ww rfl rfl (by simp [yn,h.xy,h.xy.symm,h.xi,h.xi.symm,h.yi,h.yi.symm,h.xa,h.xa.symm,h.ya,h.ya.symm,h.ia,h.ia.symm]))] <;> rfl
theorem z2s(x y:List UInt8)(a0 a1 a2 a3 a4 a5 z:Int):zc0 600000 [zy 2 [92] a0,zy 1 x a1,zy 1 y a2,zy 2 [46] a3,zy 1 x a4,zy 1 y a5,zy 0 [] z,zy 0 [] z,zy 0 [] z]=some (TR.ok { k:=2,nm:=[],kids:=[D.agg [D.int .i64 6,D.str [],D.sl 5 [D.agg [D.int .i64 1,D.str x,D.sl 5 [],D.sl 1 [],D.int .i64 a4],D.agg [D.int .i64 1,D.str y,D.sl 5 [],D.sl 1 [],D.int .i64 a5]],D.sl 1 [],D.int .i64 a4]],nms:=[D.str x,D.str y],pl:=a0 }):=by kernel_rfl
theorem z2r(x y i:List UInt8)(a0 a1 a2 a3 a4 a5 a6 a7 a8 a9 a10 a11 a12 a13 a14 a15 a16 a17 a18 a19 a20 z:Int):zc0 600000 [zy 2 [40] a0,zy 1 x a1,zy 2 [58] a2,zy 1 [97] a3,zy 2 [41] a4,zy 2 [45,62] a5,zy 2 [40] a6,zy 1 y a7,zy 2 [58] a8,zy 1 x a9,zy 2 [41] a10,zy 2 [42] a11,zy 1 [80,97,116,104] a12,zy 2 [40] a13,zy 2 [60] a14,zy 1 i a15,zy 2 [62] a16,zy 1 x a17,zy 2 [41] a18,zy 1 y a19,zy 1 y a20,zy 0 [] z,zy 0 [] z,zy 0 [] z]=some (TR.ok { k:=4,nm:=[],kids:=[D.agg [D.int .i64 1,D.str [97],D.sl 5 [],D.sl 1 [],D.int .i64 a3],D.agg [D.int .i64 5,D.str [],D.sl 5 [D.agg [D.int .i64 1,D.str x,D.sl 5 [],D.sl 1 [],D.int .i64 a9],D.agg [D.int .i64 6,D.str [],D.sl 5 [D.agg [D.int .i64 6,D.str [],D.sl 5 [D.agg [D.int .i64 6,D.str [],D.sl 5 [D.agg [D.int .i64 1,D.str [80,97,116,104],D.sl 5 [],D.sl 1 [],D.int .i64 a12],D.agg [D.int .i64 3,D.str [],D.sl 5 [D.agg [D.int .i64 1,D.str x,D.sl 5 [],D.sl 1 [],D.int .i64 a17]],D.sl 1 [D.str i],D.int .i64 a14]],D.sl 1 [],D.int .i64 a12],D.agg [D.int .i64 1,D.str y,D.sl 5 [],D.sl 1 [],D.int .i64 a19]],D.sl 1 [],D.int .i64 a12],D.agg [D.int .i64 1,D.str y,D.sl 5 [],D.sl 1 [],D.int .i64 a20]],D.sl 1 [],D.int .i64 a12]],D.sl 1 [D.str y],D.int .i64 a6]],nms:=[D.str x],pl:=a0 }):=by kernel_rfl
theorem z2q(x i:List UInt8)(a0 a1 a2 a3 a4 a5 a6 a7 a8 a9 a10 a11 a12 a13 z:Int):zc0 600000 [zy 2 [92] a0,zy 1 x a1,zy 2 [46] a2,zy 2 [60] a3,zy 1 i a4,zy 2 [62] a5,zy 1 x a6,zy 2 [64] a7,zy 2 [40] a8,zy 1 i a9,zy 2 [47,92] a10,zy 2 [126] a11,zy 1 i a12,zy 2 [41] a13,zy 0 [] z,zy 0 [] z,zy 0 [] z]=some (TR.ok { k:=2,nm:=[],kids:=[D.agg [D.int .i64 3,D.str [],D.sl 5 [D.agg [D.int .i64 7,D.str [],D.sl 5 [D.agg [D.int .i64 1,D.str x,D.sl 5 [],D.sl 1 [],D.int .i64 a6],D.agg [D.int .i64 15,D.str [],D.sl 5 [D.agg [D.int .i64 1,D.str i,D.sl 5 [],D.sl 1 [],D.int .i64 a9],D.agg [D.int .i64 16,D.str [],D.sl 5 [D.agg [D.int .i64 1,D.str i,D.sl 5 [],D.sl 1 [],D.int .i64 a12]],D.sl 1 [],D.int .i64 a11]],D.sl 1 [],D.int .i64 a9]],D.sl 1 [],D.int .i64 a6]],D.sl 1 [D.str i],D.int .i64 a3]],nms:=[D.str x],pl:=a0 }):=by kernel_rfl
theorem z2p(x y i:List UInt8)(a0 a1 a2 a3 a4 a5 a6 a7 a8 a9 a10 a11 a12 a13 a14 a15 a16 a17 a18 a19 a20 a21 a22 z:Int):zc0 600000 [zy 2 [92] a0,zy 1 x a1,zy 2 [46] a2,zy 2 [60] a3,zy 1 i a4,zy 2 [62] a5,zy 1 [104,99,111,109,112] a6,zy 1 [97] a7,zy 2 [91] a8,zy 2 [40] a9,zy 1 i a10,zy 2 [61] a11,zy 2 [48] a12,zy 2 [41] a13,zy 2 [45,62] a14,zy 2 [60] a15,zy 1 y a16,zy 2 [62] a17,zy 1 x a18,zy 2 [64] a19,zy 1 y a20,zy 2 [93] a21,zy 1 x a22,zy 0 [] z,zy 0 [] z,zy 0 [] z]=some (TR.ok { k:=2,nm:=[],kids:=[D.agg [D.int .i64 3,D.str [],D.sl 5 [D.agg [D.int .i64 6,D.str [],D.sl 5 [D.agg [D.int .i64 6,D.str [],D.sl 5 [D.agg [D.int .i64 6,D.str [],D.sl 5 [D.agg [D.int .i64 1,D.str [104,99,111,109,112],D.sl 5 [],D.sl 1 [],D.int .i64 a6],D.agg [D.int .i64 1,D.str [97],D.sl 5 [],D.sl 1 [],D.int .i64 a7]],D.sl 1 [],D.int .i64 a6],D.agg [D.int .i64 10,D.str [],D.sl 5 [D.agg [D.int .i64 11,D.str [],D.sl 5 [D.agg [D.int .i64 12,D.str [],D.sl 5 [D.agg [D.int .i64 13,D.str i,D.sl 5 [],D.sl 1 [D.str [48]],D.int .i64 a9]],D.sl 1 [],D.int .i64 a9],D.agg [D.int .i64 3,D.str [],D.sl 5 [D.agg [D.int .i64 7,D.str [],D.sl 5 [D.agg [D.int .i64 1,D.str x,D.sl 5 [],D.sl 1 [],D.int .i64 a18],D.agg [D.int .i64 1,D.str y,D.sl 5 [],D.sl 1 [],D.int .i64 a20]],D.sl 1 [],D.int .i64 a18]],D.sl 1 [D.str y],D.int .i64 a15]],D.sl 1 [],D.int .i64 a9]],D.sl 1 [],D.int .i64 a8]],D.sl 1 [],D.int .i64 a6],D.agg [D.int .i64 1,D.str x,D.sl 5 [],D.sl 1 [],D.int .i64 a22]],D.sl 1 [],D.int .i64 a6]],D.sl 1 [D.str i],D.int .i64 a3]],nms:=[D.str x],pl:=a0 }):=by kernel_rfl
theorem z2o(x y i:List UInt8)(a0 a1 a2 a3 a4 a5 a6 a7 a8 a9 a10 a11 a12 a13 a14 a15 a16 a17 a18 a19 a20 z:Int):zc0 600000 [zy 2 [92] a0,zy 1 x a1,zy 2 [46] a2,zy 2 [92] a3,zy 1 y a4,zy 2 [46] a5,zy 1 [83,49,101,108,105,109] a6,zy 2 [40] a7,zy 2 [92] a8,zy 1 x a9,zy 2 [46] a10,zy 1 [97] a11,zy 2 [41] a12,zy 1 y a13,zy 2 [40] a14,zy 2 [60] a15,zy 1 i a16,zy 2 [62] a17,zy 1 y a18,zy 2 [41] a19,zy 1 x a20,zy 0 [] z,zy 0 [] z,zy 0 [] z]=some (TR.ok { k:=2,nm:=[],kids:=[D.agg [D.int .i64 2,D.str [],D.sl 5 [D.agg [D.int .i64 6,D.str [],D.sl 5 [D.agg [D.int .i64 6,D.str [],D.sl 5 [D.agg [D.int .i64 6,D.str [],D.sl 5 [D.agg [D.int .i64 6,D.str [],D.sl 5 [D.agg [D.int .i64 1,D.str [83,49,101,108,105,109],D.sl 5 [],D.sl 1 [],D.int .i64 a6],D.agg [D.int .i64 2,D.str [],D.sl 5 [D.agg [D.int .i64 1,D.str [97],D.sl 5 [],D.sl 1 [],D.int .i64 a11]],D.sl 1 [D.str x],D.int .i64 a8]],D.sl 1 [],D.int .i64 a6],D.agg [D.int .i64 1,D.str y,D.sl 5 [],D.sl 1 [],D.int .i64 a13]],D.sl 1 [],D.int .i64 a6],D.agg [D.int .i64 3,D.str [],D.sl 5 [D.agg [D.int .i64 1,D.str y,D.sl 5 [],D.sl 1 [],D.int .i64 a18]],D.sl 1 [D.str i],D.int .i64 a15]],D.sl 1 [],D.int .i64 a6],D.agg [D.int .i64 1,D.str x,D.sl 5 [],D.sl 1 [],D.int .i64 a20]],D.sl 1 [],D.int .i64 a6]],D.sl 1 [D.str y],D.int .i64 a3]],nms:=[D.str x],pl:=a0 }):=by kernel_rfl
theorem z4u{x y i:List UInt8}(h:Ok3 x y i):zl cx 14 [.d (.str ([92]++x++[32]++y++[46,32]++x++[32]++y)),.d (.agg [.sl 1 [.str [97]],.sl 1 [],.sl 1 []])] []=some (.ret (zg4 (zhm,0,0)),[]):=by
 rw [show [92]++x++[32]++y++[46,32]++x++[32]++y=(92::(x++(32::(y++(46::(32::(x++(32::y)))))))) by simp]
 have lx:=h.ox.2.1; have ly:=h.oy.2.1;have hl:((92::(x++(32::(y++(46::(32::(x++(32::y))))))))).length≤65536:=by simp only [pj,p7,p8]; omega
 obtain ⟨I,he0,ht⟩:=zfd (z23 h.ox.1 h.oy.1) hl;obtain ⟨a0,I0,rfl,he1⟩:=zm he0;obtain ⟨a1,I1,rfl,he2⟩:=zm he1;obtain ⟨a2,I2,rfl,he3⟩:=zm he2;obtain ⟨a3,I3,rfl,he4⟩:=zm he3;obtain ⟨a4,I4,rfl,he5⟩:=zm he4;obtain ⟨a5,I5,rfl,he6⟩:=zm he5;obtain rfl:=zjc he6;exact m14 (by unfold big; omega) ((ht 600000).trans (z2s x y a0 a1 a2 a3 a4 a5 _)) (z1d h a0 a1 a2 a3 a4 a5)
theorem z4t{x y i:List UInt8}(h:Ok3 x y i):zl cx 14 [.d (.str ([40]++x++[32,58,32,97,41,32,45,62,32,40]++y++[32,58,32]++x++[41,32,42,32,80,97,116,104,32,40,60]++i++[62,32]++x++[41,32]++y++[32]++y)),.d (.agg [.sl 1 [.str [97]],.sl 1 [],.sl 1 []])] []=some (.ret (zg4 (zhl,0,0)),[]):=by
 rw [show [40]++x++[32,58,32,97,41,32,45,62,32,40]++y++[32,58,32]++x++[41,32,42,32,80,97,116,104,32,40,60]++i++[62,32]++x++[41,32]++y++[32]++y=(40::(x++(32::(58::(32::(97::(41::(32::(45::62::(32::(40::(y++(32::(58::(32::(x++(41::(32::(42::(32::(80::97::116::104::(32::(40::(60::(i++(62::(32::(x++(41::(32::(y++(32::y)))))))))))))))))))))))))))))))) by simp]
 have lx:=h.ox.2.1; have ly:=h.oy.2.1; have li:=h.oi.2.1;have hl:((40::(x++(32::(58::(32::(97::(41::(32::(45::62::(32::(40::(y++(32::(58::(32::(x++(41::(32::(42::(32::(80::97::116::104::(32::(40::(60::(i++(62::(32::(x++(41::(32::(y++(32::y))))))))))))))))))))))))))))))))).length≤65536:=by simp only [pj,p7,p8]; omega
 obtain ⟨I,he0,ht⟩:=zfd (z21 h.ox.1 h.oy.1 h.oi.1) hl;obtain ⟨a0,I0,rfl,he1⟩:=zm he0;obtain ⟨a1,I1,rfl,he2⟩:=zm he1;obtain ⟨a2,I2,rfl,he3⟩:=zm he2;obtain ⟨a3,I3,rfl,he4⟩:=zm he3;obtain ⟨a4,I4,rfl,he5⟩:=zm he4;obtain ⟨a5,I5,rfl,he6⟩:=zm he5;obtain ⟨a6,I6,rfl,he7⟩:=zm he6;obtain ⟨a7,I7,rfl,he8⟩:=zm he7;obtain ⟨a8,I8,rfl,he9⟩:=zm he8;obtain ⟨a9,I9,rfl,he10⟩:=zm he9;obtain ⟨a10,I10,rfl,he11⟩:=zm he10;obtain ⟨a11,I11,rfl,he12⟩:=zm he11;obtain ⟨a12,I12,rfl,he13⟩:=zm he12;obtain ⟨a13,I13,rfl,he14⟩:=zm he13;obtain ⟨a14,I14,rfl,he15⟩:=zm he14;obtain ⟨a15,I15,rfl,he16⟩:=zm he15;obtain ⟨a16,I16,rfl,he17⟩:=zm he16;obtain ⟨a17,I17,rfl,he18⟩:=zm he17;obtain ⟨a18,I18,rfl,he19⟩:=zm he18;obtain ⟨a19,I19,rfl,he20⟩:=zm he19;obtain ⟨a20,I20,rfl,he21⟩:=zm he20;obtain rfl:=zjc he21;exact m14 (by unfold big; omega) ((ht 600000).trans (z2r x y i a0 a1 a2 a3 a4 a5 a6 a7 a8 a9 a10 a11 a12 a13 a14 a15 a16 a17 a18 a19 a20 _)) (z1c h a0 a1 a2 a3 a4 a5 a6 a7 a8 a9 a10 a11 a12 a13 a14 a15 a16 a17 a18 a19 a20)
theorem z4s{x y i:List UInt8}(h:Ok3 x y i):zl cx 14 [.d (.str ([92]++x++[46,32,60]++i++[62,32]++x++[32,64,32,40]++i++[32,47,92,32,126]++i++[41])),.d (.agg [.sl 1 [.str [97]],.sl 1 [],.sl 1 []])] []=some (.ret (zg4 (zhk,0,0)),[]):=by
 rw [show [92]++x++[46,32,60]++i++[62,32]++x++[32,64,32,40]++i++[32,47,92,32,126]++i++[41]=(92::(x++(46::(32::(60::(i++(62::(32::(x++(32::(64::(32::(40::(i++(32::(47::92::(32::(126::(i++(41::[])))))))))))))))))))) by simp]
 have lx:=h.ox.2.1; have li:=h.oi.2.1;have hl:((92::(x++(46::(32::(60::(i++(62::(32::(x++(32::(64::(32::(40::(i++(32::(47::92::(32::(126::(i++(41::[]))))))))))))))))))))).length≤65536:=by simp only [pj,p7,p8]; omega
 obtain ⟨I,he0,ht⟩:=zfd (z2z h.ox.1 h.oi.1) hl;obtain ⟨a0,I0,rfl,he1⟩:=zm he0;obtain ⟨a1,I1,rfl,he2⟩:=zm he1;obtain ⟨a2,I2,rfl,he3⟩:=zm he2;obtain ⟨a3,I3,rfl,he4⟩:=zm he3;obtain ⟨a4,I4,rfl,he5⟩:=zm he4;obtain ⟨a5,I5,rfl,he6⟩:=zm he5;obtain ⟨a6,I6,rfl,he7⟩:=zm he6;obtain ⟨a7,I7,rfl,he8⟩:=zm he7;obtain ⟨a8,I8,rfl,he9⟩:=zm he8;obtain ⟨a9,I9,rfl,he10⟩:=zm he9;obtain ⟨a10,I10,rfl,he11⟩:=zm he10;obtain ⟨a11,I11,rfl,he12⟩:=zm he11;obtain ⟨a12,I12,rfl,he13⟩:=zm he12;obtain ⟨a13,I13,rfl,he14⟩:=zm he13;obtain rfl:=zjc he14;exact m14 (by unfold big; omega) ((ht 600000).trans (z2q x i a0 a1 a2 a3 a4 a5 a6 a7 a8 a9 a10 a11 a12 a13 _)) (z1b h a0 a1 a2 a3 a4 a5 a6 a7 a8 a9 a10 a11 a12 a13)
theorem z4r{x y i:List UInt8}(h:Ok3 x y i):zl cx 14 [.d (.str ([92]++x++[46,32,60]++i++[62,32,104,99,111,109,112,32,97,32,91,40]++i++[61,48,41,32,45,62,32,60]++y++[62,32]++x++[32,64,32]++y++[93,32]++x)),.d (.agg [.sl 1 [.str [97]],.sl 1 [],.sl 1 []])] []=some (.ret (zg4 (zhj,0,0)),[]):=by
 rw [show [92]++x++[46,32,60]++i++[62,32,104,99,111,109,112,32,97,32,91,40]++i++[61,48,41,32,45,62,32,60]++y++[62,32]++x++[32,64,32]++y++[93,32]++x=(92::(x++(46::(32::(60::(i++(62::(32::(104::99::111::109::112::(32::(97::(32::(91::(40::(i++(61::(48::(41::(32::(45::62::(32::(60::(y++(62::(32::(x++(32::(64::(32::(y++(93::(32::x)))))))))))))))))))))))))))))))) by simp]
 have lx:=h.ox.2.1; have ly:=h.oy.2.1; have li:=h.oi.2.1;have hl:((92::(x++(46::(32::(60::(i++(62::(32::(104::99::111::109::112::(32::(97::(32::(91::(40::(i++(61::(48::(41::(32::(45::62::(32::(60::(y++(62::(32::(x++(32::(64::(32::(y++(93::(32::x))))))))))))))))))))))))))))))))).length≤65536:=by simp only [pj,p7,p8]; omega
 obtain ⟨I,he0,ht⟩:=zfd (z2y h.ox.1 h.oy.1 h.oi.1) hl;obtain ⟨a0,I0,rfl,he1⟩:=zm he0;obtain ⟨a1,I1,rfl,he2⟩:=zm he1;obtain ⟨a2,I2,rfl,he3⟩:=zm he2;obtain ⟨a3,I3,rfl,he4⟩:=zm he3;obtain ⟨a4,I4,rfl,he5⟩:=zm he4;obtain ⟨a5,I5,rfl,he6⟩:=zm he5;obtain ⟨a6,I6,rfl,he7⟩:=zm he6;obtain ⟨a7,I7,rfl,he8⟩:=zm he7;obtain ⟨a8,I8,rfl,he9⟩:=zm he8;obtain ⟨a9,I9,rfl,he10⟩:=zm he9;obtain ⟨a10,I10,rfl,he11⟩:=zm he10;obtain ⟨a11,I11,rfl,he12⟩:=zm he11;obtain ⟨a12,I12,rfl,he13⟩:=zm he12;obtain ⟨a13,I13,rfl,he14⟩:=zm he13;obtain ⟨a14,I14,rfl,he15⟩:=zm he14;obtain ⟨a15,I15,rfl,he16⟩:=zm he15;obtain ⟨a16,I16,rfl,he17⟩:=zm he16;obtain ⟨a17,I17,rfl,he18⟩:=zm he17;obtain ⟨a18,I18,rfl,he19⟩:=zm he18;obtain ⟨a19,I19,rfl,he20⟩:=zm he19;obtain ⟨a20,I20,rfl,he21⟩:=zm he20;obtain ⟨a21,I21,rfl,he22⟩:=zm he21;obtain ⟨a22,I22,rfl,he23⟩:=zm he22;obtain rfl:=zjc he23;exact m14 (by unfold big; omega) ((ht 600000).trans (z2p x y i a0 a1 a2 a3 a4 a5 a6 a7 a8 a9 a10 a11 a12 a13 a14 a15 a16 a17 a18 a19 a20 a21 a22 _)) (z1a h a0 a1 a2 a3 a4 a5 a6 a7 a8 a9 a10 a11 a12 a13 a14 a15 a16 a17 a18 a19 a20 a21 a22)
theorem z4q{x y i:List UInt8}(h:Ok3 x y i):zl cx 14 [.d (.str ([92]++x++[46,32,92]++y++[46,32,83,49,101,108,105,109,32,40,92]++x++[46,32,97,41,32]++y++[32,40,60]++i++[62,32]++y++[41,32]++x)),.d (.agg [.sl 1 [.str [97]],.sl 1 [],.sl 1 []])] []=some (.ret (zg4 (zhi,0,0)),[]):=by
 rw [show [92]++x++[46,32,92]++y++[46,32,83,49,101,108,105,109,32,40,92]++x++[46,32,97,41,32]++y++[32,40,60]++i++[62,32]++y++[41,32]++x=(92::(x++(46::(32::(92::(y++(46::(32::(83::49::101::108::105::109::(32::(40::(92::(x++(46::(32::(97::(41::(32::(y++(32::(40::(60::(i++(62::(32::(y++(41::(32::x)))))))))))))))))))))))))))) by simp]
 have lx:=h.ox.2.1; have ly:=h.oy.2.1; have li:=h.oi.2.1;have hl:((92::(x++(46::(32::(92::(y++(46::(32::(83::49::101::108::105::109::(32::(40::(92::(x++(46::(32::(97::(41::(32::(y++(32::(40::(60::(i++(62::(32::(y++(41::(32::x))))))))))))))))))))))))))))).length≤65536:=by simp only [pj,p7,p8]; omega
 obtain ⟨I,he0,ht⟩:=zfd (z2x h.ox.1 h.oy.1 h.oi.1) hl;obtain ⟨a0,I0,rfl,he1⟩:=zm he0;obtain ⟨a1,I1,rfl,he2⟩:=zm he1;obtain ⟨a2,I2,rfl,he3⟩:=zm he2;obtain ⟨a3,I3,rfl,he4⟩:=zm he3;obtain ⟨a4,I4,rfl,he5⟩:=zm he4;obtain ⟨a5,I5,rfl,he6⟩:=zm he5;obtain ⟨a6,I6,rfl,he7⟩:=zm he6;obtain ⟨a7,I7,rfl,he8⟩:=zm he7;obtain ⟨a8,I8,rfl,he9⟩:=zm he8;obtain ⟨a9,I9,rfl,he10⟩:=zm he9;obtain ⟨a10,I10,rfl,he11⟩:=zm he10;obtain ⟨a11,I11,rfl,he12⟩:=zm he11;obtain ⟨a12,I12,rfl,he13⟩:=zm he12;obtain ⟨a13,I13,rfl,he14⟩:=zm he13;obtain ⟨a14,I14,rfl,he15⟩:=zm he14;obtain ⟨a15,I15,rfl,he16⟩:=zm he15;obtain ⟨a16,I16,rfl,he17⟩:=zm he16;obtain ⟨a17,I17,rfl,he18⟩:=zm he17;obtain ⟨a18,I18,rfl,he19⟩:=zm he18;obtain ⟨a19,I19,rfl,he20⟩:=zm he19;obtain ⟨a20,I20,rfl,he21⟩:=zm he20;obtain rfl:=zjc he21;exact m14 (by unfold big; omega) ((ht 600000).trans (z2o x y i a0 a1 a2 a3 a4 a5 a6 a7 a8 a9 a10 a11 a12 a13 a14 a15 a16 a17 a18 a19 a20 _)) (z09 h a0 a1 a2 a3 a4 a5 a6 a7 a8 a9 a10 a11 a12 a13 a14 a15 a16 a17 a18 a19 a20)
def zsj(s:List UInt8):Option (Tr×Int×Int):=match xu 600000 s with
 | some (.ok t)=>some (t,0,0)
 | some (.bad a e)=>bif decide (e=0) then none else some (⟨0,[],[],[],0⟩,a,e)
 | none=>none
theorem zwz(s:List UInt8):∃ r,zsj s=some r∧(r.2.2=0→xu 600000 s=some (.ok r.1)):=by
 rcases zt9 s with ⟨I,hT⟩ | ⟨hE,_⟩
 ·rcases zua hT (Nat.le_refl 600000) with ⟨t,n,h1,_⟩ | ⟨a,e,h1,_,_,he⟩
  ·exact ⟨(t,0,0),by unfold zsj; rw [h1],λ _=>h1⟩
  ·have h0:e ≠ 0:=by omega
   exact ⟨(⟨0,[],[],[],0⟩,a,e),by unfold zsj; rw [h1]; show (bif decide (e=0) then none else _)=_; rw [pd h0]; rfl,λ h=>absurd h h0⟩
 ·have h1:xu 600000 s=some (.bad (qe s) (xj s)):=by
   unfold xu;rw [pd hE,p6]
  exact ⟨(⟨0,[],[],[],0⟩,qe s,xj s),by unfold zsj; rw [h1]; show (bif decide (xj s=0) then none else _)=_; rw [pd hE]; rfl,λ h=>absurd h hE⟩
theorem k11{K:CK R1}(hK:knows cx K.S (zl cx)):knows cx (xl 11 ztl some zuk K).S (zl cx):=yp hK λ a q b _ h hb=>by
 rw [zl2 h];exact m11
theorem k12{K:CK R1}(hK:knows cx K.S (zl cx)):knows cx (xl 12 zib zsj z08 K).S (zl cx):=yp hK λ a q b hd h hb=>by
 obtain rfl:=zem h;unfold zsj at hb;split at hb
 ·rename_i t ht;cases hb;exact zxv 600000 q (ph hd) _ ht trivial
 ·rename_i p e ht;cases h0:decide (e=0) <;> rw [h0] at hb <;> cases hb;exact zxv 600000 q (ph hd) _ ht (of_decide_eq_false h0)
 ·cases hb
def zw8(s:List UInt8):Option Int:=some (zis zfc s)
theorem k13{K:CK R1}(hK:knows cx K.S (zl cx)):knows cx (xl 13 zib zw8 mkI K).S (zl cx):=yp hK λ a q b _ h hb=>by
 rw [zem h];cases hb;exact m13 q
theorem ztp{a:List V}{q}(h:zyi a=some q):a=[.d (.str q.1),.d q.2]:=by
 unfold zyi at h; split at h <;> cases h; rfl
theorem zxh{x:List UInt8}{r:Tr×Int×Int}(hl:x.length≤1000)(ht:r.2.2=0→xu 600000 x=some (.ok r.1))(e0:r.2.2=0)(ek:r.1.k=1)(en:r.1.nm=x)(et : ¬ 0≤zis zfc x):okN x:=
 ⟨zzc (ht e0) ek en,hl,z2h (by omega)⟩
theorem zpp{x:List UInt8}(h:x.length≤1000):decide ((1000:Int)<Int.ofNat x.length)=false:=pd (by
 show ¬ (1000:Int)<(x.length:Int);omega)
theorem zps{x:List UInt8}(h : ¬ x.length≤1000):decide ((1000:Int)<Int.ofNat x.length)=true:=pb (by
 show (1000:Int)<(x.length:Int);omega)
theorem zxr{x:List UInt8}(h:x.length≤1000):decide (x.length≤4611686018427387904)=true:=pb (by omega)
theorem a15(a:Int)(x y i:List UInt8):zx cx (CK.plain xx) 5 15 [.d (.int .i64 a),.d (.str x),.d (.str y),.d (.str i)] []=bif decide (IntKind.i64.wrap ((IntKind.u64.wrap a).tmod 5)=0) then bif decide (1+x.length≤4611686018427387904) then bif decide (([92]++x).length+1≤4611686018427387904) then bif decide (([92]++x++[32]).length+y.length≤4611686018427387904) then bif decide (([92]++x++[32]++y).length+2≤4611686018427387904) then bif decide (([92]++x++[32]++y++[46,32]).length+x.length≤4611686018427387904) then bif decide (([92]++x++[32]++y++[46,32]++x).length+1≤4611686018427387904) then bif decide (([92]++x++[32]++y++[46,32]++x++[32]).length+y.length≤4611686018427387904) then some (Out.ret (V.d (D.str ([92]++x++[32]++y++[46,32]++x++[32]++y))),[]) else none else none else none else none else none else none else none else bif decide (IntKind.i64.wrap ((IntKind.u64.wrap a).tmod 5)=1) then bif decide (1+x.length≤4611686018427387904) then bif decide (([40]++x).length+10≤4611686018427387904) then bif decide (([40]++x++[32,58,32,97,41,32,45,62,32,40]).length+y.length≤4611686018427387904) then bif decide (([40]++x++[32,58,32,97,41,32,45,62,32,40]++y).length+3≤4611686018427387904) then bif decide (([40]++x++[32,58,32,97,41,32,45,62,32,40]++y++[32,58,32]).length+x.length≤4611686018427387904) then bif decide (([40]++x++[32,58,32,97,41,32,45,62,32,40]++y++[32,58,32]++x).length+11≤4611686018427387904) then bif decide (([40]++x++[32,58,32,97,41,32,45,62,32,40]++y++[32,58,32]++x++[41,32,42,32,80,97,116,104,32,40,60]).length+i.length≤4611686018427387904) then bif decide (([40]++x++[32,58,32,97,41,32,45,62,32,40]++y++[32,58,32]++x++[41,32,42,32,80,97,116,104,32,40,60]++i).length+2≤4611686018427387904) then bif decide (([40]++x++[32,58,32,97,41,32,45,62,32,40]++y++[32,58,32]++x++[41,32,42,32,80,97,116,104,32,40,60]++i++[62,32]).length+x.length≤4611686018427387904) then bif decide (([40]++x++[32,58,32,97,41,32,45,62,32,40]++y++[32,58,32]++x++[41,32,42,32,80,97,116,104,32,40,60]++i++[62,32]++x).length+2≤4611686018427387904) then bif decide (([40]++x++[32,58,32,97,41,32,45,62,32,40]++y++[32,58,32]++x++[41,32,42,32,80,97,116,104,32,40,60]++i++[62,32]++x++[41,32]).length+y.length≤4611686018427387904) then bif decide (([40]++x++[32,58,32,97,41,32,45,62,32,40]++y++[32,58,32]++x++[41,32,42,32,80,97,116,104,32,40,60]++i++[62,32]++x++[41,32]++y).length+1≤4611686018427387904) then bif decide (([40]++x++[32,58,32,97,41,32,45,62,32,40]++y++[32,58,32]++x++[41,32,42,32,80,97,116,104,32,40,60]++i++[62,32]++x++[41,32]++y++[32]).length+y.length≤4611686018427387904) then some (Out.ret (V.d (D.str ([40]++x++[32,58,32,97,41,32,45,62,32,40]++y++[32,58,32]++x++[41,32,42,32,80,97,116,104,32,40,60]++i++[62,32]++x++[41,32]++y++[32]++y))),[]) else none else none else none else none else none else none else none else none else none else none else none else none else none else bif decide (IntKind.i64.wrap ((IntKind.u64.wrap a).tmod 5)=2) then bif decide (1+x.length≤4611686018427387904) then bif decide (([92]++x).length+3≤4611686018427387904) then bif decide (([92]++x++[46,32,60]).length+i.length≤4611686018427387904) then bif decide (([92]++x++[46,32,60]++i).length+2≤4611686018427387904) then bif decide (([92]++x++[46,32,60]++i++[62,32]).length+x.length≤4611686018427387904) then bif decide (([92]++x++[46,32,60]++i++[62,32]++x).length+4≤4611686018427387904) then bif decide (([92]++x++[46,32,60]++i++[62,32]++x++[32,64,32,40]).length+i.length≤4611686018427387904) then bif decide (([92]++x++[46,32,60]++i++[62,32]++x++[32,64,32,40]++i).length+5≤4611686018427387904) then bif decide (([92]++x++[46,32,60]++i++[62,32]++x++[32,64,32,40]++i++[32,47,92,32,126]).length+i.length≤4611686018427387904) then bif decide (([92]++x++[46,32,60]++i++[62,32]++x++[32,64,32,40]++i++[32,47,92,32,126]++i).length+1≤4611686018427387904) then some (Out.ret (V.d (D.str ([92]++x++[46,32,60]++i++[62,32]++x++[32,64,32,40]++i++[32,47,92,32,126]++i++[41]))),[]) else none else none else none else none else none else none else none else none else none else none else bif decide (IntKind.i64.wrap ((IntKind.u64.wrap a).tmod 5)=3) then bif decide (1+x.length≤4611686018427387904) then bif decide (([92]++x).length+3≤4611686018427387904) then bif decide (([92]++x++[46,32,60]).length+i.length≤4611686018427387904) then bif decide (([92]++x++[46,32,60]++i).length+12≤4611686018427387904) then bif decide (([92]++x++[46,32,60]++i++[62,32,104,99,111,109,112,32,97,32,91,40]).length+i.length≤4611686018427387904) then bif decide (([92]++x++[46,32,60]++i++[62,32,104,99,111,109,112,32,97,32,91,40]++i).length+8≤4611686018427387904) then bif decide (([92]++x++[46,32,60]++i++[62,32,104,99,111,109,112,32,97,32,91,40]++i++[61,48,41,32,45,62,32,60]).length+y.length≤4611686018427387904) then bif decide (([92]++x++[46,32,60]++i++[62,32,104,99,111,109,112,32,97,32,91,40]++i++[61,48,41,32,45,62,32,60]++y).length+2≤4611686018427387904) then bif decide (([92]++x++[46,32,60]++i++[62,32,104,99,111,109,112,32,97,32,91,40]++i++[61,48,41,32,45,62,32,60]++y++[62,32]).length+x.length≤4611686018427387904) then bif decide (([92]++x++[46,32,60]++i++[62,32,104,99,111,109,112,32,97,32,91,40]++i++[61,48,41,32,45,62,32,60]++y++[62,32]++x).length+3≤4611686018427387904) then bif decide (([92]++x++[46,32,60]++i++[62,32,104,99,111,109,112,32,97,32,91,40]++i++[61,48,41,32,45,62,32,60]++y++[62,32]++x++[32,64,32]).length+y.length≤4611686018427387904) then bif decide (([92]++x++[46,32,60]++i++[62,32,104,99,111,109,112,32,97,32,91,40]++i++[61,48,41,32,45,62,32,60]++y++[62,32]++x++[32,64,32]++y).length+2≤4611686018427387904) then bif decide (([92]++x++[46,32,60]++i++[62,32,104,99,111,109,112,32,97,32,91,40]++i++[61,48,41,32,45,62,32,60]++y++[62,32]++x++[32,64,32]++y++[93,32]).length+x.length≤4611686018427387904) then some (Out.ret (V.d (D.str ([92]++x++[46,32,60]++i++[62,32,104,99,111,109,112,32,97,32,91,40]++i++[61,48,41,32,45,62,32,60]++y++[62,32]++x++[32,64,32]++y++[93,32]++x))),[]) else none else none else none else none else none else none else none else none else none else none else none else none else none else bif decide (1+x.length≤4611686018427387904) then bif decide (([92]++x).length+3≤4611686018427387904) then bif decide (([92]++x++[46,32,92]).length+y.length≤4611686018427387904) then bif decide (([92]++x++[46,32,92]++y).length+11≤4611686018427387904) then bif decide (([92]++x++[46,32,92]++y++[46,32,83,49,101,108,105,109,32,40,92]).length+x.length≤4611686018427387904) then bif decide (([92]++x++[46,32,92]++y++[46,32,83,49,101,108,105,109,32,40,92]++x).length+5≤4611686018427387904) then bif decide (([92]++x++[46,32,92]++y++[46,32,83,49,101,108,105,109,32,40,92]++x++[46,32,97,41,32]).length+y.length≤4611686018427387904) then bif decide (([92]++x++[46,32,92]++y++[46,32,83,49,101,108,105,109,32,40,92]++x++[46,32,97,41,32]++y).length+3≤4611686018427387904) then bif decide (([92]++x++[46,32,92]++y++[46,32,83,49,101,108,105,109,32,40,92]++x++[46,32,97,41,32]++y++[32,40,60]).length+i.length≤4611686018427387904) then bif decide (([92]++x++[46,32,92]++y++[46,32,83,49,101,108,105,109,32,40,92]++x++[46,32,97,41,32]++y++[32,40,60]++i).length+2≤4611686018427387904) then bif decide (([92]++x++[46,32,92]++y++[46,32,83,49,101,108,105,109,32,40,92]++x++[46,32,97,41,32]++y++[32,40,60]++i++[62,32]).length+y.length≤4611686018427387904) then bif decide (([92]++x++[46,32,92]++y++[46,32,83,49,101,108,105,109,32,40,92]++x++[46,32,97,41,32]++y++[32,40,60]++i++[62,32]++y).length+2≤4611686018427387904) then bif decide (([92]++x++[46,32,92]++y++[46,32,83,49,101,108,105,109,32,40,92]++x++[46,32,97,41,32]++y++[32,40,60]++i++[62,32]++y++[41,32]).length+x.length≤4611686018427387904) then some (Out.ret (V.d (D.str ([92]++x++[46,32,92]++y++[46,32,83,49,101,108,105,109,32,40,92]++x++[46,32,97,41,32]++y++[32,40,60]++i++[62,32]++y++[41,32]++x))),[]) else none else none else none else none else none else none else none else none else none else none else none else none else none:=by kernel_rfl
theorem k5(a:Int):∃ k:Nat,k<5∧IntKind.i64.wrap ((IntKind.u64.wrap a).tmod 5)=(k:Int):=by
 have h0:(0:Int)≤IntKind.u64.wrap a:=by unfold IntKind.wrap; simp [IntKind.signed,IntKind.bits]; omega
 have h1:(IntKind.u64.wrap a).tmod 5=(IntKind.u64.wrap a) % 5:=Int.tmod_eq_emod_of_nonneg h0;rw [h1];refine ⟨(IntKind.u64.wrap a % 5).toNat,by omega,?_⟩
 rw [wrap_small (by omega) (by omega)]
 omega
theorem z2m{x y i:List UInt8}(a:Int)(hk:IntKind.i64.wrap ((IntKind.u64.wrap a).tmod 5)=0)(lx:x.length≤1000)(ly:y.length≤1000)(li:i.length≤1000):zl cx 15 [.d (.int .i64 a),.d (.str x),.d (.str y),.d (.str i)] []=some (.ret (mkS ([92]++x++[32]++y++[46,32]++x++[32]++y)),[]):=by
 refine zt yj (N:=5) ?_;rw [a15,hk];have L0:decide (1+x.length≤4611686018427387904)=true:=pb (by (try simp only [pj,p7,p8]); omega)
 have L1:decide (([92]++x).length+1≤4611686018427387904)=true:=pb (by (try simp only [pj,p7,p8]); omega)
 have L2:decide (([92]++x++[32]).length+y.length≤4611686018427387904)=true:=pb (by (try simp only [pj,p7,p8]); omega)
 have L3:decide (([92]++x++[32]++y).length+2≤4611686018427387904)=true:=pb (by (try simp only [pj,p7,p8]); omega)
 have L4:decide (([92]++x++[32]++y++[46,32]).length+x.length≤4611686018427387904)=true:=pb (by (try simp only [pj,p7,p8]); omega)
 have L5:decide (([92]++x++[32]++y++[46,32]++x).length+1≤4611686018427387904)=true:=pb (by (try simp only [pj,p7,p8]); omega)
 have L6:decide (([92]++x++[32]++y++[46,32]++x++[32]).length+y.length≤4611686018427387904)=true:=pb (by (try simp only [pj,p7,p8]); omega)
 simp only [p5,p6,pb (show (0:Int)=0 from rfl),L0,L1,L2,L3,L4,L5,L6] <;> rfl
theorem z2l{x y i:List UInt8}(a:Int)(hk:IntKind.i64.wrap ((IntKind.u64.wrap a).tmod 5)=1)(lx:x.length≤1000)(ly:y.length≤1000)(li:i.length≤1000):zl cx 15 [.d (.int .i64 a),.d (.str x),.d (.str y),.d (.str i)] []=some (.ret (mkS ([40]++x++[32,58,32,97,41,32,45,62,32,40]++y++[32,58,32]++x++[41,32,42,32,80,97,116,104,32,40,60]++i++[62,32]++x++[41,32]++y++[32]++y)),[]):=by
 refine zt yj (N:=5) ?_;rw [a15,hk];have L0:decide (1+x.length≤4611686018427387904)=true:=pb (by (try simp only [pj,p7,p8]); omega)
 have L1:decide (([40]++x).length+10≤4611686018427387904)=true:=pb (by (try simp only [pj,p7,p8]); omega)
 have L2:decide (([40]++x++[32,58,32,97,41,32,45,62,32,40]).length+y.length≤4611686018427387904)=true:=pb (by (try simp only [pj,p7,p8]); omega)
 have L3:decide (([40]++x++[32,58,32,97,41,32,45,62,32,40]++y).length+3≤4611686018427387904)=true:=pb (by (try simp only [pj,p7,p8]); omega)
 have L4:decide (([40]++x++[32,58,32,97,41,32,45,62,32,40]++y++[32,58,32]).length+x.length≤4611686018427387904)=true:=pb (by (try simp only [pj,p7,p8]); omega)
 have L5:decide (([40]++x++[32,58,32,97,41,32,45,62,32,40]++y++[32,58,32]++x).length+11≤4611686018427387904)=true:=pb (by (try simp only [pj,p7,p8]); omega)
 have L6:decide (([40]++x++[32,58,32,97,41,32,45,62,32,40]++y++[32,58,32]++x++[41,32,42,32,80,97,116,104,32,40,60]).length+i.length≤4611686018427387904)=true:=pb (by (try simp only [pj,p7,p8]); omega)
 have L7:decide (([40]++x++[32,58,32,97,41,32,45,62,32,40]++y++[32,58,32]++x++[41,32,42,32,80,97,116,104,32,40,60]++i).length+2≤4611686018427387904)=true:=pb (by (try simp only [pj,p7,p8]); omega)
 have L8:decide (([40]++x++[32,58,32,97,41,32,45,62,32,40]++y++[32,58,32]++x++[41,32,42,32,80,97,116,104,32,40,60]++i++[62,32]).length+x.length≤4611686018427387904)=true:=pb (by (try simp only [pj,p7,p8]); omega)
 have L9:decide (([40]++x++[32,58,32,97,41,32,45,62,32,40]++y++[32,58,32]++x++[41,32,42,32,80,97,116,104,32,40,60]++i++[62,32]++x).length+2≤4611686018427387904)=true:=pb (by (try simp only [pj,p7,p8]); omega)
 have L10:decide (([40]++x++[32,58,32,97,41,32,45,62,32,40]++y++[32,58,32]++x++[41,32,42,32,80,97,116,104,32,40,60]++i++[62,32]++x++[41,32]).length+y.length≤4611686018427387904)=true:=pb (by (try simp only [pj,p7,p8]); omega)
 have L11:decide (([40]++x++[32,58,32,97,41,32,45,62,32,40]++y++[32,58,32]++x++[41,32,42,32,80,97,116,104,32,40,60]++i++[62,32]++x++[41,32]++y).length+1≤4611686018427387904)=true:=pb (by (try simp only [pj,p7,p8]); omega)
 have L12:decide (([40]++x++[32,58,32,97,41,32,45,62,32,40]++y++[32,58,32]++x++[41,32,42,32,80,97,116,104,32,40,60]++i++[62,32]++x++[41,32]++y++[32]).length+y.length≤4611686018427387904)=true:=pb (by (try simp only [pj,p7,p8]); omega)
 simp only [p5,p6,pd (show ¬ ((1:Int)=0) by decide),pb (show (1:Int)=1 from rfl),L0,L1,L2,L3,L4,L5,L6,L7,L8,L9,L10,L11,L12] <;> rfl
theorem z2k{x y i:List UInt8}(a:Int)(hk:IntKind.i64.wrap ((IntKind.u64.wrap a).tmod 5)=2)(lx:x.length≤1000)(ly:y.length≤1000)(li:i.length≤1000):zl cx 15 [.d (.int .i64 a),.d (.str x),.d (.str y),.d (.str i)] []=some (.ret (mkS ([92]++x++[46,32,60]++i++[62,32]++x++[32,64,32,40]++i++[32,47,92,32,126]++i++[41])),[]):=by
 refine zt yj (N:=5) ?_;rw [a15,hk];have L0:decide (1+x.length≤4611686018427387904)=true:=pb (by (try simp only [pj,p7,p8]); omega)
 have L1:decide (([92]++x).length+3≤4611686018427387904)=true:=pb (by (try simp only [pj,p7,p8]); omega)
 have L2:decide (([92]++x++[46,32,60]).length+i.length≤4611686018427387904)=true:=pb (by (try simp only [pj,p7,p8]); omega)
 have L3:decide (([92]++x++[46,32,60]++i).length+2≤4611686018427387904)=true:=pb (by (try simp only [pj,p7,p8]); omega)
 have L4:decide (([92]++x++[46,32,60]++i++[62,32]).length+x.length≤4611686018427387904)=true:=pb (by (try simp only [pj,p7,p8]); omega)
 have L5:decide (([92]++x++[46,32,60]++i++[62,32]++x).length+4≤4611686018427387904)=true:=pb (by (try simp only [pj,p7,p8]); omega)
 have L6:decide (([92]++x++[46,32,60]++i++[62,32]++x++[32,64,32,40]).length+i.length≤4611686018427387904)=true:=pb (by (try simp only [pj,p7,p8]); omega)
 have L7:decide (([92]++x++[46,32,60]++i++[62,32]++x++[32,64,32,40]++i).length+5≤4611686018427387904)=true:=pb (by (try simp only [pj,p7,p8]); omega)
 have L8:decide (([92]++x++[46,32,60]++i++[62,32]++x++[32,64,32,40]++i++[32,47,92,32,126]).length+i.length≤4611686018427387904)=true:=pb (by (try simp only [pj,p7,p8]); omega)
 have L9:decide (([92]++x++[46,32,60]++i++[62,32]++x++[32,64,32,40]++i++[32,47,92,32,126]++i).length+1≤4611686018427387904)=true:=pb (by (try simp only [pj,p7,p8]); omega)
 simp only [p5,p6,pd (show ¬ ((2:Int)=0) by decide),pd (show ¬ ((2:Int)=1) by decide),pb (show (2:Int)=2 from rfl),L0,L1,L2,L3,L4,L5,L6,L7,L8,L9] <;> rfl
theorem z2j{x y i:List UInt8}(a:Int)(hk:IntKind.i64.wrap ((IntKind.u64.wrap a).tmod 5)=3)(lx:x.length≤1000)(ly:y.length≤1000)(li:i.length≤1000):zl cx 15 [.d (.int .i64 a),.d (.str x),.d (.str y),.d (.str i)] []=some (.ret (mkS ([92]++x++[46,32,60]++i++[62,32,104,99,111,109,112,32,97,32,91,40]++i++[61,48,41,32,45,62,32,60]++y++[62,32]++x++[32,64,32]++y++[93,32]++x)),[]):=by
 refine zt yj (N:=5) ?_;rw [a15,hk];have L0:decide (1+x.length≤4611686018427387904)=true:=pb (by (try simp only [pj,p7,p8]); omega)
 have L1:decide (([92]++x).length+3≤4611686018427387904)=true:=pb (by (try simp only [pj,p7,p8]); omega)
 have L2:decide (([92]++x++[46,32,60]).length+i.length≤4611686018427387904)=true:=pb (by (try simp only [pj,p7,p8]); omega)
 have L3:decide (([92]++x++[46,32,60]++i).length+12≤4611686018427387904)=true:=pb (by (try simp only [pj,p7,p8]); omega)
 have L4:decide (([92]++x++[46,32,60]++i++[62,32,104,99,111,109,112,32,97,32,91,40]).length+i.length≤4611686018427387904)=true:=pb (by (try simp only [pj,p7,p8]); omega)
 have L5:decide (([92]++x++[46,32,60]++i++[62,32,104,99,111,109,112,32,97,32,91,40]++i).length+8≤4611686018427387904)=true:=pb (by (try simp only [pj,p7,p8]); omega)
 have L6:decide (([92]++x++[46,32,60]++i++[62,32,104,99,111,109,112,32,97,32,91,40]++i++[61,48,41,32,45,62,32,60]).length+y.length≤4611686018427387904)=true:=pb (by (try simp only [pj,p7,p8]); omega)
 have L7:decide (([92]++x++[46,32,60]++i++[62,32,104,99,111,109,112,32,97,32,91,40]++i++[61,48,41,32,45,62,32,60]++y).length+2≤4611686018427387904)=true:=pb (by (try simp only [pj,p7,p8]); omega)
 have L8:decide (([92]++x++[46,32,60]++i++[62,32,104,99,111,109,112,32,97,32,91,40]++i++[61,48,41,32,45,62,32,60]++y++[62,32]).length+x.length≤4611686018427387904)=true:=pb (by (try simp only [pj,p7,p8]); omega)
 have L9:decide (([92]++x++[46,32,60]++i++[62,32,104,99,111,109,112,32,97,32,91,40]++i++[61,48,41,32,45,62,32,60]++y++[62,32]++x).length+3≤4611686018427387904)=true:=pb (by (try simp only [pj,p7,p8]); omega)
 have L10:decide (([92]++x++[46,32,60]++i++[62,32,104,99,111,109,112,32,97,32,91,40]++i++[61,48,41,32,45,62,32,60]++y++[62,32]++x++[32,64,32]).length+y.length≤4611686018427387904)=true:=pb (by (try simp only [pj,p7,p8]); omega)
 have L11:decide (([92]++x++[46,32,60]++i++[62,32,104,99,111,109,112,32,97,32,91,40]++i++[61,48,41,32,45,62,32,60]++y++[62,32]++x++[32,64,32]++y).length+2≤4611686018427387904)=true:=pb (by (try simp only [pj,p7,p8]); omega)
 have L12:decide (([92]++x++[46,32,60]++i++[62,32,104,99,111,109,112,32,97,32,91,40]++i++[61,48,41,32,45,62,32,60]++y++[62,32]++x++[32,64,32]++y++[93,32]).length+x.length≤4611686018427387904)=true:=pb (by (try simp only [pj,p7,p8]); omega)
 simp only [p5,p6,pd (show ¬ ((3:Int)=0) by decide),pd (show ¬ ((3:Int)=1) by decide),pd (show ¬ ((3:Int)=2) by decide),pb (show (3:Int)=3 from rfl),L0,L1,L2,L3,L4,L5,L6,L7,L8,L9,L10,L11,L12] <;> rfl
theorem z2i{x y i:List UInt8}(a:Int)(hk:IntKind.i64.wrap ((IntKind.u64.wrap a).tmod 5)=4)(lx:x.length≤1000)(ly:y.length≤1000)(li:i.length≤1000):zl cx 15 [.d (.int .i64 a),.d (.str x),.d (.str y),.d (.str i)] []=some (.ret (mkS ([92]++x++[46,32,92]++y++[46,32,83,49,101,108,105,109,32,40,92]++x++[46,32,97,41,32]++y++[32,40,60]++i++[62,32]++y++[41,32]++x)),[]):=by
 refine zt yj (N:=5) ?_;rw [a15,hk];have L0:decide (1+x.length≤4611686018427387904)=true:=pb (by (try simp only [pj,p7,p8]); omega)
 have L1:decide (([92]++x).length+3≤4611686018427387904)=true:=pb (by (try simp only [pj,p7,p8]); omega)
 have L2:decide (([92]++x++[46,32,92]).length+y.length≤4611686018427387904)=true:=pb (by (try simp only [pj,p7,p8]); omega)
 have L3:decide (([92]++x++[46,32,92]++y).length+11≤4611686018427387904)=true:=pb (by (try simp only [pj,p7,p8]); omega)
 have L4:decide (([92]++x++[46,32,92]++y++[46,32,83,49,101,108,105,109,32,40,92]).length+x.length≤4611686018427387904)=true:=pb (by (try simp only [pj,p7,p8]); omega)
 have L5:decide (([92]++x++[46,32,92]++y++[46,32,83,49,101,108,105,109,32,40,92]++x).length+5≤4611686018427387904)=true:=pb (by (try simp only [pj,p7,p8]); omega)
 have L6:decide (([92]++x++[46,32,92]++y++[46,32,83,49,101,108,105,109,32,40,92]++x++[46,32,97,41,32]).length+y.length≤4611686018427387904)=true:=pb (by (try simp only [pj,p7,p8]); omega)
 have L7:decide (([92]++x++[46,32,92]++y++[46,32,83,49,101,108,105,109,32,40,92]++x++[46,32,97,41,32]++y).length+3≤4611686018427387904)=true:=pb (by (try simp only [pj,p7,p8]); omega)
 have L8:decide (([92]++x++[46,32,92]++y++[46,32,83,49,101,108,105,109,32,40,92]++x++[46,32,97,41,32]++y++[32,40,60]).length+i.length≤4611686018427387904)=true:=pb (by (try simp only [pj,p7,p8]); omega)
 have L9:decide (([92]++x++[46,32,92]++y++[46,32,83,49,101,108,105,109,32,40,92]++x++[46,32,97,41,32]++y++[32,40,60]++i).length+2≤4611686018427387904)=true:=pb (by (try simp only [pj,p7,p8]); omega)
 have L10:decide (([92]++x++[46,32,92]++y++[46,32,83,49,101,108,105,109,32,40,92]++x++[46,32,97,41,32]++y++[32,40,60]++i++[62,32]).length+y.length≤4611686018427387904)=true:=pb (by (try simp only [pj,p7,p8]); omega)
 have L11:decide (([92]++x++[46,32,92]++y++[46,32,83,49,101,108,105,109,32,40,92]++x++[46,32,97,41,32]++y++[32,40,60]++i++[62,32]++y).length+2≤4611686018427387904)=true:=pb (by (try simp only [pj,p7,p8]); omega)
 have L12:decide (([92]++x++[46,32,92]++y++[46,32,83,49,101,108,105,109,32,40,92]++x++[46,32,97,41,32]++y++[32,40,60]++i++[62,32]++y++[41,32]).length+x.length≤4611686018427387904)=true:=pb (by (try simp only [pj,p7,p8]); omega)
 simp only [p5,p6,pd (show ¬ ((4:Int)=0) by decide),pd (show ¬ ((4:Int)=1) by decide),pd (show ¬ ((4:Int)=2) by decide),pd (show ¬ ((4:Int)=3) by decide),L0,L1,L2,L3,L4,L5,L6,L7,L8,L9,L10,L11,L12] <;> rfl
theorem z4f:xz cx 60 16 [.d (.agg [zhm.1,zhm.2.1,zhm.2.2.1,zhm.2.2.2.1,zhm.2.2.2.2.1,zhm.2.2.2.2.2]),.d (.agg [zhm.1,zhm.2.1,zhm.2.2.1,zhm.2.2.2.1,zhm.2.2.2.2.1,zhm.2.2.2.2.2])] []=some (.ret (mkB true),[]):=by kernel_rfl
theorem z4e:xz cx 60 16 [.d (.agg [zhl.1,zhl.2.1,zhl.2.2.1,zhl.2.2.2.1,zhl.2.2.2.2.1,zhl.2.2.2.2.2]),.d (.agg [zhl.1,zhl.2.1,zhl.2.2.1,zhl.2.2.2.1,zhl.2.2.2.2.1,zhl.2.2.2.2.2])] []=some (.ret (mkB true),[]):=by kernel_rfl
theorem z4d:xz cx 60 16 [.d (.agg [zhk.1,zhk.2.1,zhk.2.2.1,zhk.2.2.2.1,zhk.2.2.2.2.1,zhk.2.2.2.2.2]),.d (.agg [zhk.1,zhk.2.1,zhk.2.2.1,zhk.2.2.2.1,zhk.2.2.2.2.1,zhk.2.2.2.2.2])] []=some (.ret (mkB true),[]):=by kernel_rfl
theorem z4c:xz cx 60 16 [.d (.agg [zhj.1,zhj.2.1,zhj.2.2.1,zhj.2.2.2.1,zhj.2.2.2.2.1,zhj.2.2.2.2.2]),.d (.agg [zhj.1,zhj.2.1,zhj.2.2.1,zhj.2.2.2.1,zhj.2.2.2.2.1,zhj.2.2.2.2.2])] []=some (.ret (mkB true),[]):=by kernel_rfl
theorem z4b:xz cx 60 16 [.d (.agg [zhi.1,zhi.2.1,zhi.2.2.1,zhi.2.2.2.1,zhi.2.2.2.2.1,zhi.2.2.2.2.2]),.d (.agg [zhi.1,zhi.2.1,zhi.2.2.1,zhi.2.2.2.1,zhi.2.2.2.2.1,zhi.2.2.2.2.2])] []=some (.ret (mkB true),[]):=by kernel_rfl
theorem z5o(a:Int):∃ T:D×D×D×D×D×D,(∀ x y i:List UInt8,Ok3 x y i→∃ s,zl cx 15 [.d (.int .i64 a),.d (.str x),.d (.str y),.d (.str i)] []=some (.ret (mkS s),[]) ∧
  zl cx 14 [.d (.str s),.d (.agg [.sl 1 [.str [97]],.sl 1 [],.sl 1 []])] []=some (.ret (zg4 (T,0,0)),[]))∧zl cx 16 [mk6 T,mk6 T] []=some (.ret (mkB true),[]):=by
 obtain ⟨k,hk,e⟩:=k5 a
 match k,hk with
 | 0,_=>exact ⟨zhm,λ x y i h=>⟨_,z2m a e h.ox.2.1 h.oy.2.1 h.oi.2.1,z4u h⟩,zdf z4f⟩
 | 1,_=>exact ⟨zhl,λ x y i h=>⟨_,z2l a e h.ox.2.1 h.oy.2.1 h.oi.2.1,z4t h⟩,zdf z4e⟩
 | 2,_=>exact ⟨zhk,λ x y i h=>⟨_,z2k a e h.ox.2.1 h.oy.2.1 h.oi.2.1,z4s h⟩,zdf z4d⟩
 | 3,_=>exact ⟨zhj,λ x y i h=>⟨_,z2j a e h.ox.2.1 h.oy.2.1 h.oi.2.1,z4r h⟩,zdf z4c⟩
 | 4,_=>exact ⟨zhi,λ x y i h=>⟨_,z2i a e h.ox.2.1 h.oy.2.1 h.oi.2.1,z4q h⟩,zdf z4b⟩
 | k+5,hk=>omega
theorem a3(p12:List UInt8→Option (Tr×Int×Int))(p13:List UInt8→Option Int)(p15:Int×List UInt8×List UInt8×List UInt8→Option (List UInt8))(p14:List UInt8×D→Option ((D×D×D×D×D×D)×Int×Int))(p16:D×D→Option Bool)(x y i:List UInt8)(a:Int):zx cx (KL3 p12 p13 p15 p14 p16) 10 3 [.d (.str x),.d (.str y),.d (.str i),.d (.int .i64 a)] []=bif decide (1000<Int.ofNat x.length) then some (Out.ret (V.d (D.bool true)),[]) else bif decide (1000<Int.ofNat y.length) then some (Out.ret (V.d (D.bool true)),[]) else bif decide (1000<Int.ofNat i.length) then some (Out.ret (V.d (D.bool true)),[]) else bif decide (x.length≤4611686018427387904) then za (p12 x) λ r=>bif !decide (r.snd.snd=0) then some (Out.ret (V.d (D.bool true)),[]) else bif !decide (r.fst.k=1) then some (Out.ret (V.d (D.bool true)),[]) else bif !decide (r.fst.2=x) then some (Out.ret (V.d (D.bool true)),[]) else bif decide (x.length≤4611686018427387904) then za (p13 x) λ r=>bif decide (0≤r) then some (Out.ret (V.d (D.bool true)),[]) else bif decide (y.length≤4611686018427387904) then za (p12 y) λ r=>bif !decide (r.snd.snd=0) then some (Out.ret (V.d (D.bool true)),[]) else bif !decide (r.fst.k=1) then some (Out.ret (V.d (D.bool true)),[]) else bif !decide (r.fst.2=y) then some (Out.ret (V.d (D.bool true)),[]) else bif decide (y.length≤4611686018427387904) then za (p13 y) λ r=>bif decide (0≤r) then some (Out.ret (V.d (D.bool true)),[]) else bif decide (i.length≤4611686018427387904) then za (p12 i) λ r=>bif !decide (r.snd.snd=0) then some (Out.ret (V.d (D.bool true)),[]) else bif !decide (r.fst.k=1) then some (Out.ret (V.d (D.bool true)),[]) else bif !decide (r.fst.2=i) then some (Out.ret (V.d (D.bool true)),[]) else bif decide (i.length≤4611686018427387904) then za (p13 i) λ r=>bif decide (0≤r) then some (Out.ret (V.d (D.bool true)),[]) else bif decide (x=y) then some (Out.ret (V.d (D.bool true)),[]) else bif decide (x=i) then some (Out.ret (V.d (D.bool true)),[]) else bif decide (y=i) then some (Out.ret (V.d (D.bool true)),[]) else bif decide (x=[97]) then some (Out.ret (V.d (D.bool true)),[]) else bif decide (y=[97]) then some (Out.ret (V.d (D.bool true)),[]) else bif decide (i=[97]) then some (Out.ret (V.d (D.bool true)),[]) else za (p15 (a,x,y,i)) λ r=>za (p14 (r,D.agg [D.sl 1 [D.str [97]],D.sl 1 [],D.sl 1 []])) λ r=>za (p15 (a,[120,49],[121,49],[105,49])) λ r_1=>za (p14 (r_1,D.agg [D.sl 1 [D.str [97]],D.sl 1 [],D.sl 1 []])) λ r_2=>bif decide (r.snd.snd=0) then bif decide (r_2.snd.snd=0) then za (p16 (D.agg [r.fst.1,r.fst.snd.1,r.fst.snd.snd.1,r.fst.snd.snd.snd.1,r.fst.snd.snd.snd.snd.1,r.fst.snd.snd.snd.snd.2],D.agg [r_2.fst.1,r_2.fst.snd.1,r_2.fst.snd.snd.1,r_2.fst.snd.snd.snd.1,r_2.fst.snd.snd.snd.snd.1,r_2.fst.snd.snd.snd.snd.2])) λ r=>some (Out.ret (V.d (D.bool r)),[]) else some (Out.ret (V.d (D.bool false)),[]) else some (Out.ret (V.d (D.bool false)),[]) else none else none else none else none else none else none:=by kernel_rfl
def zvs(q:Int×List UInt8×List UInt8×List UInt8):Option (List UInt8):=match zl cx 15 [.d (.int .i64 q.1),.d (.str q.2.1),.d (.str q.2.2.1),.d (.str q.2.2.2)] [] with
 | some (.ret (.d (.str s)),[])=>some s
 | _=>none
def zom(q:List UInt8×D):Option ((D×D×D×D×D×D)×Int×Int):=match zl cx 14 [.d (.str q.1),.d q.2] [] with
 | some (.ret (.tup [.d (.agg [a,b,c,d,e,f]),.d (.int .i64 x),.d (.int .i64 y)]),[])=>some ((a,b,c,d,e,f),x,y)
 | _=>none
def zvr(q:D×D):Option Bool:=match zl cx 16 [.d q.1,.d q.2] [] with
 | some (.ret (.d (.bool b)),[])=>some b
 | _=>none
theorem zzy{q:D×D}{b:Bool}(h:zl cx 16 [.d q.1,.d q.2] []=some (.ret (.d (.bool b)),[])):zvr q=some b:=by unfold zvr; rw [h]
theorem zto{a:List V}{q}(h:zyh a=some q):a=[.d (.int .i64 q.1),.d (.str q.2.1),.d (.str q.2.2.1),.d (.str q.2.2.2)]:=by
 unfold zyh at h; split at h <;> cases h; rfl
theorem zrz{a:List V}{q:D×D}(h:zye a=some q):a=[.d q.1,.d q.2]:=by
 unfold zye at h; split at h <;> cases h; rfl
theorem zwq : knows cx (KL3 zsj zw8 zvs zom zvr).S (zl cx) := k11 (k12 (k13 (yp (yp (yp yj λ a q b _ h hb => by
      rw [zrz h];unfold zvr at hb;split at hb
      · rename_i he; cases hb; exact he
      · cases hb) λ a q b _ h hb => by
    rw [ztp h];unfold zom at hb;split at hb
    · rename_i he; cases hb; exact he
    · cases hb) λ a q b _ h hb => by
  rw [zto h];unfold zvs at hb;split at hb
  · rename_i he; cases hb; exact he
  · cases hb)))
theorem zsq(x:List UInt8)(b:UInt8)(r:List UInt8)(e:x=b::r)(hb:yq (b.toNat:Int)=true)(hr:∀ c∈r,(yq (c.toNat:Int)||wl (c.toNat:Int))=true)(hl:x.length≤1000)(hw:znd x=false):okN x:=⟨⟨b,r,e,hb,hr⟩,hl,hw⟩
theorem z04:Ok3 [120,49] [121,49] [105,49]:=⟨zsq _ 120 [49] rfl rfl (by decide) (by decide) (by decide),zsq _ 121 [49] rfl rfl (by decide) (by decide) (by decide),zsq _ 105 [49] rfl rfl (by decide) (by decide) (by decide),by decide,by decide,by decide,by decide,by decide,by decide⟩
theorem m3(x y i:List UInt8)(a:Int):zl cx 3 [.d (.str x),.d (.str y),.d (.str i),.d (.int .i64 a)] []=some (.ret (z07 true),[]):=by
 refine zt zwq (N:=10) ?_;rw [a3];by_cases lx:x.length≤1000
 rotate_left
 ·rw [zps lx]; rfl
 rw [zpp lx,p6];by_cases ly:y.length≤1000
 rotate_left
 ·rw [zps ly]; rfl
 rw [zpp ly,p6];by_cases li:i.length≤1000
 rotate_left
 ·rw [zps li]; rfl
 rw [zpp li,p6];obtain ⟨r,hr,ht⟩:=zwz x;rw [zxr lx,p5,hr,zi];by_cases e0:r.2.2=0
 rotate_left
 ·rw [pd e0]; rfl
 rw [pb e0,Bool.not_true,p6];by_cases ek:r.1.k=1
 rotate_left
 ·rw [pd ek]; rfl
 rw [pb ek,Bool.not_true,p6];by_cases en:r.1.nm=x
 rotate_left
 ·rw [pd en]; rfl
 rw [pb en,Bool.not_true,p6,p5,show zw8 x=some (zis zfc x) from rfl,zi];by_cases et:0≤zis zfc x
 ·rw [pb et]; rfl
 have ox:okN x:=zxh lx ht e0 ek en et;rw [pd et,p6];clear hr ht e0 ek en et;clear r;obtain ⟨r,hr,ht⟩:=zwz y;rw [zxr ly,p5,hr,zi];by_cases e0:r.2.2=0
 rotate_left
 ·rw [pd e0]; rfl
 rw [pb e0,Bool.not_true,p6];by_cases ek:r.1.k=1
 rotate_left
 ·rw [pd ek]; rfl
 rw [pb ek,Bool.not_true,p6];by_cases en:r.1.nm=y
 rotate_left
 ·rw [pd en]; rfl
 rw [pb en,Bool.not_true,p6,p5,show zw8 y=some (zis zfc y) from rfl,zi];by_cases et:0≤zis zfc y
 ·rw [pb et]; rfl
 have oy:okN y:=zxh ly ht e0 ek en et;rw [pd et,p6];clear hr ht e0 ek en et;clear r;obtain ⟨r,hr,ht⟩:=zwz i;rw [zxr li,p5,hr,zi];by_cases e0:r.2.2=0
 rotate_left
 ·rw [pd e0]; rfl
 rw [pb e0,Bool.not_true,p6];by_cases ek:r.1.k=1
 rotate_left
 ·rw [pd ek]; rfl
 rw [pb ek,Bool.not_true,p6];by_cases en:r.1.nm=i
 rotate_left
 ·rw [pd en]; rfl
 rw [pb en,Bool.not_true,p6,p5,show zw8 i=some (zis zfc i) from rfl,zi];by_cases et:0≤zis zfc i
 ·rw [pb et]; rfl
 have oi:okN i:=zxh li ht e0 ek en et;rw [pd et,p6];clear hr ht e0 ek en et;clear r;by_cases nxy:x=y
 ·rw [pb nxy]; rfl
 rw [pd nxy,p6];by_cases nxi:x=i
 ·rw [pb nxi]; rfl
 rw [pd nxi,p6];by_cases nyi:y=i
 ·rw [pb nyi]; rfl
 rw [pd nyi,p6];by_cases nxa:x=[97]
 ·rw [pb nxa]; rfl
 rw [pd nxa,p6];by_cases nya:y=[97]
 ·rw [pb nya]; rfl
 rw [pd nya,p6];by_cases nia:i=[97]
 ·rw [pb nia]; rfl
 rw [pd nia,p6];have ho:Ok3 x y i:=⟨ox,oy,oi,nxy,nxi,nyi,nxa,nya,nia⟩;obtain ⟨T,hT,h16⟩:=z5o a;obtain ⟨s,hs,h14⟩:=hT x y i ho;obtain ⟨s',hs',h14'⟩:=hT _ _ _ z04;have f1:zvs (a,x,y,i)=some s:=by unfold zvs; rw [hs]; rfl
 have f2:zvs (a,[120,49],[121,49],[105,49])=some s':=by unfold zvs; rw [hs']; rfl
 have f3:zom (s,D.agg [D.sl 1 [D.str [97]],D.sl 1 [],D.sl 1 []])=some (T,0,0):=by unfold zom; rw [h14]; rfl
 have f4:zom (s',D.agg [D.sl 1 [D.str [97]],D.sl 1 [],D.sl 1 []])=some (T,0,0):=by unfold zom; rw [h14']; rfl
 rw [f1,zi,f3,zi,f2,zi,f4,zi];show za (zvr (.agg [T.1,T.2.1,T.2.2.1,T.2.2.2.1,T.2.2.2.2.1,T.2.2.2.2.2],.agg [T.1,T.2.1,T.2.2.1,T.2.2.2.1,T.2.2.2.2.1,T.2.2.2.2.2])) _=_;have f5:zvr (.agg [T.1,T.2.1,T.2.2.1,T.2.2.2.1,T.2.2.2.2.1,T.2.2.2.2.2],.agg [T.1,T.2.1,T.2.2.1,T.2.2.2.1,T.2.2.2.2.1,T.2.2.2.2.2])=some true:=by
  exact zzy h16
 rw [f5];rfl
theorem pure_scopeNames(x y i:List UInt8)(a:Int):zl cx 3 [.d (.str x),.d (.str y),.d (.str i),.d (.int .i64 a)] []=some (.ret (.d (.bool true)),[]):=m3 x y i a
open Go.Proofs.YtmolcgfhgdhgoaaGreatDoor in
theorem glob_says:zrk cx.P cx.glob Rows.sliceUsesRow.laid:=by
 intro g x h
 match g,h with
 | 0, h => cases h; exact ⟨"hypercube/lex.signs", Rows.laid_hypercube_lex_signs, by simp [Rows.sliceUsesRow], by kernel_rfl, by kernel_rfl⟩
 | 1, h => cases h; exact ⟨"unicode/utf8.first", Rows.laid_unicode_utf8_first, by simp [Rows.sliceUsesRow], by kernel_rfl, by kernel_rfl⟩
 | 2, h => cases h; exact ⟨"unicode/utf8.acceptRanges", Rows.laid_unicode_utf8_acceptRanges, by simp [Rows.sliceUsesRow], by kernel_rfl, by kernel_rfl⟩
 | 3,h=>cases h
 | 4, h => cases h; exact ⟨"math/bits.deBruijn32tab", Rows.laid_math_bits_deBruijn32tab, by simp [Rows.sliceUsesRow], by kernel_rfl, by kernel_rfl⟩
 | n+5,h=>cases h
theorem no_routines:y4 cx.P:=by
 have h : (cx.P.funcs.all λ fn => fn.name != "runtime.NumGoroutine") = true := by kernel_rfl
 intro f fn hf;have:=Array.all_eq_true_iff_forall_mem.1 h fn (Array.mem_of_getElem? hf);simpa using this
theorem mixed:cx.P.follows .mixedOrders=true:=by kernel_rfl
def lits:D→Value
 | .int k n=>.int k n
 | .str s=>.string (y8 s)
 | _=>undef
def laidWorld(os:Os):World:=
 { World.holding Tryz.prog os ⟨#[],#[],[]⟩ with heap:=(((((World.holding Tryz.prog os ⟨#[],#[],[]⟩).heap.modify 0 fun
   | .cells _ t frozen=>.cells (wb.cells.map lits).toArray t frozen
   | o=>o).modify 1 fun
   | .cells _ t frozen=>.cells ((unW Go.Pinned.utf8First).map lits).toArray t frozen
   | o=>o).modify 2 fun
   | .cells _ t frozen=>.cells (acc.cells.map lits).toArray t frozen
   | o=>o).modify 4 fun
   | .cells _ t frozen=>.cells ((unW (Go.Proofs.YtmolcgfhgdhgoaaGreatDoor.Rows.laid_math_bits_deBruijn32tab (H:=Unit))).map lits).toArray t frozen
   | o=>o) }
theorem str_rd{w:World}{own:Own}(s:ByteArray):RD w own (.string s) (.str s.data.toList):=by
 have h:=RD.str (w:=w) (own:=own) s.data.toList;have e:y8 s.data.toList=s:=by simp [y8]
 rwa [e] at h
theorem hgrow:∀ g e,cx.grow g=some e→g=165∧e=9:=λ g e h=>by
 have h:grow g=some e:=h;unfold grow at h;cases hg:Nat.beq g 165 <;> rw [hg] at h
 ·cases h
 ·cases h;exact ⟨po hg,rfl⟩
end Go.Vai
end

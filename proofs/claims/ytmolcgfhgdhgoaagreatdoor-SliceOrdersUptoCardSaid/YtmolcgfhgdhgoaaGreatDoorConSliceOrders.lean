/-
  SliceOrders: the contract, out of the pure question.
-/
import Derived.Test.YtmolcgfhgdhgoaaGreatDoorSliPart6
import Derived.WalkKit
import Derived.ProofKit
import Derived.OpenShut
import Derived.Lib.LaidTab
import Derived.ChangeMaps5
import Derived.LaidMore
import Derived.Carry
set_option linter.unusedSimpArgs false
set_option linter.unusedVariables false
namespace Go.Proofs.YtmolcgfhgdhgoaaGreatDoor.sliceOrders
open Go Go.ChangeMaps Go.ChangeShapes Go.WideShapes Go.ChangeAt Go.RowKit Go.Vai

theorem own : ownKnob Tryz.prog.godebug = none := by kernel_rfl
theorem laidOut : laidOutB Tryz.prog = true := by kernel_rfl

set_option maxRecDepth 100000 in
theorem contract (H : Type) (enc : TypeId × Value → H) (W : World) (base : Nat) (args : Array Value) (ds gs : List (DataW H)) (before : List MemPlace)
    (hval : ∀ (j : Nat) t v, Tryz.f10.params[j]? = some t → args[j]? = some v → Value.okWide Tryz.prog W .any base t v)
    (hW : DataW.Whole enc Tryz.prog Tryz.f10.params.toList Rows.sliceOrdersSpec.vars false W args.toList ds gs before) (hk : Rows.uptoSmall H (ds ++ gs) = true) (hL : laidMetH Tryz.prog Rows.sliceOrdersRow.laid W) :
    Calls Tryz.prog 10 args W fun e W' => ∃ v, e = .returned v ∧ Rows.sliceOrdersSpec.post enc Tryz.prog Tryz.f10 false true false false W args v W' := by
  have hW' := hW
  obtain ⟨p, q, hA0, hV, rfl, hfz, hnd⟩ := hW
  have hA : DataW.TrodAll enc Tryz.prog W 0 (fun _ => true) true Tryz.f10.params.toList args.toList ds p := hA0
  rw [Tryz.params10] at hA hval
  obtain ⟨v0, v1, d0, d1, p0, p1, rfl, rfl, rfl, h0, h1⟩ := trodAll_two hA
  obtain ⟨rfl, rfl⟩ := trodVars_none hV
  have hbulk := of_decide_eq_true hk
  simp only [List.append_nil, Rows.uptoBulkAll, List.cons_append, List.nil_append] at hbulk
  obtain ⟨a0, len0, cap0, rfl⟩ := okWide_slice Tryz.underlying24 (hval 0 24 v0 rfl rfl)
  obtain ⟨m0, hm0⟩ := id h0
  obtain ⟨l0, hl10, hl20⟩ := trod_trees (fun m' _ => trod_tree m') hm0
  have hr0 := (trod_rd m0 m0 24 _ _ _ hm0 hl10).1
  have hb0 : Sp.bulks l0 + 1 ≤ Rows.uptoBulk d0 := hl20
  have hlen0 := bulks_len l0
  obtain ⟨a1, len1, cap1, rfl⟩ := okWide_slice Tryz.underlying47 (hval 1 47 v1 rfl rfl)
  obtain ⟨m1, hm1⟩ := id h1
  obtain ⟨l1, hl11, hl21⟩ := trod_ints hm1
  have hr1 := (trod_rd m1 m1 47 _ _ _ hm1 hl11).1
  have hb1 : l1.length ≤ Rows.uptoBulk d1 := hl21
  clear hA0
  have hlt : ∀ x ∈ p0 ++ p1, x.block < W.heap.size := fun x hx => hW'.lt x (by simpa using hx)
  simp only [List.append_nil] at hW'
  obtain ⟨n, hn⟩ := lim_ex (Go.Vai.pure_sliceOrders l0 (decide_eq_true (by omega)) (oks_bulk l0 (by omega)) l1 (decide_eq_true (by omega)))
  have hi : Inv cx W [] mu0 := inv0 (laid := Rows.sliceUsesRow.laid) (by kernel_rfl) glob_says hL
  refine (law_callsN (cx := cx) (f := 10) (n := n) (ds := [.sl 5 (T.ds l0), .sl 1 (l1.map (D.int .i64))]) (nat_ok rfl hgrow) no_routines mixed hi (hr0.append hr1) hn).mono fun e W' ⟨v, he, hv, hkept⟩ => ?_
  subst he
  cases hv
  have hz0 : DataW.Trod enc Tryz.prog W' 0 (fun b => decide (b < W.heap.size)) true 24 _ d0 p0 := WideElems.Trod_stays laidOut (by kernel_rfl) (of_decide_eq_true (by kernel_rfl)) h0 (fun x hx => same_kept hkept (hlt x (by simp [hx]))) (fun x hx => by simpa using hlt x (by simp [hx]))
  have hz1 : DataW.Trod enc Tryz.prog W' 0 (fun b => decide (b < W.heap.size)) true 47 _ d1 p1 := WideElems.Trod_stays laidOut (by kernel_rfl) (of_decide_eq_true (by kernel_rfl)) h1 (fun x hx => same_kept hkept (hlt x (by simp [hx]))) (fun x hx => by simpa using hlt x (by simp [hx]))
  exact ⟨_, rfl, _, [], _, [], p0 ++ p1, [], hW', trodAll_mk1 (shut_bool Tryz.underlying4 _), trodAll_mk2 hz0 hz1, rfl, World.keptBut_mono (fun _ h => h.elim) (kept_but hkept), fun h => by cases h⟩

end Go.Proofs.YtmolcgfhgdhgoaaGreatDoor.sliceOrders

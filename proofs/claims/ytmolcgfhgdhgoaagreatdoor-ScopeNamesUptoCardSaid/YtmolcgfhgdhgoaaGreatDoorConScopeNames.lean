/-
  ScopeNames: the contract, out of the pure question.
-/
import Derived.Test.YtmolcgfhgdhgoaaGreatDoorSliPart3
import Derived.WalkKit
import Derived.ProofKit
import Derived.OpenShut
import Derived.Lib.LaidTab
import Derived.ChangeMaps5
import Derived.LaidMore
import Derived.Carry
set_option linter.unusedSimpArgs false
set_option linter.unusedVariables false
namespace Go.Proofs.YtmolcgfhgdhgoaaGreatDoor.scopeNames
open Go Go.ChangeMaps Go.ChangeShapes Go.WideShapes Go.ChangeAt Go.RowKit Go.Vai

theorem own : ownKnob Tryz.prog.godebug = none := by kernel_rfl
theorem laidOut : laidOutB Tryz.prog = true := by kernel_rfl

set_option maxRecDepth 100000 in
theorem contract (H : Type) (enc : TypeId × Value → H) (W : World) (base : Nat) (args : Array Value) (ds gs : List (DataW H)) (before : List MemPlace)
    (hval : ∀ (j : Nat) t v, Tryz.f3.params[j]? = some t → args[j]? = some v → Value.okWide Tryz.prog W .any base t v)
    (hW : DataW.Whole enc Tryz.prog Tryz.f3.params.toList Rows.scopeNamesSpec.vars false W args.toList ds gs before) (hk : Rows.uptoSmall H (ds ++ gs) = true) (hL : laidMetH Tryz.prog Rows.scopeNamesRow.laid W) :
    Calls Tryz.prog 3 args W fun e W' => ∃ v, e = .returned v ∧ Rows.scopeNamesSpec.post enc Tryz.prog Tryz.f3 false true false false W args v W' := by
  have hW' := hW
  obtain ⟨p, q, hA0, hV, rfl, hfz, hnd⟩ := hW
  have hA : DataW.TrodAll enc Tryz.prog W 0 (fun _ => true) true Tryz.f3.params.toList args.toList ds p := hA0
  rw [Tryz.params3] at hA hval
  obtain ⟨v0, v1, v2, v3, d0, d1, d2, d3, p0, p1, p2, p3, rfl, rfl, rfl, h0, h1, h2, h3⟩ := trodAll_four hA
  obtain ⟨rfl, rfl⟩ := trodVars_none hV
  have hbulk := of_decide_eq_true hk
  simp only [List.append_nil, Rows.uptoBulkAll, List.cons_append, List.nil_append] at hbulk
  obtain ⟨c0, rfl, rfl, rfl, wc0⟩ := open_string Tryz.underlying9 (hval 0 9 v0 rfl rfl) h0
  have hr0 := RDs.one (str_rd (w := W) (own := noOwn) c0)
  obtain ⟨c1, rfl, rfl, rfl, wc1⟩ := open_string Tryz.underlying9 (hval 1 9 v1 rfl rfl) h1
  have hr1 := RDs.one (str_rd (w := W) (own := noOwn) c1)
  obtain ⟨c2, rfl, rfl, rfl, wc2⟩ := open_string Tryz.underlying9 (hval 2 9 v2 rfl rfl) h2
  have hr2 := RDs.one (str_rd (w := W) (own := noOwn) c2)
  obtain ⟨n3, rfl, rfl, rfl, wc3⟩ := open_int Tryz.underlying3 (hval 3 3 v3 rfl rfl) h3
  have hr3 : RDs W noOwn [.int .i64 n3] [.int .i64 n3] := RDs.one (.int _ _)
  clear hA0
  have hlt : ∀ x ∈ ([] : List MemPlace), x.block < W.heap.size := fun x hx => hW'.lt x (by cases hx)
  simp only [List.append_nil] at hW'
  obtain ⟨n, hn⟩ := lim_ex (Go.Vai.pure_scopeNames c0.data.toList c1.data.toList c2.data.toList n3)
  have hi : Inv cx W [] mu0 := inv0 (laid := Rows.sliceUsesRow.laid) (by kernel_rfl) glob_says hL
  refine (law_callsN (cx := cx) (f := 3) (n := n) (ds := [.str c0.data.toList, .str c1.data.toList, .str c2.data.toList, .int .i64 n3]) (nat_ok rfl hgrow rfl) no_routines mixed hi (((hr0.append hr1).append hr2).append hr3) hn).mono fun e W' ⟨v, he, hv, hkept⟩ => ?_
  subst he
  cases hv
  exact ⟨_, rfl, _, [], _, [], ([] : List MemPlace), [], hW', trodAll_mk1 (shut_bool Tryz.underlying4 _), trodAll_mk4 (shut_string Tryz.underlying9 wc0) (shut_string Tryz.underlying9 wc1) (shut_string Tryz.underlying9 wc2) (shut_int Tryz.underlying3 wc3), rfl, World.keptBut_mono (fun _ h => h.elim) (kept_but hkept), fun h => by cases h⟩

end Go.Proofs.YtmolcgfhgdhgoaaGreatDoor.scopeNames

/-
  ScopeArgs: the contract, out of the pure question.
-/
import Derived.Test.YtmolcgfhgdhgoaaGreatDoorSliPart1
import Derived.WalkKit
import Derived.ProofKit
import Derived.OpenShut
import Derived.Lib.LaidTab
import Derived.ChangeMaps5
import Derived.LaidMore
import Derived.Carry
set_option linter.unusedSimpArgs false
set_option linter.unusedVariables false
namespace Go.Proofs.YtmolcgfhgdhgoaaGreatDoor.scopeArgs
open Go Go.ChangeMaps Go.ChangeShapes Go.WideShapes Go.ChangeAt Go.RowKit Go.Vai

theorem own : ownKnob Tryz.prog.godebug = none := by kernel_rfl
theorem laidOut : laidOutB Tryz.prog = true := by kernel_rfl

set_option maxRecDepth 100000 in
theorem contract (H : Type) (enc : TypeId × Value → H) (W : World) (base : Nat) (args : Array Value) (ds gs : List (DataW H)) (before : List MemPlace)
    (hval : ∀ (j : Nat) t v, Tryz.f5.params[j]? = some t → args[j]? = some v → Value.okWide Tryz.prog W .any base t v)
    (hW : DataW.Whole enc Tryz.prog Tryz.f5.params.toList Rows.scopeArgsSpec.vars false W args.toList ds gs before) (hk : Rows.uptoSmall H (ds ++ gs) = true) (hL : laidMetH Tryz.prog Rows.scopeArgsRow.laid W) :
    Calls Tryz.prog 5 args W fun e W' => ∃ v, e = .returned v ∧ Rows.scopeArgsSpec.post enc Tryz.prog Tryz.f5 false true false false W args v W' := by
  have hW' := hW
  obtain ⟨p0, q, hA0, hV, rfl, hfz, hnd⟩ := hW
  have hA : DataW.TrodAll enc Tryz.prog W 0 (fun _ => true) true Tryz.f5.params.toList args.toList ds p0 := hA0
  rw [Tryz.params5] at hA hval
  obtain ⟨v0, d0, rfl, rfl, h0⟩ := trodAll_one hA
  obtain ⟨rfl, rfl⟩ := trodVars_none hV
  have hbulk := of_decide_eq_true hk
  simp only [List.append_nil, Rows.uptoBulkAll, List.cons_append, List.nil_append] at hbulk
  obtain ⟨n0, rfl, rfl, rfl, wc0⟩ := open_int Tryz.underlying3 (hval 0 3 v0 rfl rfl) h0
  have hr0 : RDs W noOwn [.int .i64 n0] [.int .i64 n0] := RDs.one (.int _ _)
  clear hA0
  have hlt : ∀ x ∈ ([] : List MemPlace), x.block < W.heap.size := fun x hx => hW'.lt x (by cases hx)
  simp only [List.append_nil] at hW'
  obtain ⟨n, hn⟩ := lim_ex (Go.Vai.pure_scopeArgs n0)
  have hi : Inv cx W [] mu0 := inv0 (laid := Rows.sliceUsesRow.laid) (by kernel_rfl) glob_says hL
  refine (law_callsN (cx := cx) (f := 5) (n := n) (ds := [.int .i64 n0]) (nat_ok rfl hgrow rfl) no_routines mixed hi (hr0) hn).mono fun e W' ⟨v, he, hv, hkept⟩ => ?_
  subst he
  cases hv
  exact ⟨_, rfl, _, [], _, [], ([] : List MemPlace), [], hW', trodAll_mk1 (shut_bool Tryz.underlying4 _), trodAll_mk1 (shut_int Tryz.underlying3 wc0), rfl, World.keptBut_mono (fun _ h => h.elim) (kept_but hkept), fun h => by cases h⟩

end Go.Proofs.YtmolcgfhgdhgoaaGreatDoor.scopeArgs

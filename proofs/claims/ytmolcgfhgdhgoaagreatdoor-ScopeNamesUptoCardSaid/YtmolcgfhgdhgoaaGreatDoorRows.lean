/-
  NARROWER THAN 'FOR EVERY INPUT', by the rows' own cells (each row's printed sentence says how): ScopeNames: laid · ScopeInner: laid · ScopeArgs: laid · SliceNeeds: loops, laid · SliceCloses: loops, laid · SliceStands: loops, laid · SliceUses: loops, laid · SliceOrders: loops, laid.
  DERIVED. THE GIVEN ROWS OF THIS SEAT. 8 by the template 'for every input the law returns true; each argument reads behind the call as it read before'; 0 by the template 'total and deterministic' (their statements: YtmolcgfhgdhgoaaGreatDoorTotals.lean).
  GIVEN WITH THE SEED: the statements are not yours to turn. If you find one false, say at which input.
  Laid BY PROGRAM, IN A SANDBOX (cutbox-rows.mjs): the forced cells as the released guide's own fill.sh prints them over the translation 255e9aff5c049c23… (all of the seat's roots in one cut). By AI agents, Wed Nov 11 2026. No macro, syntax, notation, axiom, sorry.
-/
import Derived.Test.YtmolcgfhgdhgoaaGreatDoorChecked
import GoSem.PinnedTables
import GoSem.Claim
import GoSem.ClaimJoined
import GoSem.ClaimMapViews
import Derived.JoinedTies
import Derived.KernelRfl
namespace Go.Proofs.YtmolcgfhgdhgoaaGreatDoor
/- THE CELL 'sum', in the pinned program and in every row, IS THE sha256 OF THE DUMP (.gsa) THAT YtmolcgfhgdhgoaaGreatDoorProg.lean LOADS. Nothing in Lean hashes anything: it is a label: what it is worth is what the hold of that sum in a sandbox is worth. -/
noncomputable def Tryz.pinned : Pinned := { name := "ytmolcgfhgdhgoaagreatdoor", sum := "255e9aff5c049c23ffb9299ec7795c5cc6d11461d2ed1c714ffa9e7336af7f3c", checked := Tryz.checked }
namespace Rows
def none {H : Type} : Left H := { results := [], args := [] }

/- WHAT THE LISTED PACKAGE-LEVEL VARIABLES READ AS WHEN THE CALL BEGINS. Each datum BY PROGRAM (the guide's laid-datum.mjs) off the statement by which the dump's own 'gosem.cut.vars' lays the variable. In a bare row this is a premise. The card (YtmolcgfhgdhgoaaGreatDoorCards.lean) ties it to the program's text. -/
def laid_math_bits_deBruijn32tab {H : Type} : DataW H := .agg [.lit (.int .u8 0), .lit (.int .u8 1), .lit (.int .u8 28), .lit (.int .u8 2), .lit (.int .u8 29), .lit (.int .u8 14), .lit (.int .u8 24), .lit (.int .u8 3), .lit (.int .u8 30), .lit (.int .u8 22), .lit (.int .u8 20), .lit (.int .u8 15), .lit (.int .u8 25), .lit (.int .u8 17), .lit (.int .u8 4), .lit (.int .u8 8), .lit (.int .u8 31), .lit (.int .u8 27), .lit (.int .u8 13), .lit (.int .u8 23), .lit (.int .u8 21), .lit (.int .u8 19), .lit (.int .u8 16), .lit (.int .u8 7), .lit (.int .u8 26), .lit (.int .u8 12), .lit (.int .u8 18), .lit (.int .u8 6), .lit (.int .u8 11), .lit (.int .u8 5), .lit (.int .u8 10), .lit (.int .u8 9)]
def laid_unicode_utf8_acceptRanges {H : Type} : DataW H := .agg [.agg [.lit (.int .u8 128), .lit (.int .u8 191)], .agg [.lit (.int .u8 160), .lit (.int .u8 191)], .agg [.lit (.int .u8 128), .lit (.int .u8 159)], .agg [.lit (.int .u8 144), .lit (.int .u8 191)], .agg [.lit (.int .u8 128), .lit (.int .u8 143)], .agg [.lit (.int .u8 0), .lit (.int .u8 0)], .agg [.lit (.int .u8 0), .lit (.int .u8 0)], .agg [.lit (.int .u8 0), .lit (.int .u8 0)], .agg [.lit (.int .u8 0), .lit (.int .u8 0)], .agg [.lit (.int .u8 0), .lit (.int .u8 0)], .agg [.lit (.int .u8 0), .lit (.int .u8 0)], .agg [.lit (.int .u8 0), .lit (.int .u8 0)], .agg [.lit (.int .u8 0), .lit (.int .u8 0)], .agg [.lit (.int .u8 0), .lit (.int .u8 0)], .agg [.lit (.int .u8 0), .lit (.int .u8 0)], .agg [.lit (.int .u8 0), .lit (.int .u8 0)]]
def laid_hypercube_lex_signs {H : Type} : DataW H := .agg [.lit (.string [45, 62]), .lit (.string [47, 92]), .lit (.string [92, 47]), .lit (.string [40]), .lit (.string [41]), .lit (.string [91]), .lit (.string [93]), .lit (.string [44]), .lit (.string [46]), .lit (.string [58]), .lit (.string [59]), .lit (.string [61]), .lit (.string [92]), .lit (.string [60]), .lit (.string [62]), .lit (.string [64]), .lit (.string [126]), .lit (.string [42]), .lit (.string [48]), .lit (.string [49])]
/-- One of Go's own tables, pinned by name: the form's constant. -/
def laid_unicode_utf8_first : DataW Unit := Go.Pinned.utf8First

/-- 'hypercubelaw09.ScopeNames': WHATEVER THE INPUT: true; the input reads as it did. -/
def scopeNamesSpec : ChangeSpec := { name := "scopeNames", fn := fun _ => fun
  | [d1, d2, d3, d4] => { results := [.lit (.bool true)], args := [d1, d2, d3, d4] }
  | _ => none }
def scopeNamesRow : OpenClaim := { program := "ytmolcgfhgdhgoaagreatdoor", sum := "255e9aff5c049c23ffb9299ec7795c5cc6d11461d2ed1c714ffa9e7336af7f3c", func := "hypercube/hypercubelaw09.ScopeNames", spec := "scopeNames", unfollowed := true, recurses := true, named := ["unicode/utf8.first", "unicode/utf8.acceptRanges", "hypercube/lex.signs", "math/bits.deBruijn32tab"], plainKeys := false, apart := false, laid := [("math/bits.deBruijn32tab", laid_math_bits_deBruijn32tab), ("unicode/utf8.acceptRanges", laid_unicode_utf8_acceptRanges), ("hypercube/lex.signs", laid_hypercube_lex_signs), ("unicode/utf8.first", laid_unicode_utf8_first)] }
def ScopeNamesSaid : Prop := scopeNamesRow.holds Tryz.pinned (OpenSpec.ofChange scopeNamesSpec)

/-- ITS FALSE NEIGHBOUR: 'it returns false'. Refute it at one input. -/
def scopeNamesWrong : ChangeSpec := { name := "scopeNames", fn := fun _ => fun
  | [d1, d2, d3, d4] => { results := [.lit (.bool false)], args := [d1, d2, d3, d4] }
  | _ => none }
def ScopeNamesWrongFalsely : Prop := scopeNamesRow.holds Tryz.pinned (OpenSpec.ofChange scopeNamesWrong)

/-- 'hypercubelaw09.ScopeInner': WHATEVER THE INPUT: true; the input reads as it did. -/
def scopeInnerSpec : ChangeSpec := { name := "scopeInner", fn := fun _ => fun
  | [d] => { results := [.lit (.bool true)], args := [d] }
  | _ => none }
def scopeInnerRow : OpenClaim := { program := "ytmolcgfhgdhgoaagreatdoor", sum := "255e9aff5c049c23ffb9299ec7795c5cc6d11461d2ed1c714ffa9e7336af7f3c", func := "hypercube/hypercubelaw09.ScopeInner", spec := "scopeInner", unfollowed := true, recurses := true, named := ["unicode/utf8.first", "unicode/utf8.acceptRanges", "hypercube/lex.signs", "math/bits.deBruijn32tab"], plainKeys := false, apart := false, laid := [("math/bits.deBruijn32tab", laid_math_bits_deBruijn32tab), ("unicode/utf8.acceptRanges", laid_unicode_utf8_acceptRanges), ("hypercube/lex.signs", laid_hypercube_lex_signs), ("unicode/utf8.first", laid_unicode_utf8_first)] }
def ScopeInnerSaid : Prop := scopeInnerRow.holds Tryz.pinned (OpenSpec.ofChange scopeInnerSpec)

/-- ITS FALSE NEIGHBOUR: 'it returns false'. Refute it at one input. -/
def scopeInnerWrong : ChangeSpec := { name := "scopeInner", fn := fun _ => fun
  | [d] => { results := [.lit (.bool false)], args := [d] }
  | _ => none }
def ScopeInnerWrongFalsely : Prop := scopeInnerRow.holds Tryz.pinned (OpenSpec.ofChange scopeInnerWrong)

/-- 'hypercubelaw09.ScopeArgs': WHATEVER THE INPUT: true; the input reads as it did. -/
def scopeArgsSpec : ChangeSpec := { name := "scopeArgs", fn := fun _ => fun
  | [d] => { results := [.lit (.bool true)], args := [d] }
  | _ => none }
def scopeArgsRow : OpenClaim := { program := "ytmolcgfhgdhgoaagreatdoor", sum := "255e9aff5c049c23ffb9299ec7795c5cc6d11461d2ed1c714ffa9e7336af7f3c", func := "hypercube/hypercubelaw09.ScopeArgs", spec := "scopeArgs", unfollowed := true, recurses := true, named := ["unicode/utf8.first", "unicode/utf8.acceptRanges", "hypercube/lex.signs", "math/bits.deBruijn32tab"], plainKeys := false, apart := false, laid := [("math/bits.deBruijn32tab", laid_math_bits_deBruijn32tab), ("unicode/utf8.acceptRanges", laid_unicode_utf8_acceptRanges), ("hypercube/lex.signs", laid_hypercube_lex_signs), ("unicode/utf8.first", laid_unicode_utf8_first)] }
def ScopeArgsSaid : Prop := scopeArgsRow.holds Tryz.pinned (OpenSpec.ofChange scopeArgsSpec)

/-- ITS FALSE NEIGHBOUR: 'it returns false'. Refute it at one input. -/
def scopeArgsWrong : ChangeSpec := { name := "scopeArgs", fn := fun _ => fun
  | [d] => { results := [.lit (.bool false)], args := [d] }
  | _ => none }
def ScopeArgsWrongFalsely : Prop := scopeArgsRow.holds Tryz.pinned (OpenSpec.ofChange scopeArgsWrong)

/-- 'hypercubelaw35.SliceNeeds': WHATEVER THE INPUT: true; the input reads as it did. -/
def sliceNeedsSpec : ChangeSpec := { name := "sliceNeeds", fn := fun _ => fun
  | [d1, d2] => { results := [.lit (.bool true)], args := [d1, d2] }
  | _ => none }
def sliceNeedsRow : OpenClaim := { program := "ytmolcgfhgdhgoaagreatdoor", sum := "255e9aff5c049c23ffb9299ec7795c5cc6d11461d2ed1c714ffa9e7336af7f3c", func := "hypercube/hypercubelaw35.SliceNeeds", spec := "sliceNeeds", inPlace := ["internal/abi.NoEscape", "internal/bytealg.MakeNoZero"], unfollowed := true, recurses := true, named := ["unicode/utf8.first", "unicode/utf8.acceptRanges", "hypercube/lex.signs", "math/bits.deBruijn32tab"], loops := true, plainKeys := false, apart := false, laid := [("math/bits.deBruijn32tab", laid_math_bits_deBruijn32tab), ("unicode/utf8.acceptRanges", laid_unicode_utf8_acceptRanges), ("hypercube/lex.signs", laid_hypercube_lex_signs), ("unicode/utf8.first", laid_unicode_utf8_first)] }
def SliceNeedsSaid : Prop := sliceNeedsRow.holds Tryz.pinned (OpenSpec.ofChange sliceNeedsSpec)

/-- ITS FALSE NEIGHBOUR: 'it returns false'. Refute it at one input. -/
def sliceNeedsWrong : ChangeSpec := { name := "sliceNeeds", fn := fun _ => fun
  | [d1, d2] => { results := [.lit (.bool false)], args := [d1, d2] }
  | _ => none }
def SliceNeedsWrongFalsely : Prop := sliceNeedsRow.holds Tryz.pinned (OpenSpec.ofChange sliceNeedsWrong)

/-- 'hypercubelaw35.SliceCloses': WHATEVER THE INPUT: true; the input reads as it did. -/
def sliceClosesSpec : ChangeSpec := { name := "sliceCloses", fn := fun _ => fun
  | [d1, d2] => { results := [.lit (.bool true)], args := [d1, d2] }
  | _ => none }
def sliceClosesRow : OpenClaim := { program := "ytmolcgfhgdhgoaagreatdoor", sum := "255e9aff5c049c23ffb9299ec7795c5cc6d11461d2ed1c714ffa9e7336af7f3c", func := "hypercube/hypercubelaw35.SliceCloses", spec := "sliceCloses", inPlace := ["internal/abi.NoEscape", "internal/bytealg.MakeNoZero"], unfollowed := true, recurses := true, named := ["unicode/utf8.first", "unicode/utf8.acceptRanges", "hypercube/lex.signs", "math/bits.deBruijn32tab"], loops := true, plainKeys := false, apart := false, laid := [("math/bits.deBruijn32tab", laid_math_bits_deBruijn32tab), ("unicode/utf8.acceptRanges", laid_unicode_utf8_acceptRanges), ("hypercube/lex.signs", laid_hypercube_lex_signs), ("unicode/utf8.first", laid_unicode_utf8_first)] }
def SliceClosesSaid : Prop := sliceClosesRow.holds Tryz.pinned (OpenSpec.ofChange sliceClosesSpec)

/-- ITS FALSE NEIGHBOUR: 'it returns false'. Refute it at one input. -/
def sliceClosesWrong : ChangeSpec := { name := "sliceCloses", fn := fun _ => fun
  | [d1, d2] => { results := [.lit (.bool false)], args := [d1, d2] }
  | _ => none }
def SliceClosesWrongFalsely : Prop := sliceClosesRow.holds Tryz.pinned (OpenSpec.ofChange sliceClosesWrong)

/-- 'hypercubelaw35.SliceStands': WHATEVER THE INPUT: true; the input reads as it did. -/
def sliceStandsSpec : ChangeSpec := { name := "sliceStands", fn := fun _ => fun
  | [d] => { results := [.lit (.bool true)], args := [d] }
  | _ => none }
def sliceStandsRow : OpenClaim := { program := "ytmolcgfhgdhgoaagreatdoor", sum := "255e9aff5c049c23ffb9299ec7795c5cc6d11461d2ed1c714ffa9e7336af7f3c", func := "hypercube/hypercubelaw35.SliceStands", spec := "sliceStands", inPlace := ["internal/abi.NoEscape", "internal/bytealg.MakeNoZero"], unfollowed := true, recurses := true, named := ["unicode/utf8.first", "unicode/utf8.acceptRanges", "hypercube/lex.signs", "math/bits.deBruijn32tab"], loops := true, plainKeys := false, apart := false, laid := [("math/bits.deBruijn32tab", laid_math_bits_deBruijn32tab), ("unicode/utf8.acceptRanges", laid_unicode_utf8_acceptRanges), ("hypercube/lex.signs", laid_hypercube_lex_signs), ("unicode/utf8.first", laid_unicode_utf8_first)] }
def SliceStandsSaid : Prop := sliceStandsRow.holds Tryz.pinned (OpenSpec.ofChange sliceStandsSpec)

/-- ITS FALSE NEIGHBOUR: 'it returns false'. Refute it at one input. -/
def sliceStandsWrong : ChangeSpec := { name := "sliceStands", fn := fun _ => fun
  | [d] => { results := [.lit (.bool false)], args := [d] }
  | _ => none }
def SliceStandsWrongFalsely : Prop := sliceStandsRow.holds Tryz.pinned (OpenSpec.ofChange sliceStandsWrong)

/-- 'hypercubelaw35.SliceUses': WHATEVER THE INPUT: true; the input reads as it did. -/
def sliceUsesSpec : ChangeSpec := { name := "sliceUses", fn := fun _ => fun
  | [d1, d2] => { results := [.lit (.bool true)], args := [d1, d2] }
  | _ => none }
def sliceUsesRow : OpenClaim := { program := "ytmolcgfhgdhgoaagreatdoor", sum := "255e9aff5c049c23ffb9299ec7795c5cc6d11461d2ed1c714ffa9e7336af7f3c", func := "hypercube/hypercubelaw35.SliceUses", spec := "sliceUses", inPlace := ["internal/abi.NoEscape", "internal/bytealg.MakeNoZero"], unfollowed := true, recurses := true, named := ["unicode/utf8.first", "unicode/utf8.acceptRanges", "hypercube/lex.signs", "math/bits.deBruijn32tab"], loops := true, plainKeys := false, apart := false, laid := [("math/bits.deBruijn32tab", laid_math_bits_deBruijn32tab), ("unicode/utf8.acceptRanges", laid_unicode_utf8_acceptRanges), ("hypercube/lex.signs", laid_hypercube_lex_signs), ("unicode/utf8.first", laid_unicode_utf8_first)] }
def SliceUsesSaid : Prop := sliceUsesRow.holds Tryz.pinned (OpenSpec.ofChange sliceUsesSpec)

/-- ITS FALSE NEIGHBOUR: 'it returns false'. Refute it at one input. -/
def sliceUsesWrong : ChangeSpec := { name := "sliceUses", fn := fun _ => fun
  | [d1, d2] => { results := [.lit (.bool false)], args := [d1, d2] }
  | _ => none }
def SliceUsesWrongFalsely : Prop := sliceUsesRow.holds Tryz.pinned (OpenSpec.ofChange sliceUsesWrong)

/-- 'hypercubelaw35.SliceOrders': WHATEVER THE INPUT: true; the input reads as it did. -/
def sliceOrdersSpec : ChangeSpec := { name := "sliceOrders", fn := fun _ => fun
  | [d1, d2] => { results := [.lit (.bool true)], args := [d1, d2] }
  | _ => none }
def sliceOrdersRow : OpenClaim := { program := "ytmolcgfhgdhgoaagreatdoor", sum := "255e9aff5c049c23ffb9299ec7795c5cc6d11461d2ed1c714ffa9e7336af7f3c", func := "hypercube/hypercubelaw35.SliceOrders", spec := "sliceOrders", inPlace := ["internal/abi.NoEscape", "internal/bytealg.MakeNoZero"], unfollowed := true, recurses := true, named := ["unicode/utf8.first", "unicode/utf8.acceptRanges", "hypercube/lex.signs", "math/bits.deBruijn32tab"], loops := true, plainKeys := false, apart := false, laid := [("math/bits.deBruijn32tab", laid_math_bits_deBruijn32tab), ("unicode/utf8.acceptRanges", laid_unicode_utf8_acceptRanges), ("hypercube/lex.signs", laid_hypercube_lex_signs), ("unicode/utf8.first", laid_unicode_utf8_first)] }
def SliceOrdersSaid : Prop := sliceOrdersRow.holds Tryz.pinned (OpenSpec.ofChange sliceOrdersSpec)

/-- ITS FALSE NEIGHBOUR: 'it returns false'. Refute it at one input. -/
def sliceOrdersWrong : ChangeSpec := { name := "sliceOrders", fn := fun _ => fun
  | [d1, d2] => { results := [.lit (.bool false)], args := [d1, d2] }
  | _ => none }
def SliceOrdersWrongFalsely : Prop := sliceOrdersRow.holds Tryz.pinned (OpenSpec.ofChange sliceOrdersWrong)

/- THE SECOND FORM. 'bulk': how many values and letters a reading holds, each counted each time it is reached (what is shared counts as often as it is met; a slice's spare places count too). A statement '..UptoSaid' is the law's where the arguments, and the package variables that the reading takes, are together of bulk at most 1048576: NARROWER than '..Said'. Prove '..Said' where nothing that the law and all that it calls make is longer than what came in: it says more and counts as full. Else prove '..UptoSaid'. A law counts once. -/
mutual
def uptoBulk {H : Type} : DataW H → Nat
  | .lit (.string bytes) => bytes.length + 1
  | .lit _ => 1
  | .nil => 1
  | .ptr d => uptoBulk d + 1
  | .slice elems spare => uptoBulkAll elems + uptoBulkAll spare + 1
  | .agg parts => uptoBulkAll parts + 1
  | .iface _ d => uptoBulk d + 1
  | .map entries => uptoBulkEntries entries + 1
  | .held _ => 1
def uptoBulkAll {H : Type} : List (DataW H) → Nat
  | [] => 0
  | d :: r => uptoBulk d + uptoBulkAll r
def uptoBulkEntries {H : Type} : List (Lit × DataW H) → Nat
  | [] => 0
  | x :: r => uptoBulkEntry x + uptoBulkEntries r
def uptoBulkEntry {H : Type} : Lit × DataW H → Nat
  | (.string bytes, d) => bytes.length + uptoBulk d + 1
  | (_, d) => uptoBulk d + 1
 end
def uptoSmall : (H : Type) → List (DataW H) → Bool := fun _ ds => decide (uptoBulkAll ds ≤ 1048576)
def OpenSpec.upto (s : _root_.Go.ChangeSpec) : _root_.Go.OpenSpec := { _root_.Go.OpenSpec.ofChange s with cond := some uptoSmall }

/-- 'hypercubelaw09.ScopeNames', WHERE WHAT IT READS IS OF BULK AT MOST 1048576: true; the input reads as it did. -/
def scopeNamesUptoRow : OpenClaim := { program := "ytmolcgfhgdhgoaagreatdoor", sum := "255e9aff5c049c23ffb9299ec7795c5cc6d11461d2ed1c714ffa9e7336af7f3c", func := "hypercube/hypercubelaw09.ScopeNames", spec := "scopeNames", unfollowed := true, recurses := true, named := ["unicode/utf8.first", "unicode/utf8.acceptRanges", "hypercube/lex.signs", "math/bits.deBruijn32tab"], plainKeys := false, apart := false, laid := [("math/bits.deBruijn32tab", laid_math_bits_deBruijn32tab), ("unicode/utf8.acceptRanges", laid_unicode_utf8_acceptRanges), ("hypercube/lex.signs", laid_hypercube_lex_signs), ("unicode/utf8.first", laid_unicode_utf8_first)], narrowed := true }
def ScopeNamesUptoSaid : Prop := scopeNamesUptoRow.holds Tryz.pinned (OpenSpec.upto scopeNamesSpec)

/-- 'hypercubelaw09.ScopeInner', WHERE WHAT IT READS IS OF BULK AT MOST 1048576: true; the input reads as it did. -/
def scopeInnerUptoRow : OpenClaim := { program := "ytmolcgfhgdhgoaagreatdoor", sum := "255e9aff5c049c23ffb9299ec7795c5cc6d11461d2ed1c714ffa9e7336af7f3c", func := "hypercube/hypercubelaw09.ScopeInner", spec := "scopeInner", unfollowed := true, recurses := true, named := ["unicode/utf8.first", "unicode/utf8.acceptRanges", "hypercube/lex.signs", "math/bits.deBruijn32tab"], plainKeys := false, apart := false, laid := [("math/bits.deBruijn32tab", laid_math_bits_deBruijn32tab), ("unicode/utf8.acceptRanges", laid_unicode_utf8_acceptRanges), ("hypercube/lex.signs", laid_hypercube_lex_signs), ("unicode/utf8.first", laid_unicode_utf8_first)], narrowed := true }
def ScopeInnerUptoSaid : Prop := scopeInnerUptoRow.holds Tryz.pinned (OpenSpec.upto scopeInnerSpec)

/-- 'hypercubelaw09.ScopeArgs', WHERE WHAT IT READS IS OF BULK AT MOST 1048576: true; the input reads as it did. -/
def scopeArgsUptoRow : OpenClaim := { program := "ytmolcgfhgdhgoaagreatdoor", sum := "255e9aff5c049c23ffb9299ec7795c5cc6d11461d2ed1c714ffa9e7336af7f3c", func := "hypercube/hypercubelaw09.ScopeArgs", spec := "scopeArgs", unfollowed := true, recurses := true, named := ["unicode/utf8.first", "unicode/utf8.acceptRanges", "hypercube/lex.signs", "math/bits.deBruijn32tab"], plainKeys := false, apart := false, laid := [("math/bits.deBruijn32tab", laid_math_bits_deBruijn32tab), ("unicode/utf8.acceptRanges", laid_unicode_utf8_acceptRanges), ("hypercube/lex.signs", laid_hypercube_lex_signs), ("unicode/utf8.first", laid_unicode_utf8_first)], narrowed := true }
def ScopeArgsUptoSaid : Prop := scopeArgsUptoRow.holds Tryz.pinned (OpenSpec.upto scopeArgsSpec)

/-- 'hypercubelaw35.SliceNeeds', WHERE WHAT IT READS IS OF BULK AT MOST 1048576: true; the input reads as it did. -/
def sliceNeedsUptoRow : OpenClaim := { program := "ytmolcgfhgdhgoaagreatdoor", sum := "255e9aff5c049c23ffb9299ec7795c5cc6d11461d2ed1c714ffa9e7336af7f3c", func := "hypercube/hypercubelaw35.SliceNeeds", spec := "sliceNeeds", inPlace := ["internal/abi.NoEscape", "internal/bytealg.MakeNoZero"], unfollowed := true, recurses := true, named := ["unicode/utf8.first", "unicode/utf8.acceptRanges", "hypercube/lex.signs", "math/bits.deBruijn32tab"], loops := true, plainKeys := false, apart := false, laid := [("math/bits.deBruijn32tab", laid_math_bits_deBruijn32tab), ("unicode/utf8.acceptRanges", laid_unicode_utf8_acceptRanges), ("hypercube/lex.signs", laid_hypercube_lex_signs), ("unicode/utf8.first", laid_unicode_utf8_first)], narrowed := true }
def SliceNeedsUptoSaid : Prop := sliceNeedsUptoRow.holds Tryz.pinned (OpenSpec.upto sliceNeedsSpec)

/-- 'hypercubelaw35.SliceCloses', WHERE WHAT IT READS IS OF BULK AT MOST 1048576: true; the input reads as it did. -/
def sliceClosesUptoRow : OpenClaim := { program := "ytmolcgfhgdhgoaagreatdoor", sum := "255e9aff5c049c23ffb9299ec7795c5cc6d11461d2ed1c714ffa9e7336af7f3c", func := "hypercube/hypercubelaw35.SliceCloses", spec := "sliceCloses", inPlace := ["internal/abi.NoEscape", "internal/bytealg.MakeNoZero"], unfollowed := true, recurses := true, named := ["unicode/utf8.first", "unicode/utf8.acceptRanges", "hypercube/lex.signs", "math/bits.deBruijn32tab"], loops := true, plainKeys := false, apart := false, laid := [("math/bits.deBruijn32tab", laid_math_bits_deBruijn32tab), ("unicode/utf8.acceptRanges", laid_unicode_utf8_acceptRanges), ("hypercube/lex.signs", laid_hypercube_lex_signs), ("unicode/utf8.first", laid_unicode_utf8_first)], narrowed := true }
def SliceClosesUptoSaid : Prop := sliceClosesUptoRow.holds Tryz.pinned (OpenSpec.upto sliceClosesSpec)

/-- 'hypercubelaw35.SliceStands', WHERE WHAT IT READS IS OF BULK AT MOST 1048576: true; the input reads as it did. -/
def sliceStandsUptoRow : OpenClaim := { program := "ytmolcgfhgdhgoaagreatdoor", sum := "255e9aff5c049c23ffb9299ec7795c5cc6d11461d2ed1c714ffa9e7336af7f3c", func := "hypercube/hypercubelaw35.SliceStands", spec := "sliceStands", inPlace := ["internal/abi.NoEscape", "internal/bytealg.MakeNoZero"], unfollowed := true, recurses := true, named := ["unicode/utf8.first", "unicode/utf8.acceptRanges", "hypercube/lex.signs", "math/bits.deBruijn32tab"], loops := true, plainKeys := false, apart := false, laid := [("math/bits.deBruijn32tab", laid_math_bits_deBruijn32tab), ("unicode/utf8.acceptRanges", laid_unicode_utf8_acceptRanges), ("hypercube/lex.signs", laid_hypercube_lex_signs), ("unicode/utf8.first", laid_unicode_utf8_first)], narrowed := true }
def SliceStandsUptoSaid : Prop := sliceStandsUptoRow.holds Tryz.pinned (OpenSpec.upto sliceStandsSpec)

/-- 'hypercubelaw35.SliceUses', WHERE WHAT IT READS IS OF BULK AT MOST 1048576: true; the input reads as it did. -/
def sliceUsesUptoRow : OpenClaim := { program := "ytmolcgfhgdhgoaagreatdoor", sum := "255e9aff5c049c23ffb9299ec7795c5cc6d11461d2ed1c714ffa9e7336af7f3c", func := "hypercube/hypercubelaw35.SliceUses", spec := "sliceUses", inPlace := ["internal/abi.NoEscape", "internal/bytealg.MakeNoZero"], unfollowed := true, recurses := true, named := ["unicode/utf8.first", "unicode/utf8.acceptRanges", "hypercube/lex.signs", "math/bits.deBruijn32tab"], loops := true, plainKeys := false, apart := false, laid := [("math/bits.deBruijn32tab", laid_math_bits_deBruijn32tab), ("unicode/utf8.acceptRanges", laid_unicode_utf8_acceptRanges), ("hypercube/lex.signs", laid_hypercube_lex_signs), ("unicode/utf8.first", laid_unicode_utf8_first)], narrowed := true }
def SliceUsesUptoSaid : Prop := sliceUsesUptoRow.holds Tryz.pinned (OpenSpec.upto sliceUsesSpec)

/-- 'hypercubelaw35.SliceOrders', WHERE WHAT IT READS IS OF BULK AT MOST 1048576: true; the input reads as it did. -/
def sliceOrdersUptoRow : OpenClaim := { program := "ytmolcgfhgdhgoaagreatdoor", sum := "255e9aff5c049c23ffb9299ec7795c5cc6d11461d2ed1c714ffa9e7336af7f3c", func := "hypercube/hypercubelaw35.SliceOrders", spec := "sliceOrders", inPlace := ["internal/abi.NoEscape", "internal/bytealg.MakeNoZero"], unfollowed := true, recurses := true, named := ["unicode/utf8.first", "unicode/utf8.acceptRanges", "hypercube/lex.signs", "math/bits.deBruijn32tab"], loops := true, plainKeys := false, apart := false, laid := [("math/bits.deBruijn32tab", laid_math_bits_deBruijn32tab), ("unicode/utf8.acceptRanges", laid_unicode_utf8_acceptRanges), ("hypercube/lex.signs", laid_hypercube_lex_signs), ("unicode/utf8.first", laid_unicode_utf8_first)], narrowed := true }
def SliceOrdersUptoSaid : Prop := sliceOrdersUptoRow.holds Tryz.pinned (OpenSpec.upto sliceOrdersSpec)

end Rows
end Go.Proofs.YtmolcgfhgdhgoaaGreatDoor

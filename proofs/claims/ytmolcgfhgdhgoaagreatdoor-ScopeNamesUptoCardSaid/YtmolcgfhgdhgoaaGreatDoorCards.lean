/-
  DERIVED. GIVEN WITH THE SEED: THE CARDS: each row of YtmolcgfhgdhgoaaGreatDoorRows.lean that lists a variable, with what it lists TIED to the program's text (the seventh form; the later family's looks); each row that meets fmt, with fmt's text TOLD by the authors' own Lean function (tested against real Go, not proved from fmt's source: count such statements apart). THE CARD IS WHAT COUNTS. Prove the row's statement (the work); the ties are given (YtmolcgfhgdhgoaaGreatDoorTie.lean); close each card by the builder's one call (the guide's Derived/Test/ToyasCard.lean, 'card_holds'). Laid BY PROGRAM, IN A SANDBOX (cutbox-door.mjs). By AI agents, Wed Nov 11 2026. No macro, syntax, notation, axiom, sorry.
-/
import Derived.Test.YtmolcgfhgdhgoaaGreatDoorRows
import GoSem.ClaimSeven
namespace Go.Proofs.YtmolcgfhgdhgoaaGreatDoor
namespace Rows

/-- THE TIED CARD OF 'hypercubelaw09.ScopeNames'. -/
def scopeNamesCard : Claim7 := { stood := { row := scopeNamesRow, standIns := [], harness := (true, "4252b92cb075413c6914c5a56bd53bebb13bd6236d2cda42a8c9c9f81a5210a6"), looks := true }, kinds := [], alts := [], laidByText := true, laidKinds := [.data, .data, .data, .pinned], laidTests := true, laidLooks := .later }
def ScopeNamesCardSaid : Prop := Claim7.holds Tryz.pinned (.plain (OpenSpec.ofChange scopeNamesSpec)) scopeNamesCard

/-- THE TIED CARD OF 'hypercubelaw09.ScopeInner'. -/
def scopeInnerCard : Claim7 := { stood := { row := scopeInnerRow, standIns := [], harness := (true, "4252b92cb075413c6914c5a56bd53bebb13bd6236d2cda42a8c9c9f81a5210a6"), looks := true }, kinds := [], alts := [], laidByText := true, laidKinds := [.data, .data, .data, .pinned], laidTests := true, laidLooks := .later }
def ScopeInnerCardSaid : Prop := Claim7.holds Tryz.pinned (.plain (OpenSpec.ofChange scopeInnerSpec)) scopeInnerCard

/-- THE TIED CARD OF 'hypercubelaw09.ScopeArgs'. -/
def scopeArgsCard : Claim7 := { stood := { row := scopeArgsRow, standIns := [], harness := (true, "4252b92cb075413c6914c5a56bd53bebb13bd6236d2cda42a8c9c9f81a5210a6"), looks := true }, kinds := [], alts := [], laidByText := true, laidKinds := [.data, .data, .data, .pinned], laidTests := true, laidLooks := .later }
def ScopeArgsCardSaid : Prop := Claim7.holds Tryz.pinned (.plain (OpenSpec.ofChange scopeArgsSpec)) scopeArgsCard

/-- THE TIED CARD OF 'hypercubelaw35.SliceNeeds'. -/
def sliceNeedsCard : Claim7 := { stood := { row := sliceNeedsRow, standIns := [], harness := (true, "4252b92cb075413c6914c5a56bd53bebb13bd6236d2cda42a8c9c9f81a5210a6"), looks := true }, kinds := [], alts := [], laidByText := true, laidKinds := [.data, .data, .data, .pinned], laidTests := true, laidLooks := .later }
def SliceNeedsCardSaid : Prop := Claim7.holds Tryz.pinned (.plain (OpenSpec.ofChange sliceNeedsSpec)) sliceNeedsCard

/-- THE TIED CARD OF 'hypercubelaw35.SliceCloses'. -/
def sliceClosesCard : Claim7 := { stood := { row := sliceClosesRow, standIns := [], harness := (true, "4252b92cb075413c6914c5a56bd53bebb13bd6236d2cda42a8c9c9f81a5210a6"), looks := true }, kinds := [], alts := [], laidByText := true, laidKinds := [.data, .data, .data, .pinned], laidTests := true, laidLooks := .later }
def SliceClosesCardSaid : Prop := Claim7.holds Tryz.pinned (.plain (OpenSpec.ofChange sliceClosesSpec)) sliceClosesCard

/-- THE TIED CARD OF 'hypercubelaw35.SliceStands'. -/
def sliceStandsCard : Claim7 := { stood := { row := sliceStandsRow, standIns := [], harness := (true, "4252b92cb075413c6914c5a56bd53bebb13bd6236d2cda42a8c9c9f81a5210a6"), looks := true }, kinds := [], alts := [], laidByText := true, laidKinds := [.data, .data, .data, .pinned], laidTests := true, laidLooks := .later }
def SliceStandsCardSaid : Prop := Claim7.holds Tryz.pinned (.plain (OpenSpec.ofChange sliceStandsSpec)) sliceStandsCard

/-- THE TIED CARD OF 'hypercubelaw35.SliceUses'. -/
def sliceUsesCard : Claim7 := { stood := { row := sliceUsesRow, standIns := [], harness := (true, "4252b92cb075413c6914c5a56bd53bebb13bd6236d2cda42a8c9c9f81a5210a6"), looks := true }, kinds := [], alts := [], laidByText := true, laidKinds := [.data, .data, .data, .pinned], laidTests := true, laidLooks := .later }
def SliceUsesCardSaid : Prop := Claim7.holds Tryz.pinned (.plain (OpenSpec.ofChange sliceUsesSpec)) sliceUsesCard

/-- THE TIED CARD OF 'hypercubelaw35.SliceOrders'. -/
def sliceOrdersCard : Claim7 := { stood := { row := sliceOrdersRow, standIns := [], harness := (true, "4252b92cb075413c6914c5a56bd53bebb13bd6236d2cda42a8c9c9f81a5210a6"), looks := true }, kinds := [], alts := [], laidByText := true, laidKinds := [.data, .data, .data, .pinned], laidTests := true, laidLooks := .later }
def SliceOrdersCardSaid : Prop := Claim7.holds Tryz.pinned (.plain (OpenSpec.ofChange sliceOrdersSpec)) sliceOrdersCard

/-- THE SECOND FORM's CARD OF 'hypercubelaw09.ScopeNames'. -/
def scopeNamesUptoCard : Claim7 := { stood := { row := scopeNamesUptoRow, standIns := [], harness := (true, "4252b92cb075413c6914c5a56bd53bebb13bd6236d2cda42a8c9c9f81a5210a6"), looks := true }, kinds := [], alts := [], laidByText := true, laidKinds := [.data, .data, .data, .pinned], laidTests := true, laidLooks := .later }
def ScopeNamesUptoCardSaid : Prop := Claim7.holds Tryz.pinned (.plain (OpenSpec.upto scopeNamesSpec)) scopeNamesUptoCard

/-- THE SECOND FORM's CARD OF 'hypercubelaw09.ScopeInner'. -/
def scopeInnerUptoCard : Claim7 := { stood := { row := scopeInnerUptoRow, standIns := [], harness := (true, "4252b92cb075413c6914c5a56bd53bebb13bd6236d2cda42a8c9c9f81a5210a6"), looks := true }, kinds := [], alts := [], laidByText := true, laidKinds := [.data, .data, .data, .pinned], laidTests := true, laidLooks := .later }
def ScopeInnerUptoCardSaid : Prop := Claim7.holds Tryz.pinned (.plain (OpenSpec.upto scopeInnerSpec)) scopeInnerUptoCard

/-- THE SECOND FORM's CARD OF 'hypercubelaw09.ScopeArgs'. -/
def scopeArgsUptoCard : Claim7 := { stood := { row := scopeArgsUptoRow, standIns := [], harness := (true, "4252b92cb075413c6914c5a56bd53bebb13bd6236d2cda42a8c9c9f81a5210a6"), looks := true }, kinds := [], alts := [], laidByText := true, laidKinds := [.data, .data, .data, .pinned], laidTests := true, laidLooks := .later }
def ScopeArgsUptoCardSaid : Prop := Claim7.holds Tryz.pinned (.plain (OpenSpec.upto scopeArgsSpec)) scopeArgsUptoCard

/-- THE SECOND FORM's CARD OF 'hypercubelaw35.SliceNeeds'. -/
def sliceNeedsUptoCard : Claim7 := { stood := { row := sliceNeedsUptoRow, standIns := [], harness := (true, "4252b92cb075413c6914c5a56bd53bebb13bd6236d2cda42a8c9c9f81a5210a6"), looks := true }, kinds := [], alts := [], laidByText := true, laidKinds := [.data, .data, .data, .pinned], laidTests := true, laidLooks := .later }
def SliceNeedsUptoCardSaid : Prop := Claim7.holds Tryz.pinned (.plain (OpenSpec.upto sliceNeedsSpec)) sliceNeedsUptoCard

/-- THE SECOND FORM's CARD OF 'hypercubelaw35.SliceCloses'. -/
def sliceClosesUptoCard : Claim7 := { stood := { row := sliceClosesUptoRow, standIns := [], harness := (true, "4252b92cb075413c6914c5a56bd53bebb13bd6236d2cda42a8c9c9f81a5210a6"), looks := true }, kinds := [], alts := [], laidByText := true, laidKinds := [.data, .data, .data, .pinned], laidTests := true, laidLooks := .later }
def SliceClosesUptoCardSaid : Prop := Claim7.holds Tryz.pinned (.plain (OpenSpec.upto sliceClosesSpec)) sliceClosesUptoCard

/-- THE SECOND FORM's CARD OF 'hypercubelaw35.SliceStands'. -/
def sliceStandsUptoCard : Claim7 := { stood := { row := sliceStandsUptoRow, standIns := [], harness := (true, "4252b92cb075413c6914c5a56bd53bebb13bd6236d2cda42a8c9c9f81a5210a6"), looks := true }, kinds := [], alts := [], laidByText := true, laidKinds := [.data, .data, .data, .pinned], laidTests := true, laidLooks := .later }
def SliceStandsUptoCardSaid : Prop := Claim7.holds Tryz.pinned (.plain (OpenSpec.upto sliceStandsSpec)) sliceStandsUptoCard

/-- THE SECOND FORM's CARD OF 'hypercubelaw35.SliceUses'. -/
def sliceUsesUptoCard : Claim7 := { stood := { row := sliceUsesUptoRow, standIns := [], harness := (true, "4252b92cb075413c6914c5a56bd53bebb13bd6236d2cda42a8c9c9f81a5210a6"), looks := true }, kinds := [], alts := [], laidByText := true, laidKinds := [.data, .data, .data, .pinned], laidTests := true, laidLooks := .later }
def SliceUsesUptoCardSaid : Prop := Claim7.holds Tryz.pinned (.plain (OpenSpec.upto sliceUsesSpec)) sliceUsesUptoCard

/-- THE SECOND FORM's CARD OF 'hypercubelaw35.SliceOrders'. -/
def sliceOrdersUptoCard : Claim7 := { stood := { row := sliceOrdersUptoRow, standIns := [], harness := (true, "4252b92cb075413c6914c5a56bd53bebb13bd6236d2cda42a8c9c9f81a5210a6"), looks := true }, kinds := [], alts := [], laidByText := true, laidKinds := [.data, .data, .data, .pinned], laidTests := true, laidLooks := .later }
def SliceOrdersUptoCardSaid : Prop := Claim7.holds Tryz.pinned (.plain (OpenSpec.upto sliceOrdersSpec)) sliceOrdersUptoCard
end Rows
end Go.Proofs.YtmolcgfhgdhgoaaGreatDoor

/-
  NARROWER THAN 'FOR EVERY INPUT', by the rows' own cells (each row's printed sentence says how): TreeBrackets: laid · TreePlaces: laid · TreeFiles: laid · ShowFiles: loops, laid · ShowBack: loops, laid · ShowReads: laid.
  DERIVED. THE GIVEN ROWS OF THIS SEAT. 6 by the template 'for every input the law returns true; each argument reads behind the call as it read before'; 0 by the template 'total and deterministic' (their statements: YtdgdfglbhndjnaaDoorTotals.lean).
  GIVEN WITH THE SEED: the statements are not yours to turn. If you find one false, say at which input.
  Laid BY PROGRAM, IN A SANDBOX (cutbox-rows.mjs): the forced cells as the released guide's own fill.sh prints them over the translation 54dc1065ed5ec3b5… (all of the seat's roots in one cut). By AI agents, Wed Nov 11 2026. No macro, syntax, notation, axiom, sorry.
-/
import Derived.Test.YtdgdfglbhndjnaaDoorChecked
import GoSem.PinnedTables
import GoSem.Claim
import GoSem.ClaimJoined
import GoSem.ClaimMapViews
import Derived.JoinedTies
import Derived.KernelRfl
namespace Go.Proofs.YtdgdfglbhndjnaaDoor
/- THE CELL 'sum', in the pinned program and in every row, IS THE sha256 OF THE DUMP (.gsa) THAT YtdgdfglbhndjnaaDoorProg.lean LOADS. Nothing in Lean hashes anything: it is a label: what it is worth is what the hold of that sum in a sandbox is worth. -/
noncomputable def Tryd.pinned : Pinned := { name := "ytdgdfglbhndjnaadoor", sum := "54dc1065ed5ec3b512b5a2f87b54bf03e7883045db65b10f080875f0fa564d8b", checked := Tryd.checked }
namespace Rows
def none {H : Type} : Left H := { results := [], args := [] }

/- WHAT THE LISTED PACKAGE-LEVEL VARIABLES READ AS WHEN THE CALL BEGINS. Each datum BY PROGRAM (the guide's laid-datum.mjs) off the statement by which the dump's own 'gosem.cut.vars' lays the variable. In a bare row this is a premise. The card (YtdgdfglbhndjnaaDoorCards.lean) ties it to the program's text. -/
def laid_unicode_utf8_acceptRanges {H : Type} : DataW H := .agg [.agg [.lit (.int .u8 128), .lit (.int .u8 191)], .agg [.lit (.int .u8 160), .lit (.int .u8 191)], .agg [.lit (.int .u8 128), .lit (.int .u8 159)], .agg [.lit (.int .u8 144), .lit (.int .u8 191)], .agg [.lit (.int .u8 128), .lit (.int .u8 143)], .agg [.lit (.int .u8 0), .lit (.int .u8 0)], .agg [.lit (.int .u8 0), .lit (.int .u8 0)], .agg [.lit (.int .u8 0), .lit (.int .u8 0)], .agg [.lit (.int .u8 0), .lit (.int .u8 0)], .agg [.lit (.int .u8 0), .lit (.int .u8 0)], .agg [.lit (.int .u8 0), .lit (.int .u8 0)], .agg [.lit (.int .u8 0), .lit (.int .u8 0)], .agg [.lit (.int .u8 0), .lit (.int .u8 0)], .agg [.lit (.int .u8 0), .lit (.int .u8 0)], .agg [.lit (.int .u8 0), .lit (.int .u8 0)], .agg [.lit (.int .u8 0), .lit (.int .u8 0)]]
def laid_hypercube_lex_signs {H : Type} : DataW H := .agg [.lit (.string [45, 62]), .lit (.string [47, 92]), .lit (.string [92, 47]), .lit (.string [40]), .lit (.string [41]), .lit (.string [91]), .lit (.string [93]), .lit (.string [44]), .lit (.string [46]), .lit (.string [58]), .lit (.string [59]), .lit (.string [61]), .lit (.string [92]), .lit (.string [60]), .lit (.string [62]), .lit (.string [64]), .lit (.string [126]), .lit (.string [42]), .lit (.string [48]), .lit (.string [49])]
/-- One of Go's own tables, pinned by name: the form's constant. -/
def laid_unicode_utf8_first : DataW Unit := Go.Pinned.utf8First

/-- 'hypercubelaw07.TreeBrackets': WHATEVER THE INPUT: true; the input reads as it did. -/
def treeBracketsSpec : ChangeSpec := { name := "treeBrackets", fn := fun _ => fun
  | [d] => { results := [.lit (.bool true)], args := [d] }
  | _ => none }
def treeBracketsRow : OpenClaim := { program := "ytdgdfglbhndjnaadoor", sum := "54dc1065ed5ec3b512b5a2f87b54bf03e7883045db65b10f080875f0fa564d8b", func := "hypercube/hypercubelaw07.TreeBrackets", spec := "treeBrackets", unfollowed := true, recurses := true, named := ["unicode/utf8.first", "unicode/utf8.acceptRanges", "hypercube/lex.signs"], apart := false, laid := [("unicode/utf8.acceptRanges", laid_unicode_utf8_acceptRanges), ("hypercube/lex.signs", laid_hypercube_lex_signs), ("unicode/utf8.first", laid_unicode_utf8_first)] }
def TreeBracketsSaid : Prop := treeBracketsRow.holds Tryd.pinned (OpenSpec.ofChange treeBracketsSpec)

/-- ITS FALSE NEIGHBOUR: 'it returns false'. Refute it at one input. -/
def treeBracketsWrong : ChangeSpec := { name := "treeBrackets", fn := fun _ => fun
  | [d] => { results := [.lit (.bool false)], args := [d] }
  | _ => none }
def TreeBracketsWrongFalsely : Prop := treeBracketsRow.holds Tryd.pinned (OpenSpec.ofChange treeBracketsWrong)

/-- 'hypercubelaw07.TreePlaces': WHATEVER THE INPUT: true; the input reads as it did. -/
def treePlacesSpec : ChangeSpec := { name := "treePlaces", fn := fun _ => fun
  | [d] => { results := [.lit (.bool true)], args := [d] }
  | _ => none }
def treePlacesRow : OpenClaim := { program := "ytdgdfglbhndjnaadoor", sum := "54dc1065ed5ec3b512b5a2f87b54bf03e7883045db65b10f080875f0fa564d8b", func := "hypercube/hypercubelaw07.TreePlaces", spec := "treePlaces", unfollowed := true, recurses := true, named := ["unicode/utf8.first", "unicode/utf8.acceptRanges", "hypercube/lex.signs"], apart := false, laid := [("unicode/utf8.acceptRanges", laid_unicode_utf8_acceptRanges), ("hypercube/lex.signs", laid_hypercube_lex_signs), ("unicode/utf8.first", laid_unicode_utf8_first)] }
def TreePlacesSaid : Prop := treePlacesRow.holds Tryd.pinned (OpenSpec.ofChange treePlacesSpec)

/-- ITS FALSE NEIGHBOUR: 'it returns false'. Refute it at one input. -/
def treePlacesWrong : ChangeSpec := { name := "treePlaces", fn := fun _ => fun
  | [d] => { results := [.lit (.bool false)], args := [d] }
  | _ => none }
def TreePlacesWrongFalsely : Prop := treePlacesRow.holds Tryd.pinned (OpenSpec.ofChange treePlacesWrong)

/-- 'hypercubelaw07.TreeFiles': WHATEVER THE INPUT: true; the input reads as it did. -/
def treeFilesSpec : ChangeSpec := { name := "treeFiles", fn := fun _ => fun
  | [d1, d2] => { results := [.lit (.bool true)], args := [d1, d2] }
  | _ => none }
def treeFilesRow : OpenClaim := { program := "ytdgdfglbhndjnaadoor", sum := "54dc1065ed5ec3b512b5a2f87b54bf03e7883045db65b10f080875f0fa564d8b", func := "hypercube/hypercubelaw07.TreeFiles", spec := "treeFiles", unfollowed := true, recurses := true, named := ["unicode/utf8.first", "unicode/utf8.acceptRanges", "hypercube/lex.signs"], apart := false, laid := [("unicode/utf8.acceptRanges", laid_unicode_utf8_acceptRanges), ("hypercube/lex.signs", laid_hypercube_lex_signs), ("unicode/utf8.first", laid_unicode_utf8_first)] }
def TreeFilesSaid : Prop := treeFilesRow.holds Tryd.pinned (OpenSpec.ofChange treeFilesSpec)

/-- ITS FALSE NEIGHBOUR: 'it returns false'. Refute it at one input. -/
def treeFilesWrong : ChangeSpec := { name := "treeFiles", fn := fun _ => fun
  | [d1, d2] => { results := [.lit (.bool false)], args := [d1, d2] }
  | _ => none }
def TreeFilesWrongFalsely : Prop := treeFilesRow.holds Tryd.pinned (OpenSpec.ofChange treeFilesWrong)

/-- 'hypercubelaw08.ShowFiles': WHATEVER THE INPUT: true; the input reads as it did. -/
def showFilesSpec : ChangeSpec := { name := "showFiles", fn := fun _ => fun
  | [d] => { results := [.lit (.bool true)], args := [d] }
  | _ => none }
def showFilesRow : OpenClaim := { program := "ytdgdfglbhndjnaadoor", sum := "54dc1065ed5ec3b512b5a2f87b54bf03e7883045db65b10f080875f0fa564d8b", func := "hypercube/hypercubelaw08.ShowFiles", spec := "showFiles", inPlace := ["internal/abi.NoEscape", "internal/bytealg.MakeNoZero"], unfollowed := true, recurses := true, named := ["unicode/utf8.first", "unicode/utf8.acceptRanges", "hypercube/lex.signs"], loops := true, apart := false, laid := [("unicode/utf8.acceptRanges", laid_unicode_utf8_acceptRanges), ("hypercube/lex.signs", laid_hypercube_lex_signs), ("unicode/utf8.first", laid_unicode_utf8_first)] }
def ShowFilesSaid : Prop := showFilesRow.holds Tryd.pinned (OpenSpec.ofChange showFilesSpec)

/-- ITS FALSE NEIGHBOUR: 'it returns false'. Refute it at one input. -/
def showFilesWrong : ChangeSpec := { name := "showFiles", fn := fun _ => fun
  | [d] => { results := [.lit (.bool false)], args := [d] }
  | _ => none }
def ShowFilesWrongFalsely : Prop := showFilesRow.holds Tryd.pinned (OpenSpec.ofChange showFilesWrong)

/-- 'hypercubelaw08.ShowBack': WHATEVER THE INPUT: true; the input reads as it did. -/
def showBackSpec : ChangeSpec := { name := "showBack", fn := fun _ => fun
  | [d] => { results := [.lit (.bool true)], args := [d] }
  | _ => none }
def showBackRow : OpenClaim := { program := "ytdgdfglbhndjnaadoor", sum := "54dc1065ed5ec3b512b5a2f87b54bf03e7883045db65b10f080875f0fa564d8b", func := "hypercube/hypercubelaw08.ShowBack", spec := "showBack", inPlace := ["internal/abi.NoEscape", "internal/bytealg.MakeNoZero"], unfollowed := true, recurses := true, named := ["unicode/utf8.first", "unicode/utf8.acceptRanges", "hypercube/lex.signs"], loops := true, apart := false, laid := [("unicode/utf8.acceptRanges", laid_unicode_utf8_acceptRanges), ("hypercube/lex.signs", laid_hypercube_lex_signs), ("unicode/utf8.first", laid_unicode_utf8_first)] }
def ShowBackSaid : Prop := showBackRow.holds Tryd.pinned (OpenSpec.ofChange showBackSpec)

/-- ITS FALSE NEIGHBOUR: 'it returns false'. Refute it at one input. -/
def showBackWrong : ChangeSpec := { name := "showBack", fn := fun _ => fun
  | [d] => { results := [.lit (.bool false)], args := [d] }
  | _ => none }
def ShowBackWrongFalsely : Prop := showBackRow.holds Tryd.pinned (OpenSpec.ofChange showBackWrong)

/-- 'hypercubelaw08.ShowReads': WHATEVER THE INPUT: true; the input reads as it did. -/
def showReadsSpec : ChangeSpec := { name := "showReads", fn := fun _ => fun
  | [d] => { results := [.lit (.bool true)], args := [d] }
  | _ => none }
def showReadsRow : OpenClaim := { program := "ytdgdfglbhndjnaadoor", sum := "54dc1065ed5ec3b512b5a2f87b54bf03e7883045db65b10f080875f0fa564d8b", func := "hypercube/hypercubelaw08.ShowReads", spec := "showReads", inPlace := ["internal/abi.NoEscape", "internal/bytealg.MakeNoZero"], unfollowed := true, recurses := true, named := ["unicode/utf8.first", "unicode/utf8.acceptRanges", "hypercube/lex.signs"], apart := false, laid := [("unicode/utf8.acceptRanges", laid_unicode_utf8_acceptRanges), ("hypercube/lex.signs", laid_hypercube_lex_signs), ("unicode/utf8.first", laid_unicode_utf8_first)] }
def ShowReadsSaid : Prop := showReadsRow.holds Tryd.pinned (OpenSpec.ofChange showReadsSpec)

/-- ITS FALSE NEIGHBOUR: 'it returns false'. Refute it at one input. -/
def showReadsWrong : ChangeSpec := { name := "showReads", fn := fun _ => fun
  | [d] => { results := [.lit (.bool false)], args := [d] }
  | _ => none }
def ShowReadsWrongFalsely : Prop := showReadsRow.holds Tryd.pinned (OpenSpec.ofChange showReadsWrong)

/- THE SECOND FORM. 'bulk': how many values and letters a reading holds, each counted each time it is reached (what is shared counts as often as it is met; a slice's spare places count too). A statement '..UptoSaid' is the law's where the arguments, and the package variables that the reading takes, are together of bulk at most 1048576: NARROWER than '..Said'. Prove '..Said' where nothing that the law and all that it calls make is longer than what came in: it says more and counts as full. Else prove '..UptoSaid'. A law counts once. -/
mutual
def uptoBulk {H : Type} : DataW H → Nat
  | .lit (.string bytes) => bytes.length + 1
  | .lit _ => 1
  | .nil => 1
  | .ptr d => uptoBulk d + 1
  | .slice elems spare => uptoBulkAll elems + uptoBulkAll spare + 1
  | .agg parts => uptoBulkAll parts + 1
  | .iface _ d => uptoBulk d + 1
  | .map entries => uptoBulkEntries entries + 1
  | .held _ => 1
def uptoBulkAll {H : Type} : List (DataW H) → Nat
  | [] => 0
  | d :: r => uptoBulk d + uptoBulkAll r
def uptoBulkEntries {H : Type} : List (Lit × DataW H) → Nat
  | [] => 0
  | x :: r => uptoBulkEntry x + uptoBulkEntries r
def uptoBulkEntry {H : Type} : Lit × DataW H → Nat
  | (.string bytes, d) => bytes.length + uptoBulk d + 1
  | (_, d) => uptoBulk d + 1
 end
def uptoSmall : (H : Type) → List (DataW H) → Bool := fun _ ds => decide (uptoBulkAll ds ≤ 1048576)
def OpenSpec.upto (s : _root_.Go.ChangeSpec) : _root_.Go.OpenSpec := { _root_.Go.OpenSpec.ofChange s with cond := some uptoSmall }

/-- 'hypercubelaw07.TreeBrackets', WHERE WHAT IT READS IS OF BULK AT MOST 1048576: true; the input reads as it did. -/
def treeBracketsUptoRow : OpenClaim := { program := "ytdgdfglbhndjnaadoor", sum := "54dc1065ed5ec3b512b5a2f87b54bf03e7883045db65b10f080875f0fa564d8b", func := "hypercube/hypercubelaw07.TreeBrackets", spec := "treeBrackets", unfollowed := true, recurses := true, named := ["unicode/utf8.first", "unicode/utf8.acceptRanges", "hypercube/lex.signs"], apart := false, laid := [("unicode/utf8.acceptRanges", laid_unicode_utf8_acceptRanges), ("hypercube/lex.signs", laid_hypercube_lex_signs), ("unicode/utf8.first", laid_unicode_utf8_first)], narrowed := true }
def TreeBracketsUptoSaid : Prop := treeBracketsUptoRow.holds Tryd.pinned (OpenSpec.upto treeBracketsSpec)

/-- 'hypercubelaw07.TreePlaces', WHERE WHAT IT READS IS OF BULK AT MOST 1048576: true; the input reads as it did. -/
def treePlacesUptoRow : OpenClaim := { program := "ytdgdfglbhndjnaadoor", sum := "54dc1065ed5ec3b512b5a2f87b54bf03e7883045db65b10f080875f0fa564d8b", func := "hypercube/hypercubelaw07.TreePlaces", spec := "treePlaces", unfollowed := true, recurses := true, named := ["unicode/utf8.first", "unicode/utf8.acceptRanges", "hypercube/lex.signs"], apart := false, laid := [("unicode/utf8.acceptRanges", laid_unicode_utf8_acceptRanges), ("hypercube/lex.signs", laid_hypercube_lex_signs), ("unicode/utf8.first", laid_unicode_utf8_first)], narrowed := true }
def TreePlacesUptoSaid : Prop := treePlacesUptoRow.holds Tryd.pinned (OpenSpec.upto treePlacesSpec)

/-- 'hypercubelaw07.TreeFiles', WHERE WHAT IT READS IS OF BULK AT MOST 1048576: true; the input reads as it did. -/
def treeFilesUptoRow : OpenClaim := { program := "ytdgdfglbhndjnaadoor", sum := "54dc1065ed5ec3b512b5a2f87b54bf03e7883045db65b10f080875f0fa564d8b", func := "hypercube/hypercubelaw07.TreeFiles", spec := "treeFiles", unfollowed := true, recurses := true, named := ["unicode/utf8.first", "unicode/utf8.acceptRanges", "hypercube/lex.signs"], apart := false, laid := [("unicode/utf8.acceptRanges", laid_unicode_utf8_acceptRanges), ("hypercube/lex.signs", laid_hypercube_lex_signs), ("unicode/utf8.first", laid_unicode_utf8_first)], narrowed := true }
def TreeFilesUptoSaid : Prop := treeFilesUptoRow.holds Tryd.pinned (OpenSpec.upto treeFilesSpec)

/-- 'hypercubelaw08.ShowFiles', WHERE WHAT IT READS IS OF BULK AT MOST 1048576: true; the input reads as it did. -/
def showFilesUptoRow : OpenClaim := { program := "ytdgdfglbhndjnaadoor", sum := "54dc1065ed5ec3b512b5a2f87b54bf03e7883045db65b10f080875f0fa564d8b", func := "hypercube/hypercubelaw08.ShowFiles", spec := "showFiles", inPlace := ["internal/abi.NoEscape", "internal/bytealg.MakeNoZero"], unfollowed := true, recurses := true, named := ["unicode/utf8.first", "unicode/utf8.acceptRanges", "hypercube/lex.signs"], loops := true, apart := false, laid := [("unicode/utf8.acceptRanges", laid_unicode_utf8_acceptRanges), ("hypercube/lex.signs", laid_hypercube_lex_signs), ("unicode/utf8.first", laid_unicode_utf8_first)], narrowed := true }
def ShowFilesUptoSaid : Prop := showFilesUptoRow.holds Tryd.pinned (OpenSpec.upto showFilesSpec)

/-- 'hypercubelaw08.ShowBack', WHERE WHAT IT READS IS OF BULK AT MOST 1048576: true; the input reads as it did. -/
def showBackUptoRow : OpenClaim := { program := "ytdgdfglbhndjnaadoor", sum := "54dc1065ed5ec3b512b5a2f87b54bf03e7883045db65b10f080875f0fa564d8b", func := "hypercube/hypercubelaw08.ShowBack", spec := "showBack", inPlace := ["internal/abi.NoEscape", "internal/bytealg.MakeNoZero"], unfollowed := true, recurses := true, named := ["unicode/utf8.first", "unicode/utf8.acceptRanges", "hypercube/lex.signs"], loops := true, apart := false, laid := [("unicode/utf8.acceptRanges", laid_unicode_utf8_acceptRanges), ("hypercube/lex.signs", laid_hypercube_lex_signs), ("unicode/utf8.first", laid_unicode_utf8_first)], narrowed := true }
def ShowBackUptoSaid : Prop := showBackUptoRow.holds Tryd.pinned (OpenSpec.upto showBackSpec)

/-- 'hypercubelaw08.ShowReads', WHERE WHAT IT READS IS OF BULK AT MOST 1048576: true; the input reads as it did. -/
def showReadsUptoRow : OpenClaim := { program := "ytdgdfglbhndjnaadoor", sum := "54dc1065ed5ec3b512b5a2f87b54bf03e7883045db65b10f080875f0fa564d8b", func := "hypercube/hypercubelaw08.ShowReads", spec := "showReads", inPlace := ["internal/abi.NoEscape", "internal/bytealg.MakeNoZero"], unfollowed := true, recurses := true, named := ["unicode/utf8.first", "unicode/utf8.acceptRanges", "hypercube/lex.signs"], apart := false, laid := [("unicode/utf8.acceptRanges", laid_unicode_utf8_acceptRanges), ("hypercube/lex.signs", laid_hypercube_lex_signs), ("unicode/utf8.first", laid_unicode_utf8_first)], narrowed := true }
def ShowReadsUptoSaid : Prop := showReadsUptoRow.holds Tryd.pinned (OpenSpec.upto showReadsSpec)

end Rows
end Go.Proofs.YtdgdfglbhndjnaaDoor

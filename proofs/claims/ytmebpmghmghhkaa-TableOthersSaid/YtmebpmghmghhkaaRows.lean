/-
  No cell of these rows narrows 'for every input' (looked for: loops, veiled, ifaces, maps, wideKeys, modest, calm, conditions, laid).
  DERIVED. THE GIVEN ROWS OF THIS SEAT. 8 by the template 'for every input the law returns true; each argument reads behind the call as it read before'; 0 by the template 'total and deterministic' (their statements: YtmebpmghmghhkaaTotals.lean).
  GIVEN WITH THE SEED: the statements are not yours to turn. If you find one false, say at which input.
  Laid BY PROGRAM, IN A SANDBOX (cutbox-rows.mjs): the forced cells as the released guide's own fill.sh prints them over the translation ba13298760a00cfa… (all of the seat's roots in one cut). By AI agents, Wed Nov 11 2026. No macro, syntax, notation, axiom, sorry.
-/
import Derived.Test.YtmebpmghmghhkaaChecked
import GoSem.Claim
import GoSem.ClaimJoined
import GoSem.ClaimMapViews
import Derived.JoinedTies
import Derived.KernelRfl
namespace Go.Proofs.Ytmebpmghmghhkaa
/- THE CELL 'sum', in the pinned program and in every row, IS THE sha256 OF THE DUMP (.gsa) THAT YtmebpmghmghhkaaProg.lean LOADS. Nothing in Lean hashes anything: it is a label: what it is worth is what the hold of that sum in a sandbox is worth. -/
noncomputable def Try.pinned : Pinned := { name := "ytmebpmghmghhkaa", sum := "ba13298760a00cfa45f899b8825b11dbd9a7a305e37309b934254f5086d68cc2", checked := Try.checked }
namespace Rows
def none {H : Type} : Left H := { results := [], args := [] }

/-- 'careenlaw12.TableTells': WHATEVER THE INPUT: true; the input reads as it did. -/
def tableTellsSpec : ChangeSpec := { name := "tableTells", fn := fun _ => fun
  | [d1, d2, d3, d4, d5] => { results := [.lit (.bool true)], args := [d1, d2, d3, d4, d5] }
  | _ => none }
def tableTellsRow : OpenClaim := { program := "ytmebpmghmghhkaa", sum := "ba13298760a00cfa45f899b8825b11dbd9a7a305e37309b934254f5086d68cc2", func := "careen/careenlaw12.TableTells", spec := "tableTells", inPlace := ["internal/bytealg.abigen_runtime_cmpstring", "slices.overlaps[careen/api.Record]"], unfollowed := true, recurses := true, apart := false }
def TableTellsSaid : Prop := tableTellsRow.holds Try.pinned (OpenSpec.ofChange tableTellsSpec)

/-- ITS FALSE NEIGHBOUR: 'it returns false'. Refute it at one input. -/
def tableTellsWrong : ChangeSpec := { name := "tableTells", fn := fun _ => fun
  | [d1, d2, d3, d4, d5] => { results := [.lit (.bool false)], args := [d1, d2, d3, d4, d5] }
  | _ => none }
def TableTellsWrongFalsely : Prop := tableTellsRow.holds Try.pinned (OpenSpec.ofChange tableTellsWrong)

/-- 'careenlaw12.TableOthers': WHATEVER THE INPUT: true; the input reads as it did. -/
def tableOthersSpec : ChangeSpec := { name := "tableOthers", fn := fun _ => fun
  | [d1, d2] => { results := [.lit (.bool true)], args := [d1, d2] }
  | _ => none }
def tableOthersRow : OpenClaim := { program := "ytmebpmghmghhkaa", sum := "ba13298760a00cfa45f899b8825b11dbd9a7a305e37309b934254f5086d68cc2", func := "careen/careenlaw12.TableOthers", spec := "tableOthers", inPlace := ["internal/bytealg.abigen_runtime_cmpstring", "slices.overlaps[careen/api.Record]"], unfollowed := true, recurses := true, apart := false }
def TableOthersSaid : Prop := tableOthersRow.holds Try.pinned (OpenSpec.ofChange tableOthersSpec)

/-- ITS FALSE NEIGHBOUR: 'it returns false'. Refute it at one input. -/
def tableOthersWrong : ChangeSpec := { name := "tableOthers", fn := fun _ => fun
  | [d1, d2] => { results := [.lit (.bool false)], args := [d1, d2] }
  | _ => none }
def TableOthersWrongFalsely : Prop := tableOthersRow.holds Try.pinned (OpenSpec.ofChange tableOthersWrong)

/-- 'careenlaw12.TableGets': WHATEVER THE INPUT: true; the input reads as it did. -/
def tableGetsSpec : ChangeSpec := { name := "tableGets", fn := fun _ => fun
  | [d1, d2, d3] => { results := [.lit (.bool true)], args := [d1, d2, d3] }
  | _ => none }
def tableGetsRow : OpenClaim := { program := "ytmebpmghmghhkaa", sum := "ba13298760a00cfa45f899b8825b11dbd9a7a305e37309b934254f5086d68cc2", func := "careen/careenlaw12.TableGets", spec := "tableGets", inPlace := ["internal/bytealg.abigen_runtime_cmpstring", "slices.overlaps[careen/api.Record]"], unfollowed := true, recurses := true, apart := false }
def TableGetsSaid : Prop := tableGetsRow.holds Try.pinned (OpenSpec.ofChange tableGetsSpec)

/-- ITS FALSE NEIGHBOUR: 'it returns false'. Refute it at one input. -/
def tableGetsWrong : ChangeSpec := { name := "tableGets", fn := fun _ => fun
  | [d1, d2, d3] => { results := [.lit (.bool false)], args := [d1, d2, d3] }
  | _ => none }
def TableGetsWrongFalsely : Prop := tableGetsRow.holds Try.pinned (OpenSpec.ofChange tableGetsWrong)

/-- 'careenlaw12.TableScans': WHATEVER THE INPUT: true; the input reads as it did. -/
def tableScansSpec : ChangeSpec := { name := "tableScans", fn := fun _ => fun
  | [d] => { results := [.lit (.bool true)], args := [d] }
  | _ => none }
def tableScansRow : OpenClaim := { program := "ytmebpmghmghhkaa", sum := "ba13298760a00cfa45f899b8825b11dbd9a7a305e37309b934254f5086d68cc2", func := "careen/careenlaw12.TableScans", spec := "tableScans", inPlace := ["internal/bytealg.abigen_runtime_cmpstring", "slices.overlaps[careen/api.Record]"], unfollowed := true, recurses := true, apart := false }
def TableScansSaid : Prop := tableScansRow.holds Try.pinned (OpenSpec.ofChange tableScansSpec)

/-- ITS FALSE NEIGHBOUR: 'it returns false'. Refute it at one input. -/
def tableScansWrong : ChangeSpec := { name := "tableScans", fn := fun _ => fun
  | [d] => { results := [.lit (.bool false)], args := [d] }
  | _ => none }
def TableScansWrongFalsely : Prop := tableScansRow.holds Try.pinned (OpenSpec.ofChange tableScansWrong)

/-- 'careenlaw12.TableFull': WHATEVER THE INPUT: true; the input reads as it did. -/
def tableFullSpec : ChangeSpec := { name := "tableFull", fn := fun _ => fun
  | [d] => { results := [.lit (.bool true)], args := [d] }
  | _ => none }
def tableFullRow : OpenClaim := { program := "ytmebpmghmghhkaa", sum := "ba13298760a00cfa45f899b8825b11dbd9a7a305e37309b934254f5086d68cc2", func := "careen/careenlaw12.TableFull", spec := "tableFull", inPlace := ["internal/bytealg.abigen_runtime_cmpstring", "slices.overlaps[careen/api.Record]"], unfollowed := true, recurses := true, apart := false }
def TableFullSaid : Prop := tableFullRow.holds Try.pinned (OpenSpec.ofChange tableFullSpec)

/-- ITS FALSE NEIGHBOUR: 'it returns false'. Refute it at one input. -/
def tableFullWrong : ChangeSpec := { name := "tableFull", fn := fun _ => fun
  | [d] => { results := [.lit (.bool false)], args := [d] }
  | _ => none }
def TableFullWrongFalsely : Prop := tableFullRow.holds Try.pinned (OpenSpec.ofChange tableFullWrong)

/-- 'careenlaw12.TableApart': WHATEVER THE INPUT: true; the input reads as it did. -/
def tableApartSpec : ChangeSpec := { name := "tableApart", fn := fun _ => fun
  | [d1, d2, d3] => { results := [.lit (.bool true)], args := [d1, d2, d3] }
  | _ => none }
def tableApartRow : OpenClaim := { program := "ytmebpmghmghhkaa", sum := "ba13298760a00cfa45f899b8825b11dbd9a7a305e37309b934254f5086d68cc2", func := "careen/careenlaw12.TableApart", spec := "tableApart", inPlace := ["internal/bytealg.abigen_runtime_cmpstring", "slices.overlaps[careen/api.Record]"], unfollowed := true, recurses := true, apart := false }
def TableApartSaid : Prop := tableApartRow.holds Try.pinned (OpenSpec.ofChange tableApartSpec)

/-- ITS FALSE NEIGHBOUR: 'it returns false'. Refute it at one input. -/
def tableApartWrong : ChangeSpec := { name := "tableApart", fn := fun _ => fun
  | [d1, d2, d3] => { results := [.lit (.bool false)], args := [d1, d2, d3] }
  | _ => none }
def TableApartWrongFalsely : Prop := tableApartRow.holds Try.pinned (OpenSpec.ofChange tableApartWrong)

/-- 'careenlaw12.TableMarks': WHATEVER THE INPUT: true; the input reads as it did. -/
def tableMarksSpec : ChangeSpec := { name := "tableMarks", fn := fun _ => fun
  | [d1, d2, d3] => { results := [.lit (.bool true)], args := [d1, d2, d3] }
  | _ => none }
def tableMarksRow : OpenClaim := { program := "ytmebpmghmghhkaa", sum := "ba13298760a00cfa45f899b8825b11dbd9a7a305e37309b934254f5086d68cc2", func := "careen/careenlaw12.TableMarks", spec := "tableMarks", inPlace := ["internal/bytealg.abigen_runtime_cmpstring", "slices.overlaps[careen/api.Record]"], unfollowed := true, recurses := true, apart := false }
def TableMarksSaid : Prop := tableMarksRow.holds Try.pinned (OpenSpec.ofChange tableMarksSpec)

/-- ITS FALSE NEIGHBOUR: 'it returns false'. Refute it at one input. -/
def tableMarksWrong : ChangeSpec := { name := "tableMarks", fn := fun _ => fun
  | [d1, d2, d3] => { results := [.lit (.bool false)], args := [d1, d2, d3] }
  | _ => none }
def TableMarksWrongFalsely : Prop := tableMarksRow.holds Try.pinned (OpenSpec.ofChange tableMarksWrong)

/-- 'careenlaw12.TableRevs': WHATEVER THE INPUT: true; the input reads as it did. -/
def tableRevsSpec : ChangeSpec := { name := "tableRevs", fn := fun _ => fun
  | [d] => { results := [.lit (.bool true)], args := [d] }
  | _ => none }
def tableRevsRow : OpenClaim := { program := "ytmebpmghmghhkaa", sum := "ba13298760a00cfa45f899b8825b11dbd9a7a305e37309b934254f5086d68cc2", func := "careen/careenlaw12.TableRevs", spec := "tableRevs", inPlace := ["internal/bytealg.abigen_runtime_cmpstring", "slices.overlaps[careen/api.Record]"], unfollowed := true, recurses := true, apart := false }
def TableRevsSaid : Prop := tableRevsRow.holds Try.pinned (OpenSpec.ofChange tableRevsSpec)

/-- ITS FALSE NEIGHBOUR: 'it returns false'. Refute it at one input. -/
def tableRevsWrong : ChangeSpec := { name := "tableRevs", fn := fun _ => fun
  | [d] => { results := [.lit (.bool false)], args := [d] }
  | _ => none }
def TableRevsWrongFalsely : Prop := tableRevsRow.holds Try.pinned (OpenSpec.ofChange tableRevsWrong)

/- THE SECOND FORM. 'bulk': how many values and letters a reading holds, each counted each time it is reached (what is shared counts as often as it is met; a slice's spare places count too). A statement '..UptoSaid' is the law's where the arguments, and the package variables that the reading takes, are together of bulk at most 1048576: NARROWER than '..Said'. Prove '..Said' where nothing that the law and all that it calls make is longer than what came in: it says more and counts as full. Else prove '..UptoSaid'. A law counts once. -/
mutual
def uptoBulk {H : Type} : DataW H → Nat
  | .lit (.string bytes) => bytes.length + 1
  | .lit _ => 1
  | .nil => 1
  | .ptr d => uptoBulk d + 1
  | .slice elems spare => uptoBulkAll elems + uptoBulkAll spare + 1
  | .agg parts => uptoBulkAll parts + 1
  | .iface _ d => uptoBulk d + 1
  | .map entries => uptoBulkEntries entries + 1
  | .held _ => 1
def uptoBulkAll {H : Type} : List (DataW H) → Nat
  | [] => 0
  | d :: r => uptoBulk d + uptoBulkAll r
def uptoBulkEntries {H : Type} : List (Lit × DataW H) → Nat
  | [] => 0
  | x :: r => uptoBulkEntry x + uptoBulkEntries r
def uptoBulkEntry {H : Type} : Lit × DataW H → Nat
  | (.string bytes, d) => bytes.length + uptoBulk d + 1
  | (_, d) => uptoBulk d + 1
 end
def uptoSmall : (H : Type) → List (DataW H) → Bool := fun _ ds => decide (uptoBulkAll ds ≤ 1048576)
def OpenSpec.upto (s : _root_.Go.ChangeSpec) : _root_.Go.OpenSpec := { _root_.Go.OpenSpec.ofChange s with cond := some uptoSmall }

/-- 'careenlaw12.TableTells', WHERE WHAT IT READS IS OF BULK AT MOST 1048576: true; the input reads as it did. -/
def tableTellsUptoRow : OpenClaim := { program := "ytmebpmghmghhkaa", sum := "ba13298760a00cfa45f899b8825b11dbd9a7a305e37309b934254f5086d68cc2", func := "careen/careenlaw12.TableTells", spec := "tableTells", inPlace := ["internal/bytealg.abigen_runtime_cmpstring", "slices.overlaps[careen/api.Record]"], unfollowed := true, recurses := true, apart := false, narrowed := true }
def TableTellsUptoSaid : Prop := tableTellsUptoRow.holds Try.pinned (OpenSpec.upto tableTellsSpec)

/-- 'careenlaw12.TableOthers', WHERE WHAT IT READS IS OF BULK AT MOST 1048576: true; the input reads as it did. -/
def tableOthersUptoRow : OpenClaim := { program := "ytmebpmghmghhkaa", sum := "ba13298760a00cfa45f899b8825b11dbd9a7a305e37309b934254f5086d68cc2", func := "careen/careenlaw12.TableOthers", spec := "tableOthers", inPlace := ["internal/bytealg.abigen_runtime_cmpstring", "slices.overlaps[careen/api.Record]"], unfollowed := true, recurses := true, apart := false, narrowed := true }
def TableOthersUptoSaid : Prop := tableOthersUptoRow.holds Try.pinned (OpenSpec.upto tableOthersSpec)

/-- 'careenlaw12.TableGets', WHERE WHAT IT READS IS OF BULK AT MOST 1048576: true; the input reads as it did. -/
def tableGetsUptoRow : OpenClaim := { program := "ytmebpmghmghhkaa", sum := "ba13298760a00cfa45f899b8825b11dbd9a7a305e37309b934254f5086d68cc2", func := "careen/careenlaw12.TableGets", spec := "tableGets", inPlace := ["internal/bytealg.abigen_runtime_cmpstring", "slices.overlaps[careen/api.Record]"], unfollowed := true, recurses := true, apart := false, narrowed := true }
def TableGetsUptoSaid : Prop := tableGetsUptoRow.holds Try.pinned (OpenSpec.upto tableGetsSpec)

/-- 'careenlaw12.TableScans', WHERE WHAT IT READS IS OF BULK AT MOST 1048576: true; the input reads as it did. -/
def tableScansUptoRow : OpenClaim := { program := "ytmebpmghmghhkaa", sum := "ba13298760a00cfa45f899b8825b11dbd9a7a305e37309b934254f5086d68cc2", func := "careen/careenlaw12.TableScans", spec := "tableScans", inPlace := ["internal/bytealg.abigen_runtime_cmpstring", "slices.overlaps[careen/api.Record]"], unfollowed := true, recurses := true, apart := false, narrowed := true }
def TableScansUptoSaid : Prop := tableScansUptoRow.holds Try.pinned (OpenSpec.upto tableScansSpec)

/-- 'careenlaw12.TableFull', WHERE WHAT IT READS IS OF BULK AT MOST 1048576: true; the input reads as it did. -/
def tableFullUptoRow : OpenClaim := { program := "ytmebpmghmghhkaa", sum := "ba13298760a00cfa45f899b8825b11dbd9a7a305e37309b934254f5086d68cc2", func := "careen/careenlaw12.TableFull", spec := "tableFull", inPlace := ["internal/bytealg.abigen_runtime_cmpstring", "slices.overlaps[careen/api.Record]"], unfollowed := true, recurses := true, apart := false, narrowed := true }
def TableFullUptoSaid : Prop := tableFullUptoRow.holds Try.pinned (OpenSpec.upto tableFullSpec)

/-- 'careenlaw12.TableApart', WHERE WHAT IT READS IS OF BULK AT MOST 1048576: true; the input reads as it did. -/
def tableApartUptoRow : OpenClaim := { program := "ytmebpmghmghhkaa", sum := "ba13298760a00cfa45f899b8825b11dbd9a7a305e37309b934254f5086d68cc2", func := "careen/careenlaw12.TableApart", spec := "tableApart", inPlace := ["internal/bytealg.abigen_runtime_cmpstring", "slices.overlaps[careen/api.Record]"], unfollowed := true, recurses := true, apart := false, narrowed := true }
def TableApartUptoSaid : Prop := tableApartUptoRow.holds Try.pinned (OpenSpec.upto tableApartSpec)

/-- 'careenlaw12.TableMarks', WHERE WHAT IT READS IS OF BULK AT MOST 1048576: true; the input reads as it did. -/
def tableMarksUptoRow : OpenClaim := { program := "ytmebpmghmghhkaa", sum := "ba13298760a00cfa45f899b8825b11dbd9a7a305e37309b934254f5086d68cc2", func := "careen/careenlaw12.TableMarks", spec := "tableMarks", inPlace := ["internal/bytealg.abigen_runtime_cmpstring", "slices.overlaps[careen/api.Record]"], unfollowed := true, recurses := true, apart := false, narrowed := true }
def TableMarksUptoSaid : Prop := tableMarksUptoRow.holds Try.pinned (OpenSpec.upto tableMarksSpec)

/-- 'careenlaw12.TableRevs', WHERE WHAT IT READS IS OF BULK AT MOST 1048576: true; the input reads as it did. -/
def tableRevsUptoRow : OpenClaim := { program := "ytmebpmghmghhkaa", sum := "ba13298760a00cfa45f899b8825b11dbd9a7a305e37309b934254f5086d68cc2", func := "careen/careenlaw12.TableRevs", spec := "tableRevs", inPlace := ["internal/bytealg.abigen_runtime_cmpstring", "slices.overlaps[careen/api.Record]"], unfollowed := true, recurses := true, apart := false, narrowed := true }
def TableRevsUptoSaid : Prop := tableRevsUptoRow.holds Try.pinned (OpenSpec.upto tableRevsSpec)

end Rows
end Go.Proofs.Ytmebpmghmghhkaa

/-
  No cell of these rows narrows 'for every input' (looked for: loops, veiled, ifaces, maps, wideKeys, modest, calm, conditions, laid).
  DERIVED. THE GIVEN ROWS OF THIS SEAT. 7 by the template 'for every input the law returns true; each argument reads behind the call as it read before'; 0 by the template 'total and deterministic' (their statements: YtngedkiffapofaaTotals.lean).
  GIVEN WITH THE SEED: the statements are not yours to turn. If you find one false, say at which input.
  Laid BY PROGRAM, IN A SANDBOX (cutbox-rows.mjs): the forced cells as the released guide's own fill.sh prints them over the translation 8a1a05f63086c962… (all of the seat's roots in one cut). By AI agents, Wed Nov 11 2026. No macro, syntax, notation, axiom, sorry.
-/
import Derived.Test.YtngedkiffapofaaChecked
import GoSem.Claim
import GoSem.ClaimJoined
import GoSem.ClaimMapViews
import Derived.JoinedTies
import Derived.KernelRfl
namespace Go.Proofs.Ytngedkiffapofaa
/- THE CELL 'sum', in the pinned program and in every row, IS THE sha256 OF THE DUMP (.gsa) THAT YtngedkiffapofaaProg.lean LOADS. Nothing in Lean hashes anything: it is a label: what it is worth is what the hold of that sum in a sandbox is worth. -/
noncomputable def Try.pinned : Pinned := { name := "ytngedkiffapofaa", sum := "8a1a05f63086c962a6a577390816c03eef4ad8c4e81355fa0aee55179b11378d", checked := Try.checked }
namespace Rows
def none {H : Type} : Left H := { results := [], args := [] }

/-- 'careenlaw02.FieldTells': WHATEVER THE INPUT: true; the input reads as it did. -/
def fieldTellsSpec : ChangeSpec := { name := "fieldTells", fn := fun _ => fun
  | [d1, d2, d3, d4, d5, d6] => { results := [.lit (.bool true)], args := [d1, d2, d3, d4, d5, d6] }
  | _ => none }
def fieldTellsRow : OpenClaim := { program := "ytngedkiffapofaa", sum := "8a1a05f63086c962a6a577390816c03eef4ad8c4e81355fa0aee55179b11378d", func := "careen/careenlaw02.FieldTells", spec := "fieldTells", inPlace := ["internal/abi.NoEscape"], unfollowed := true, recurses := true, apart := false }
def FieldTellsSaid : Prop := fieldTellsRow.holds Try.pinned (OpenSpec.ofChange fieldTellsSpec)

/-- ITS FALSE NEIGHBOUR: 'it returns false'. Refute it at one input. -/
def fieldTellsWrong : ChangeSpec := { name := "fieldTells", fn := fun _ => fun
  | [d1, d2, d3, d4, d5, d6] => { results := [.lit (.bool false)], args := [d1, d2, d3, d4, d5, d6] }
  | _ => none }
def FieldTellsWrongFalsely : Prop := fieldTellsRow.holds Try.pinned (OpenSpec.ofChange fieldTellsWrong)

/-- 'careenlaw02.FieldBack': WHATEVER THE INPUT: true; the input reads as it did. -/
def fieldBackSpec : ChangeSpec := { name := "fieldBack", fn := fun _ => fun
  | [d1, d2, d3] => { results := [.lit (.bool true)], args := [d1, d2, d3] }
  | _ => none }
def fieldBackRow : OpenClaim := { program := "ytngedkiffapofaa", sum := "8a1a05f63086c962a6a577390816c03eef4ad8c4e81355fa0aee55179b11378d", func := "careen/careenlaw02.FieldBack", spec := "fieldBack", inPlace := ["internal/abi.NoEscape"], unfollowed := true, recurses := true, apart := false }
def FieldBackSaid : Prop := fieldBackRow.holds Try.pinned (OpenSpec.ofChange fieldBackSpec)

/-- ITS FALSE NEIGHBOUR: 'it returns false'. Refute it at one input. -/
def fieldBackWrong : ChangeSpec := { name := "fieldBack", fn := fun _ => fun
  | [d1, d2, d3] => { results := [.lit (.bool false)], args := [d1, d2, d3] }
  | _ => none }
def FieldBackWrongFalsely : Prop := fieldBackRow.holds Try.pinned (OpenSpec.ofChange fieldBackWrong)

/-- 'careenlaw02.FieldForth': WHATEVER THE INPUT: true; the input reads as it did. -/
def fieldForthSpec : ChangeSpec := { name := "fieldForth", fn := fun _ => fun
  | [d1, d2, d3, d4, d5] => { results := [.lit (.bool true)], args := [d1, d2, d3, d4, d5] }
  | _ => none }
def fieldForthRow : OpenClaim := { program := "ytngedkiffapofaa", sum := "8a1a05f63086c962a6a577390816c03eef4ad8c4e81355fa0aee55179b11378d", func := "careen/careenlaw02.FieldForth", spec := "fieldForth", inPlace := ["internal/abi.NoEscape"], unfollowed := true, recurses := true, apart := false }
def FieldForthSaid : Prop := fieldForthRow.holds Try.pinned (OpenSpec.ofChange fieldForthSpec)

/-- ITS FALSE NEIGHBOUR: 'it returns false'. Refute it at one input. -/
def fieldForthWrong : ChangeSpec := { name := "fieldForth", fn := fun _ => fun
  | [d1, d2, d3, d4, d5] => { results := [.lit (.bool false)], args := [d1, d2, d3, d4, d5] }
  | _ => none }
def FieldForthWrongFalsely : Prop := fieldForthRow.holds Try.pinned (OpenSpec.ofChange fieldForthWrong)

/-- 'careenlaw02.FieldCut': WHATEVER THE INPUT: true; the input reads as it did. -/
def fieldCutSpec : ChangeSpec := { name := "fieldCut", fn := fun _ => fun
  | [d1, d2, d3] => { results := [.lit (.bool true)], args := [d1, d2, d3] }
  | _ => none }
def fieldCutRow : OpenClaim := { program := "ytngedkiffapofaa", sum := "8a1a05f63086c962a6a577390816c03eef4ad8c4e81355fa0aee55179b11378d", func := "careen/careenlaw02.FieldCut", spec := "fieldCut", inPlace := ["internal/abi.NoEscape"], unfollowed := true, recurses := true, apart := false }
def FieldCutSaid : Prop := fieldCutRow.holds Try.pinned (OpenSpec.ofChange fieldCutSpec)

/-- ITS FALSE NEIGHBOUR: 'it returns false'. Refute it at one input. -/
def fieldCutWrong : ChangeSpec := { name := "fieldCut", fn := fun _ => fun
  | [d1, d2, d3] => { results := [.lit (.bool false)], args := [d1, d2, d3] }
  | _ => none }
def FieldCutWrongFalsely : Prop := fieldCutRow.holds Try.pinned (OpenSpec.ofChange fieldCutWrong)

/-- 'careenlaw02.FieldParts': WHATEVER THE INPUT: true; the input reads as it did. -/
def fieldPartsSpec : ChangeSpec := { name := "fieldParts", fn := fun _ => fun
  | [d1, d2, d3] => { results := [.lit (.bool true)], args := [d1, d2, d3] }
  | _ => none }
def fieldPartsRow : OpenClaim := { program := "ytngedkiffapofaa", sum := "8a1a05f63086c962a6a577390816c03eef4ad8c4e81355fa0aee55179b11378d", func := "careen/careenlaw02.FieldParts", spec := "fieldParts", inPlace := ["internal/abi.NoEscape"], unfollowed := true, recurses := true, apart := false }
def FieldPartsSaid : Prop := fieldPartsRow.holds Try.pinned (OpenSpec.ofChange fieldPartsSpec)

/-- ITS FALSE NEIGHBOUR: 'it returns false'. Refute it at one input. -/
def fieldPartsWrong : ChangeSpec := { name := "fieldParts", fn := fun _ => fun
  | [d1, d2, d3] => { results := [.lit (.bool false)], args := [d1, d2, d3] }
  | _ => none }
def FieldPartsWrongFalsely : Prop := fieldPartsRow.holds Try.pinned (OpenSpec.ofChange fieldPartsWrong)

/-- 'careenlaw02.FieldFinds': WHATEVER THE INPUT: true; the input reads as it did. -/
def fieldFindsSpec : ChangeSpec := { name := "fieldFinds", fn := fun _ => fun
  | [d1, d2, d3] => { results := [.lit (.bool true)], args := [d1, d2, d3] }
  | _ => none }
def fieldFindsRow : OpenClaim := { program := "ytngedkiffapofaa", sum := "8a1a05f63086c962a6a577390816c03eef4ad8c4e81355fa0aee55179b11378d", func := "careen/careenlaw02.FieldFinds", spec := "fieldFinds", inPlace := ["internal/abi.NoEscape"], unfollowed := true, recurses := true, apart := false }
def FieldFindsSaid : Prop := fieldFindsRow.holds Try.pinned (OpenSpec.ofChange fieldFindsSpec)

/-- ITS FALSE NEIGHBOUR: 'it returns false'. Refute it at one input. -/
def fieldFindsWrong : ChangeSpec := { name := "fieldFinds", fn := fun _ => fun
  | [d1, d2, d3] => { results := [.lit (.bool false)], args := [d1, d2, d3] }
  | _ => none }
def FieldFindsWrongFalsely : Prop := fieldFindsRow.holds Try.pinned (OpenSpec.ofChange fieldFindsWrong)

/-- 'careenlaw02.FieldMore': WHATEVER THE INPUT: true; the input reads as it did. -/
def fieldMoreSpec : ChangeSpec := { name := "fieldMore", fn := fun _ => fun
  | [d1, d2, d3] => { results := [.lit (.bool true)], args := [d1, d2, d3] }
  | _ => none }
def fieldMoreRow : OpenClaim := { program := "ytngedkiffapofaa", sum := "8a1a05f63086c962a6a577390816c03eef4ad8c4e81355fa0aee55179b11378d", func := "careen/careenlaw02.FieldMore", spec := "fieldMore", inPlace := ["internal/abi.NoEscape"], unfollowed := true, recurses := true, apart := false }
def FieldMoreSaid : Prop := fieldMoreRow.holds Try.pinned (OpenSpec.ofChange fieldMoreSpec)

/-- ITS FALSE NEIGHBOUR: 'it returns false'. Refute it at one input. -/
def fieldMoreWrong : ChangeSpec := { name := "fieldMore", fn := fun _ => fun
  | [d1, d2, d3] => { results := [.lit (.bool false)], args := [d1, d2, d3] }
  | _ => none }
def FieldMoreWrongFalsely : Prop := fieldMoreRow.holds Try.pinned (OpenSpec.ofChange fieldMoreWrong)

/- THE SECOND FORM. 'bulk': how many values and letters a reading holds, each counted each time it is reached (what is shared counts as often as it is met; a slice's spare places count too). A statement '..UptoSaid' is the law's where the arguments, and the package variables that the reading takes, are together of bulk at most 1048576: NARROWER than '..Said'. Prove '..Said' where nothing that the law and all that it calls make is longer than what came in: it says more and counts as full. Else prove '..UptoSaid'. A law counts once. -/
mutual
def uptoBulk {H : Type} : DataW H → Nat
  | .lit (.string bytes) => bytes.length + 1
  | .lit _ => 1
  | .nil => 1
  | .ptr d => uptoBulk d + 1
  | .slice elems spare => uptoBulkAll elems + uptoBulkAll spare + 1
  | .agg parts => uptoBulkAll parts + 1
  | .iface _ d => uptoBulk d + 1
  | .map entries => uptoBulkEntries entries + 1
  | .held _ => 1
def uptoBulkAll {H : Type} : List (DataW H) → Nat
  | [] => 0
  | d :: r => uptoBulk d + uptoBulkAll r
def uptoBulkEntries {H : Type} : List (Lit × DataW H) → Nat
  | [] => 0
  | x :: r => uptoBulkEntry x + uptoBulkEntries r
def uptoBulkEntry {H : Type} : Lit × DataW H → Nat
  | (.string bytes, d) => bytes.length + uptoBulk d + 1
  | (_, d) => uptoBulk d + 1
 end
def uptoSmall : (H : Type) → List (DataW H) → Bool := fun _ ds => decide (uptoBulkAll ds ≤ 1048576)
def OpenSpec.upto (s : _root_.Go.ChangeSpec) : _root_.Go.OpenSpec := { _root_.Go.OpenSpec.ofChange s with cond := some uptoSmall }

/-- 'careenlaw02.FieldTells', WHERE WHAT IT READS IS OF BULK AT MOST 1048576: true; the input reads as it did. -/
def fieldTellsUptoRow : OpenClaim := { program := "ytngedkiffapofaa", sum := "8a1a05f63086c962a6a577390816c03eef4ad8c4e81355fa0aee55179b11378d", func := "careen/careenlaw02.FieldTells", spec := "fieldTells", inPlace := ["internal/abi.NoEscape"], unfollowed := true, recurses := true, apart := false, narrowed := true }
def FieldTellsUptoSaid : Prop := fieldTellsUptoRow.holds Try.pinned (OpenSpec.upto fieldTellsSpec)

/-- 'careenlaw02.FieldBack', WHERE WHAT IT READS IS OF BULK AT MOST 1048576: true; the input reads as it did. -/
def fieldBackUptoRow : OpenClaim := { program := "ytngedkiffapofaa", sum := "8a1a05f63086c962a6a577390816c03eef4ad8c4e81355fa0aee55179b11378d", func := "careen/careenlaw02.FieldBack", spec := "fieldBack", inPlace := ["internal/abi.NoEscape"], unfollowed := true, recurses := true, apart := false, narrowed := true }
def FieldBackUptoSaid : Prop := fieldBackUptoRow.holds Try.pinned (OpenSpec.upto fieldBackSpec)

/-- 'careenlaw02.FieldForth', WHERE WHAT IT READS IS OF BULK AT MOST 1048576: true; the input reads as it did. -/
def fieldForthUptoRow : OpenClaim := { program := "ytngedkiffapofaa", sum := "8a1a05f63086c962a6a577390816c03eef4ad8c4e81355fa0aee55179b11378d", func := "careen/careenlaw02.FieldForth", spec := "fieldForth", inPlace := ["internal/abi.NoEscape"], unfollowed := true, recurses := true, apart := false, narrowed := true }
def FieldForthUptoSaid : Prop := fieldForthUptoRow.holds Try.pinned (OpenSpec.upto fieldForthSpec)

/-- 'careenlaw02.FieldCut', WHERE WHAT IT READS IS OF BULK AT MOST 1048576: true; the input reads as it did. -/
def fieldCutUptoRow : OpenClaim := { program := "ytngedkiffapofaa", sum := "8a1a05f63086c962a6a577390816c03eef4ad8c4e81355fa0aee55179b11378d", func := "careen/careenlaw02.FieldCut", spec := "fieldCut", inPlace := ["internal/abi.NoEscape"], unfollowed := true, recurses := true, apart := false, narrowed := true }
def FieldCutUptoSaid : Prop := fieldCutUptoRow.holds Try.pinned (OpenSpec.upto fieldCutSpec)

/-- 'careenlaw02.FieldParts', WHERE WHAT IT READS IS OF BULK AT MOST 1048576: true; the input reads as it did. -/
def fieldPartsUptoRow : OpenClaim := { program := "ytngedkiffapofaa", sum := "8a1a05f63086c962a6a577390816c03eef4ad8c4e81355fa0aee55179b11378d", func := "careen/careenlaw02.FieldParts", spec := "fieldParts", inPlace := ["internal/abi.NoEscape"], unfollowed := true, recurses := true, apart := false, narrowed := true }
def FieldPartsUptoSaid : Prop := fieldPartsUptoRow.holds Try.pinned (OpenSpec.upto fieldPartsSpec)

/-- 'careenlaw02.FieldFinds', WHERE WHAT IT READS IS OF BULK AT MOST 1048576: true; the input reads as it did. -/
def fieldFindsUptoRow : OpenClaim := { program := "ytngedkiffapofaa", sum := "8a1a05f63086c962a6a577390816c03eef4ad8c4e81355fa0aee55179b11378d", func := "careen/careenlaw02.FieldFinds", spec := "fieldFinds", inPlace := ["internal/abi.NoEscape"], unfollowed := true, recurses := true, apart := false, narrowed := true }
def FieldFindsUptoSaid : Prop := fieldFindsUptoRow.holds Try.pinned (OpenSpec.upto fieldFindsSpec)

/-- 'careenlaw02.FieldMore', WHERE WHAT IT READS IS OF BULK AT MOST 1048576: true; the input reads as it did. -/
def fieldMoreUptoRow : OpenClaim := { program := "ytngedkiffapofaa", sum := "8a1a05f63086c962a6a577390816c03eef4ad8c4e81355fa0aee55179b11378d", func := "careen/careenlaw02.FieldMore", spec := "fieldMore", inPlace := ["internal/abi.NoEscape"], unfollowed := true, recurses := true, apart := false, narrowed := true }
def FieldMoreUptoSaid : Prop := fieldMoreUptoRow.holds Try.pinned (OpenSpec.upto fieldMoreSpec)

end Rows
end Go.Proofs.Ytngedkiffapofaa

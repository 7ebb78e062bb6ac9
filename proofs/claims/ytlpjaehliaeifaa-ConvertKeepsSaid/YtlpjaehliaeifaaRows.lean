/-
  No cell of these rows narrows 'for every input' (looked for: loops, veiled, ifaces, maps, wideKeys, modest, calm, conditions, laid).
  DERIVED. THE GIVEN ROWS OF THIS SEAT. 5 by the template 'for every input the law returns true; each argument reads behind the call as it read before'; 0 by the template 'total and deterministic' (their statements: YtlpjaehliaeifaaTotals.lean).
  GIVEN WITH THE SEED: the statements are not yours to turn. If you find one false, say at which input.
  Laid BY PROGRAM, IN A SANDBOX (cutbox-rows.mjs): the forced cells as the released guide's own fill.sh prints them over the translation be5b9ae9efd58e14… (all of the seat's roots in one cut). By AI agents, Wed Nov 11 2026. No macro, syntax, notation, axiom, sorry.
-/
import Derived.Test.YtlpjaehliaeifaaChecked
import GoSem.Claim
import GoSem.ClaimJoined
import GoSem.ClaimMapViews
import Derived.JoinedTies
import Derived.KernelRfl
namespace Go.Proofs.Ytlpjaehliaeifaa
/- THE CELL 'sum', in the pinned program and in every row, IS THE sha256 OF THE DUMP (.gsa) THAT YtlpjaehliaeifaaProg.lean LOADS. Nothing in Lean hashes anything: it is a label: what it is worth is what the hold of that sum in a sandbox is worth. -/
noncomputable def Try.pinned : Pinned := { name := "ytlpjaehliaeifaa", sum := "be5b9ae9efd58e1417e52affda6adcc0f5a508011c966e837b2ca89e2ecff292", checked := Try.checked }
namespace Rows
def none {H : Type} : Left H := { results := [], args := [] }

/-- 'careenlaw04.ConvertTells': WHATEVER THE INPUT: true; the input reads as it did. -/
def convertTellsSpec : ChangeSpec := { name := "convertTells", fn := fun _ => fun
  | [d1, d2, d3, d4, d5, d6] => { results := [.lit (.bool true)], args := [d1, d2, d3, d4, d5, d6] }
  | _ => none }
def convertTellsRow : OpenClaim := { program := "ytlpjaehliaeifaa", sum := "be5b9ae9efd58e1417e52affda6adcc0f5a508011c966e837b2ca89e2ecff292", func := "careen/careenlaw04.ConvertTells", spec := "convertTells", unfollowed := true, recurses := true, apart := false }
def ConvertTellsSaid : Prop := convertTellsRow.holds Try.pinned (OpenSpec.ofChange convertTellsSpec)

/-- ITS FALSE NEIGHBOUR: 'it returns false'. Refute it at one input. -/
def convertTellsWrong : ChangeSpec := { name := "convertTells", fn := fun _ => fun
  | [d1, d2, d3, d4, d5, d6] => { results := [.lit (.bool false)], args := [d1, d2, d3, d4, d5, d6] }
  | _ => none }
def ConvertTellsWrongFalsely : Prop := convertTellsRow.holds Try.pinned (OpenSpec.ofChange convertTellsWrong)

/-- 'careenlaw04.ConvertKeeps': WHATEVER THE INPUT: true; the input reads as it did. -/
def convertKeepsSpec : ChangeSpec := { name := "convertKeeps", fn := fun _ => fun
  | [d1, d2, d3] => { results := [.lit (.bool true)], args := [d1, d2, d3] }
  | _ => none }
def convertKeepsRow : OpenClaim := { program := "ytlpjaehliaeifaa", sum := "be5b9ae9efd58e1417e52affda6adcc0f5a508011c966e837b2ca89e2ecff292", func := "careen/careenlaw04.ConvertKeeps", spec := "convertKeeps", unfollowed := true, recurses := true, apart := false }
def ConvertKeepsSaid : Prop := convertKeepsRow.holds Try.pinned (OpenSpec.ofChange convertKeepsSpec)

/-- ITS FALSE NEIGHBOUR: 'it returns false'. Refute it at one input. -/
def convertKeepsWrong : ChangeSpec := { name := "convertKeeps", fn := fun _ => fun
  | [d1, d2, d3] => { results := [.lit (.bool false)], args := [d1, d2, d3] }
  | _ => none }
def ConvertKeepsWrongFalsely : Prop := convertKeepsRow.holds Try.pinned (OpenSpec.ofChange convertKeepsWrong)

/-- 'careenlaw04.ConvertOnce': WHATEVER THE INPUT: true; the input reads as it did. -/
def convertOnceSpec : ChangeSpec := { name := "convertOnce", fn := fun _ => fun
  | [d1, d2, d3] => { results := [.lit (.bool true)], args := [d1, d2, d3] }
  | _ => none }
def convertOnceRow : OpenClaim := { program := "ytlpjaehliaeifaa", sum := "be5b9ae9efd58e1417e52affda6adcc0f5a508011c966e837b2ca89e2ecff292", func := "careen/careenlaw04.ConvertOnce", spec := "convertOnce", unfollowed := true, recurses := true, apart := false }
def ConvertOnceSaid : Prop := convertOnceRow.holds Try.pinned (OpenSpec.ofChange convertOnceSpec)

/-- ITS FALSE NEIGHBOUR: 'it returns false'. Refute it at one input. -/
def convertOnceWrong : ChangeSpec := { name := "convertOnce", fn := fun _ => fun
  | [d1, d2, d3] => { results := [.lit (.bool false)], args := [d1, d2, d3] }
  | _ => none }
def ConvertOnceWrongFalsely : Prop := convertOnceRow.holds Try.pinned (OpenSpec.ofChange convertOnceWrong)

/-- 'careenlaw04.ConvertDownUp': WHATEVER THE INPUT: true; the input reads as it did. -/
def convertDownUpSpec : ChangeSpec := { name := "convertDownUp", fn := fun _ => fun
  | [d1, d2, d3, d4] => { results := [.lit (.bool true)], args := [d1, d2, d3, d4] }
  | _ => none }
def convertDownUpRow : OpenClaim := { program := "ytlpjaehliaeifaa", sum := "be5b9ae9efd58e1417e52affda6adcc0f5a508011c966e837b2ca89e2ecff292", func := "careen/careenlaw04.ConvertDownUp", spec := "convertDownUp", inPlace := ["internal/abi.NoEscape"], unfollowed := true, recurses := true, apart := false }
def ConvertDownUpSaid : Prop := convertDownUpRow.holds Try.pinned (OpenSpec.ofChange convertDownUpSpec)

/-- ITS FALSE NEIGHBOUR: 'it returns false'. Refute it at one input. -/
def convertDownUpWrong : ChangeSpec := { name := "convertDownUp", fn := fun _ => fun
  | [d1, d2, d3, d4] => { results := [.lit (.bool false)], args := [d1, d2, d3, d4] }
  | _ => none }
def ConvertDownUpWrongFalsely : Prop := convertDownUpRow.holds Try.pinned (OpenSpec.ofChange convertDownUpWrong)

/-- 'careenlaw04.ConvertUpDown': WHATEVER THE INPUT: true; the input reads as it did. -/
def convertUpDownSpec : ChangeSpec := { name := "convertUpDown", fn := fun _ => fun
  | [d1, d2, d3, d4] => { results := [.lit (.bool true)], args := [d1, d2, d3, d4] }
  | _ => none }
def convertUpDownRow : OpenClaim := { program := "ytlpjaehliaeifaa", sum := "be5b9ae9efd58e1417e52affda6adcc0f5a508011c966e837b2ca89e2ecff292", func := "careen/careenlaw04.ConvertUpDown", spec := "convertUpDown", inPlace := ["internal/abi.NoEscape"], unfollowed := true, recurses := true, apart := false }
def ConvertUpDownSaid : Prop := convertUpDownRow.holds Try.pinned (OpenSpec.ofChange convertUpDownSpec)

/-- ITS FALSE NEIGHBOUR: 'it returns false'. Refute it at one input. -/
def convertUpDownWrong : ChangeSpec := { name := "convertUpDown", fn := fun _ => fun
  | [d1, d2, d3, d4] => { results := [.lit (.bool false)], args := [d1, d2, d3, d4] }
  | _ => none }
def ConvertUpDownWrongFalsely : Prop := convertUpDownRow.holds Try.pinned (OpenSpec.ofChange convertUpDownWrong)

/- THE SECOND FORM. 'bulk': how many values and letters a reading holds, each counted each time it is reached (what is shared counts as often as it is met; a slice's spare places count too). A statement '..UptoSaid' is the law's where the arguments, and the package variables that the reading takes, are together of bulk at most 1048576: NARROWER than '..Said'. Prove '..Said' where nothing that the law and all that it calls make is longer than what came in: it says more and counts as full. Else prove '..UptoSaid'. A law counts once. -/
mutual
def uptoBulk {H : Type} : DataW H → Nat
  | .lit (.string bytes) => bytes.length + 1
  | .lit _ => 1
  | .nil => 1
  | .ptr d => uptoBulk d + 1
  | .slice elems spare => uptoBulkAll elems + uptoBulkAll spare + 1
  | .agg parts => uptoBulkAll parts + 1
  | .iface _ d => uptoBulk d + 1
  | .map entries => uptoBulkEntries entries + 1
  | .held _ => 1
def uptoBulkAll {H : Type} : List (DataW H) → Nat
  | [] => 0
  | d :: r => uptoBulk d + uptoBulkAll r
def uptoBulkEntries {H : Type} : List (Lit × DataW H) → Nat
  | [] => 0
  | x :: r => uptoBulkEntry x + uptoBulkEntries r
def uptoBulkEntry {H : Type} : Lit × DataW H → Nat
  | (.string bytes, d) => bytes.length + uptoBulk d + 1
  | (_, d) => uptoBulk d + 1
 end
def uptoSmall : (H : Type) → List (DataW H) → Bool := fun _ ds => decide (uptoBulkAll ds ≤ 1048576)
def OpenSpec.upto (s : _root_.Go.ChangeSpec) : _root_.Go.OpenSpec := { _root_.Go.OpenSpec.ofChange s with cond := some uptoSmall }

/-- 'careenlaw04.ConvertTells', WHERE WHAT IT READS IS OF BULK AT MOST 1048576: true; the input reads as it did. -/
def convertTellsUptoRow : OpenClaim := { program := "ytlpjaehliaeifaa", sum := "be5b9ae9efd58e1417e52affda6adcc0f5a508011c966e837b2ca89e2ecff292", func := "careen/careenlaw04.ConvertTells", spec := "convertTells", unfollowed := true, recurses := true, apart := false, narrowed := true }
def ConvertTellsUptoSaid : Prop := convertTellsUptoRow.holds Try.pinned (OpenSpec.upto convertTellsSpec)

/-- 'careenlaw04.ConvertKeeps', WHERE WHAT IT READS IS OF BULK AT MOST 1048576: true; the input reads as it did. -/
def convertKeepsUptoRow : OpenClaim := { program := "ytlpjaehliaeifaa", sum := "be5b9ae9efd58e1417e52affda6adcc0f5a508011c966e837b2ca89e2ecff292", func := "careen/careenlaw04.ConvertKeeps", spec := "convertKeeps", unfollowed := true, recurses := true, apart := false, narrowed := true }
def ConvertKeepsUptoSaid : Prop := convertKeepsUptoRow.holds Try.pinned (OpenSpec.upto convertKeepsSpec)

/-- 'careenlaw04.ConvertOnce', WHERE WHAT IT READS IS OF BULK AT MOST 1048576: true; the input reads as it did. -/
def convertOnceUptoRow : OpenClaim := { program := "ytlpjaehliaeifaa", sum := "be5b9ae9efd58e1417e52affda6adcc0f5a508011c966e837b2ca89e2ecff292", func := "careen/careenlaw04.ConvertOnce", spec := "convertOnce", unfollowed := true, recurses := true, apart := false, narrowed := true }
def ConvertOnceUptoSaid : Prop := convertOnceUptoRow.holds Try.pinned (OpenSpec.upto convertOnceSpec)

/-- 'careenlaw04.ConvertDownUp', WHERE WHAT IT READS IS OF BULK AT MOST 1048576: true; the input reads as it did. -/
def convertDownUpUptoRow : OpenClaim := { program := "ytlpjaehliaeifaa", sum := "be5b9ae9efd58e1417e52affda6adcc0f5a508011c966e837b2ca89e2ecff292", func := "careen/careenlaw04.ConvertDownUp", spec := "convertDownUp", inPlace := ["internal/abi.NoEscape"], unfollowed := true, recurses := true, apart := false, narrowed := true }
def ConvertDownUpUptoSaid : Prop := convertDownUpUptoRow.holds Try.pinned (OpenSpec.upto convertDownUpSpec)

/-- 'careenlaw04.ConvertUpDown', WHERE WHAT IT READS IS OF BULK AT MOST 1048576: true; the input reads as it did. -/
def convertUpDownUptoRow : OpenClaim := { program := "ytlpjaehliaeifaa", sum := "be5b9ae9efd58e1417e52affda6adcc0f5a508011c966e837b2ca89e2ecff292", func := "careen/careenlaw04.ConvertUpDown", spec := "convertUpDown", inPlace := ["internal/abi.NoEscape"], unfollowed := true, recurses := true, apart := false, narrowed := true }
def ConvertUpDownUptoSaid : Prop := convertUpDownUptoRow.holds Try.pinned (OpenSpec.upto convertUpDownSpec)

end Rows
end Go.Proofs.Ytlpjaehliaeifaa

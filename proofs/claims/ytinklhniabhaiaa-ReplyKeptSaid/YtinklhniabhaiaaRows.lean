/-
  No cell of these rows narrows 'for every input' (looked for: loops, veiled, ifaces, maps, wideKeys, modest, calm, conditions, laid).
  DERIVED. THE GIVEN ROWS OF THIS SEAT. 4 by the template 'for every input the law returns true; each argument reads behind the call as it read before'; 0 by the template 'total and deterministic' (their statements: YtinklhniabhaiaaTotals.lean).
  GIVEN WITH THE SEED: the statements are not yours to turn. If you find one false, say at which input.
  Laid BY PROGRAM, IN A SANDBOX (cutbox-rows.mjs): the forced cells as the released guide's own fill.sh prints them over the translation e01f2a5e310f9ad6… (all of the seat's roots in one cut). By AI agents, Wed Nov 11 2026. No macro, syntax, notation, axiom, sorry.
-/
import Derived.Test.YtinklhniabhaiaaChecked
import GoSem.Claim
import GoSem.ClaimJoined
import GoSem.ClaimMapViews
import Derived.JoinedTies
import Derived.KernelRfl
namespace Go.Proofs.Ytinklhniabhaiaa
/- THE CELL 'sum', in the pinned program and in every row, IS THE sha256 OF THE DUMP (.gsa) THAT YtinklhniabhaiaaProg.lean LOADS. Nothing in Lean hashes anything: it is a label: what it is worth is what the hold of that sum in a sandbox is worth. -/
noncomputable def Try.pinned : Pinned := { name := "ytinklhniabhaiaa", sum := "e01f2a5e310f9ad6125b962fdebf322aaf1f48bebe14e0547b678e33f218230a", checked := Try.checked }
namespace Rows
def none {H : Type} : Left H := { results := [], args := [] }

/-- 'careenlaw13.ReplyKept': WHATEVER THE INPUT: true; the input reads as it did. -/
def replyKeptSpec : ChangeSpec := { name := "replyKept", fn := fun _ => fun
  | [d1, d2, d3, d4, d5] => { results := [.lit (.bool true)], args := [d1, d2, d3, d4, d5] }
  | _ => none }
def replyKeptRow : OpenClaim := { program := "ytinklhniabhaiaa", sum := "e01f2a5e310f9ad6125b962fdebf322aaf1f48bebe14e0547b678e33f218230a", func := "careen/careenlaw13.ReplyKept", spec := "replyKept", inPlace := ["slices.overlaps[careen/api.Done]"], unfollowed := true, recurses := true, apart := false }
def ReplyKeptSaid : Prop := replyKeptRow.holds Try.pinned (OpenSpec.ofChange replyKeptSpec)

/-- ITS FALSE NEIGHBOUR: 'it returns false'. Refute it at one input. -/
def replyKeptWrong : ChangeSpec := { name := "replyKept", fn := fun _ => fun
  | [d1, d2, d3, d4, d5] => { results := [.lit (.bool false)], args := [d1, d2, d3, d4, d5] }
  | _ => none }
def ReplyKeptWrongFalsely : Prop := replyKeptRow.holds Try.pinned (OpenSpec.ofChange replyKeptWrong)

/-- 'careenlaw13.ReplyOrder': WHATEVER THE INPUT: true; the input reads as it did. -/
def replyOrderSpec : ChangeSpec := { name := "replyOrder", fn := fun _ => fun
  | [d1, d2, d3, d4] => { results := [.lit (.bool true)], args := [d1, d2, d3, d4] }
  | _ => none }
def replyOrderRow : OpenClaim := { program := "ytinklhniabhaiaa", sum := "e01f2a5e310f9ad6125b962fdebf322aaf1f48bebe14e0547b678e33f218230a", func := "careen/careenlaw13.ReplyOrder", spec := "replyOrder", inPlace := ["slices.overlaps[careen/api.Done]"], unfollowed := true, recurses := true, apart := false }
def ReplyOrderSaid : Prop := replyOrderRow.holds Try.pinned (OpenSpec.ofChange replyOrderSpec)

/-- ITS FALSE NEIGHBOUR: 'it returns false'. Refute it at one input. -/
def replyOrderWrong : ChangeSpec := { name := "replyOrder", fn := fun _ => fun
  | [d1, d2, d3, d4] => { results := [.lit (.bool false)], args := [d1, d2, d3, d4] }
  | _ => none }
def ReplyOrderWrongFalsely : Prop := replyOrderRow.holds Try.pinned (OpenSpec.ofChange replyOrderWrong)

/-- 'careenlaw13.ReplyMany': WHATEVER THE INPUT: true; the input reads as it did. -/
def replyManySpec : ChangeSpec := { name := "replyMany", fn := fun _ => fun
  | [d] => { results := [.lit (.bool true)], args := [d] }
  | _ => none }
def replyManyRow : OpenClaim := { program := "ytinklhniabhaiaa", sum := "e01f2a5e310f9ad6125b962fdebf322aaf1f48bebe14e0547b678e33f218230a", func := "careen/careenlaw13.ReplyMany", spec := "replyMany", inPlace := ["slices.overlaps[careen/api.Done]"], unfollowed := true, recurses := true, apart := false }
def ReplyManySaid : Prop := replyManyRow.holds Try.pinned (OpenSpec.ofChange replyManySpec)

/-- ITS FALSE NEIGHBOUR: 'it returns false'. Refute it at one input. -/
def replyManyWrong : ChangeSpec := { name := "replyMany", fn := fun _ => fun
  | [d] => { results := [.lit (.bool false)], args := [d] }
  | _ => none }
def ReplyManyWrongFalsely : Prop := replyManyRow.holds Try.pinned (OpenSpec.ofChange replyManyWrong)

/-- 'careenlaw13.ReplyLater': WHATEVER THE INPUT: true; the input reads as it did. -/
def replyLaterSpec : ChangeSpec := { name := "replyLater", fn := fun _ => fun
  | [d] => { results := [.lit (.bool true)], args := [d] }
  | _ => none }
def replyLaterRow : OpenClaim := { program := "ytinklhniabhaiaa", sum := "e01f2a5e310f9ad6125b962fdebf322aaf1f48bebe14e0547b678e33f218230a", func := "careen/careenlaw13.ReplyLater", spec := "replyLater", inPlace := ["slices.overlaps[careen/api.Done]"], unfollowed := true, recurses := true, apart := false }
def ReplyLaterSaid : Prop := replyLaterRow.holds Try.pinned (OpenSpec.ofChange replyLaterSpec)

/-- ITS FALSE NEIGHBOUR: 'it returns false'. Refute it at one input. -/
def replyLaterWrong : ChangeSpec := { name := "replyLater", fn := fun _ => fun
  | [d] => { results := [.lit (.bool false)], args := [d] }
  | _ => none }
def ReplyLaterWrongFalsely : Prop := replyLaterRow.holds Try.pinned (OpenSpec.ofChange replyLaterWrong)

/- THE SECOND FORM. 'bulk': how many values and letters a reading holds, each counted each time it is reached (what is shared counts as often as it is met; a slice's spare places count too). A statement '..UptoSaid' is the law's where the arguments, and the package variables that the reading takes, are together of bulk at most 1048576: NARROWER than '..Said'. Prove '..Said' where nothing that the law and all that it calls make is longer than what came in: it says more and counts as full. Else prove '..UptoSaid'. A law counts once. -/
mutual
def uptoBulk {H : Type} : DataW H → Nat
  | .lit (.string bytes) => bytes.length + 1
  | .lit _ => 1
  | .nil => 1
  | .ptr d => uptoBulk d + 1
  | .slice elems spare => uptoBulkAll elems + uptoBulkAll spare + 1
  | .agg parts => uptoBulkAll parts + 1
  | .iface _ d => uptoBulk d + 1
  | .map entries => uptoBulkEntries entries + 1
  | .held _ => 1
def uptoBulkAll {H : Type} : List (DataW H) → Nat
  | [] => 0
  | d :: r => uptoBulk d + uptoBulkAll r
def uptoBulkEntries {H : Type} : List (Lit × DataW H) → Nat
  | [] => 0
  | x :: r => uptoBulkEntry x + uptoBulkEntries r
def uptoBulkEntry {H : Type} : Lit × DataW H → Nat
  | (.string bytes, d) => bytes.length + uptoBulk d + 1
  | (_, d) => uptoBulk d + 1
 end
def uptoSmall : (H : Type) → List (DataW H) → Bool := fun _ ds => decide (uptoBulkAll ds ≤ 1048576)
def OpenSpec.upto (s : _root_.Go.ChangeSpec) : _root_.Go.OpenSpec := { _root_.Go.OpenSpec.ofChange s with cond := some uptoSmall }

/-- 'careenlaw13.ReplyKept', WHERE WHAT IT READS IS OF BULK AT MOST 1048576: true; the input reads as it did. -/
def replyKeptUptoRow : OpenClaim := { program := "ytinklhniabhaiaa", sum := "e01f2a5e310f9ad6125b962fdebf322aaf1f48bebe14e0547b678e33f218230a", func := "careen/careenlaw13.ReplyKept", spec := "replyKept", inPlace := ["slices.overlaps[careen/api.Done]"], unfollowed := true, recurses := true, apart := false, narrowed := true }
def ReplyKeptUptoSaid : Prop := replyKeptUptoRow.holds Try.pinned (OpenSpec.upto replyKeptSpec)

/-- 'careenlaw13.ReplyOrder', WHERE WHAT IT READS IS OF BULK AT MOST 1048576: true; the input reads as it did. -/
def replyOrderUptoRow : OpenClaim := { program := "ytinklhniabhaiaa", sum := "e01f2a5e310f9ad6125b962fdebf322aaf1f48bebe14e0547b678e33f218230a", func := "careen/careenlaw13.ReplyOrder", spec := "replyOrder", inPlace := ["slices.overlaps[careen/api.Done]"], unfollowed := true, recurses := true, apart := false, narrowed := true }
def ReplyOrderUptoSaid : Prop := replyOrderUptoRow.holds Try.pinned (OpenSpec.upto replyOrderSpec)

/-- 'careenlaw13.ReplyMany', WHERE WHAT IT READS IS OF BULK AT MOST 1048576: true; the input reads as it did. -/
def replyManyUptoRow : OpenClaim := { program := "ytinklhniabhaiaa", sum := "e01f2a5e310f9ad6125b962fdebf322aaf1f48bebe14e0547b678e33f218230a", func := "careen/careenlaw13.ReplyMany", spec := "replyMany", inPlace := ["slices.overlaps[careen/api.Done]"], unfollowed := true, recurses := true, apart := false, narrowed := true }
def ReplyManyUptoSaid : Prop := replyManyUptoRow.holds Try.pinned (OpenSpec.upto replyManySpec)

/-- 'careenlaw13.ReplyLater', WHERE WHAT IT READS IS OF BULK AT MOST 1048576: true; the input reads as it did. -/
def replyLaterUptoRow : OpenClaim := { program := "ytinklhniabhaiaa", sum := "e01f2a5e310f9ad6125b962fdebf322aaf1f48bebe14e0547b678e33f218230a", func := "careen/careenlaw13.ReplyLater", spec := "replyLater", inPlace := ["slices.overlaps[careen/api.Done]"], unfollowed := true, recurses := true, apart := false, narrowed := true }
def ReplyLaterUptoSaid : Prop := replyLaterUptoRow.holds Try.pinned (OpenSpec.upto replyLaterSpec)

end Rows
end Go.Proofs.Ytinklhniabhaiaa

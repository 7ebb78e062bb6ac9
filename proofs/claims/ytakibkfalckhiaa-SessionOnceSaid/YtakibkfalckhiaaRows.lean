/-
  No cell of these rows narrows 'for every input' (looked for: loops, veiled, ifaces, maps, wideKeys, modest, calm, conditions, laid).
  DERIVED. THE GIVEN ROWS OF THIS SEAT. 5 by the template 'for every input the law returns true; each argument reads behind the call as it read before'; 0 by the template 'total and deterministic' (their statements: YtakibkfalckhiaaTotals.lean).
  GIVEN WITH THE SEED: the statements are not yours to turn. If you find one false, say at which input.
  Laid BY PROGRAM, IN A SANDBOX (cutbox-rows.mjs): the forced cells as the released guide's own fill.sh prints them over the translation d429492122ce5f9c… (all of the seat's roots in one cut). By AI agents, Wed Nov 11 2026. No macro, syntax, notation, axiom, sorry.
-/
import Derived.Test.YtakibkfalckhiaaChecked
import GoSem.Claim
import GoSem.ClaimJoined
import GoSem.ClaimMapViews
import Derived.JoinedTies
import Derived.KernelRfl
namespace Go.Proofs.Ytakibkfalckhiaa
/- THE CELL 'sum', in the pinned program and in every row, IS THE sha256 OF THE DUMP (.gsa) THAT YtakibkfalckhiaaProg.lean LOADS. Nothing in Lean hashes anything: it is a label: what it is worth is what the hold of that sum in a sandbox is worth. -/
noncomputable def Try.pinned : Pinned := { name := "ytakibkfalckhiaa", sum := "d429492122ce5f9c7a0443fbd0432dee59069ae52d2bd610d4db559354705f01", checked := Try.checked }
namespace Rows
def none {H : Type} : Left H := { results := [], args := [] }

/-- 'careenlaw10.SessionTells': WHATEVER THE INPUT: true; the input reads as it did. -/
def sessionTellsSpec : ChangeSpec := { name := "sessionTells", fn := fun _ => fun
  | [d1, d2, d3] => { results := [.lit (.bool true)], args := [d1, d2, d3] }
  | _ => none }
def sessionTellsRow : OpenClaim := { program := "ytakibkfalckhiaa", sum := "d429492122ce5f9c7a0443fbd0432dee59069ae52d2bd610d4db559354705f01", func := "careen/careenlaw10.SessionTells", spec := "sessionTells", inPlace := ["slices.overlaps[int]"], apart := false }
def SessionTellsSaid : Prop := sessionTellsRow.holds Try.pinned (OpenSpec.ofChange sessionTellsSpec)

/-- ITS FALSE NEIGHBOUR: 'it returns false'. Refute it at one input. -/
def sessionTellsWrong : ChangeSpec := { name := "sessionTells", fn := fun _ => fun
  | [d1, d2, d3] => { results := [.lit (.bool false)], args := [d1, d2, d3] }
  | _ => none }
def SessionTellsWrongFalsely : Prop := sessionTellsRow.holds Try.pinned (OpenSpec.ofChange sessionTellsWrong)

/-- 'careenlaw10.SessionOnce': WHATEVER THE INPUT: true; the input reads as it did. -/
def sessionOnceSpec : ChangeSpec := { name := "sessionOnce", fn := fun _ => fun
  | [d] => { results := [.lit (.bool true)], args := [d] }
  | _ => none }
def sessionOnceRow : OpenClaim := { program := "ytakibkfalckhiaa", sum := "d429492122ce5f9c7a0443fbd0432dee59069ae52d2bd610d4db559354705f01", func := "careen/careenlaw10.SessionOnce", spec := "sessionOnce", inPlace := ["slices.overlaps[int]"], apart := false }
def SessionOnceSaid : Prop := sessionOnceRow.holds Try.pinned (OpenSpec.ofChange sessionOnceSpec)

/-- ITS FALSE NEIGHBOUR: 'it returns false'. Refute it at one input. -/
def sessionOnceWrong : ChangeSpec := { name := "sessionOnce", fn := fun _ => fun
  | [d] => { results := [.lit (.bool false)], args := [d] }
  | _ => none }
def SessionOnceWrongFalsely : Prop := sessionOnceRow.holds Try.pinned (OpenSpec.ofChange sessionOnceWrong)

/-- 'careenlaw10.SessionStamps': WHATEVER THE INPUT: true; the input reads as it did. -/
def sessionStampsSpec : ChangeSpec := { name := "sessionStamps", fn := fun _ => fun
  | [d] => { results := [.lit (.bool true)], args := [d] }
  | _ => none }
def sessionStampsRow : OpenClaim := { program := "ytakibkfalckhiaa", sum := "d429492122ce5f9c7a0443fbd0432dee59069ae52d2bd610d4db559354705f01", func := "careen/careenlaw10.SessionStamps", spec := "sessionStamps", inPlace := ["slices.overlaps[int]"], apart := false }
def SessionStampsSaid : Prop := sessionStampsRow.holds Try.pinned (OpenSpec.ofChange sessionStampsSpec)

/-- ITS FALSE NEIGHBOUR: 'it returns false'. Refute it at one input. -/
def sessionStampsWrong : ChangeSpec := { name := "sessionStamps", fn := fun _ => fun
  | [d] => { results := [.lit (.bool false)], args := [d] }
  | _ => none }
def SessionStampsWrongFalsely : Prop := sessionStampsRow.holds Try.pinned (OpenSpec.ofChange sessionStampsWrong)

/-- 'careenlaw10.SessionOrder': WHATEVER THE INPUT: true; the input reads as it did. -/
def sessionOrderSpec : ChangeSpec := { name := "sessionOrder", fn := fun _ => fun
  | [d1, d2] => { results := [.lit (.bool true)], args := [d1, d2] }
  | _ => none }
def sessionOrderRow : OpenClaim := { program := "ytakibkfalckhiaa", sum := "d429492122ce5f9c7a0443fbd0432dee59069ae52d2bd610d4db559354705f01", func := "careen/careenlaw10.SessionOrder", spec := "sessionOrder", inPlace := ["slices.overlaps[int]"], apart := false }
def SessionOrderSaid : Prop := sessionOrderRow.holds Try.pinned (OpenSpec.ofChange sessionOrderSpec)

/-- ITS FALSE NEIGHBOUR: 'it returns false'. Refute it at one input. -/
def sessionOrderWrong : ChangeSpec := { name := "sessionOrder", fn := fun _ => fun
  | [d1, d2] => { results := [.lit (.bool false)], args := [d1, d2] }
  | _ => none }
def SessionOrderWrongFalsely : Prop := sessionOrderRow.holds Try.pinned (OpenSpec.ofChange sessionOrderWrong)

/-- 'careenlaw10.SessionFar': WHATEVER THE INPUT: true; the input reads as it did. -/
def sessionFarSpec : ChangeSpec := { name := "sessionFar", fn := fun _ => fun
  | [d1, d2] => { results := [.lit (.bool true)], args := [d1, d2] }
  | _ => none }
def sessionFarRow : OpenClaim := { program := "ytakibkfalckhiaa", sum := "d429492122ce5f9c7a0443fbd0432dee59069ae52d2bd610d4db559354705f01", func := "careen/careenlaw10.SessionFar", spec := "sessionFar", inPlace := ["slices.overlaps[int]"], apart := false }
def SessionFarSaid : Prop := sessionFarRow.holds Try.pinned (OpenSpec.ofChange sessionFarSpec)

/-- ITS FALSE NEIGHBOUR: 'it returns false'. Refute it at one input. -/
def sessionFarWrong : ChangeSpec := { name := "sessionFar", fn := fun _ => fun
  | [d1, d2] => { results := [.lit (.bool false)], args := [d1, d2] }
  | _ => none }
def SessionFarWrongFalsely : Prop := sessionFarRow.holds Try.pinned (OpenSpec.ofChange sessionFarWrong)

/- THE SECOND FORM. 'bulk': how many values and letters a reading holds, each counted each time it is reached (what is shared counts as often as it is met; a slice's spare places count too). A statement '..UptoSaid' is the law's where the arguments, and the package variables that the reading takes, are together of bulk at most 1048576: NARROWER than '..Said'. Prove '..Said' where nothing that the law and all that it calls make is longer than what came in: it says more and counts as full. Else prove '..UptoSaid'. A law counts once. -/
mutual
def uptoBulk {H : Type} : DataW H → Nat
  | .lit (.string bytes) => bytes.length + 1
  | .lit _ => 1
  | .nil => 1
  | .ptr d => uptoBulk d + 1
  | .slice elems spare => uptoBulkAll elems + uptoBulkAll spare + 1
  | .agg parts => uptoBulkAll parts + 1
  | .iface _ d => uptoBulk d + 1
  | .map entries => uptoBulkEntries entries + 1
  | .held _ => 1
def uptoBulkAll {H : Type} : List (DataW H) → Nat
  | [] => 0
  | d :: r => uptoBulk d + uptoBulkAll r
def uptoBulkEntries {H : Type} : List (Lit × DataW H) → Nat
  | [] => 0
  | x :: r => uptoBulkEntry x + uptoBulkEntries r
def uptoBulkEntry {H : Type} : Lit × DataW H → Nat
  | (.string bytes, d) => bytes.length + uptoBulk d + 1
  | (_, d) => uptoBulk d + 1
 end
def uptoSmall : (H : Type) → List (DataW H) → Bool := fun _ ds => decide (uptoBulkAll ds ≤ 1048576)
def OpenSpec.upto (s : _root_.Go.ChangeSpec) : _root_.Go.OpenSpec := { _root_.Go.OpenSpec.ofChange s with cond := some uptoSmall }

/-- 'careenlaw10.SessionTells', WHERE WHAT IT READS IS OF BULK AT MOST 1048576: true; the input reads as it did. -/
def sessionTellsUptoRow : OpenClaim := { program := "ytakibkfalckhiaa", sum := "d429492122ce5f9c7a0443fbd0432dee59069ae52d2bd610d4db559354705f01", func := "careen/careenlaw10.SessionTells", spec := "sessionTells", inPlace := ["slices.overlaps[int]"], apart := false, narrowed := true }
def SessionTellsUptoSaid : Prop := sessionTellsUptoRow.holds Try.pinned (OpenSpec.upto sessionTellsSpec)

/-- 'careenlaw10.SessionOnce', WHERE WHAT IT READS IS OF BULK AT MOST 1048576: true; the input reads as it did. -/
def sessionOnceUptoRow : OpenClaim := { program := "ytakibkfalckhiaa", sum := "d429492122ce5f9c7a0443fbd0432dee59069ae52d2bd610d4db559354705f01", func := "careen/careenlaw10.SessionOnce", spec := "sessionOnce", inPlace := ["slices.overlaps[int]"], apart := false, narrowed := true }
def SessionOnceUptoSaid : Prop := sessionOnceUptoRow.holds Try.pinned (OpenSpec.upto sessionOnceSpec)

/-- 'careenlaw10.SessionStamps', WHERE WHAT IT READS IS OF BULK AT MOST 1048576: true; the input reads as it did. -/
def sessionStampsUptoRow : OpenClaim := { program := "ytakibkfalckhiaa", sum := "d429492122ce5f9c7a0443fbd0432dee59069ae52d2bd610d4db559354705f01", func := "careen/careenlaw10.SessionStamps", spec := "sessionStamps", inPlace := ["slices.overlaps[int]"], apart := false, narrowed := true }
def SessionStampsUptoSaid : Prop := sessionStampsUptoRow.holds Try.pinned (OpenSpec.upto sessionStampsSpec)

/-- 'careenlaw10.SessionOrder', WHERE WHAT IT READS IS OF BULK AT MOST 1048576: true; the input reads as it did. -/
def sessionOrderUptoRow : OpenClaim := { program := "ytakibkfalckhiaa", sum := "d429492122ce5f9c7a0443fbd0432dee59069ae52d2bd610d4db559354705f01", func := "careen/careenlaw10.SessionOrder", spec := "sessionOrder", inPlace := ["slices.overlaps[int]"], apart := false, narrowed := true }
def SessionOrderUptoSaid : Prop := sessionOrderUptoRow.holds Try.pinned (OpenSpec.upto sessionOrderSpec)

/-- 'careenlaw10.SessionFar', WHERE WHAT IT READS IS OF BULK AT MOST 1048576: true; the input reads as it did. -/
def sessionFarUptoRow : OpenClaim := { program := "ytakibkfalckhiaa", sum := "d429492122ce5f9c7a0443fbd0432dee59069ae52d2bd610d4db559354705f01", func := "careen/careenlaw10.SessionFar", spec := "sessionFar", inPlace := ["slices.overlaps[int]"], apart := false, narrowed := true }
def SessionFarUptoSaid : Prop := sessionFarUptoRow.holds Try.pinned (OpenSpec.upto sessionFarSpec)

end Rows
end Go.Proofs.Ytakibkfalckhiaa

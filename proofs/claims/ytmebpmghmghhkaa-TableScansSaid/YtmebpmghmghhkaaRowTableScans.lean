/- The law TableScans holds of the given program: whatever the input, the law's function returns true and leaves its arguments as they were. No condition. -/
import Derived.Test.YtmebpmghmghhkaaAiLaw
import Derived.Test.YtmebpmghmghhkaaAiPrims
import Derived.SizedLaws
import Derived.Test.YtmebpmghmghhkaaRows
import Derived.Test.YtmebpmghmghhkaaTabFit
import Derived.Test.YtmebpmghmghhkaaLawTScans
set_option linter.unusedVariables false
namespace Go.Proofs.Ytmebpmghmghhkaa
open Go.ChangeShapes Go.WideShapes Go.ChangeAt Go.RowKit Go.Ai
theorem own : ownKnob Try.prog.godebug = none := by kernel_rfl
theorem laidOut : laidOutB Try.prog = true := by kernel_rfl
theorem walk6 (xs : List AV) (h : ArgsFit C.P 12 Try.f6.params.toList xs) : wpF C 40 6 xs [] fun r _ => r = .v (.bool true) := by
  have hp : Try.f6.params.toList = [22] := by kernel_rfl
  rw [hp] at h
  obtain ⟨a0, xs0, rfl, h0, G0⟩ := argsCons h
  obtain ⟨r0, hrl0, hr0, rfl⟩ := argRaws5 h0
  obtain rfl := argsNil G0
  exact tscans_law 40 (by omega) (r0) (hrl0) (hr0)
set_option maxRecDepth 100000 in
theorem lifted6 (os : Os) (started : os.Started) (H : Type) (enc : TypeId × Value → H) :
    ReturnsInHanded {} Try.checked os 6 .any (Rows.tableScansSpec.pre6 enc Try.prog Try.f6 Rows.tableScansRow.domain false) (Rows.tableScansSpec.post enc Try.prog Try.f6 false true false false) := by
  refine returnsInHanded_of_change_sized (C := Try.checked) own started (by kernel_rfl) Try.func6
    (ChangeSpec.witness6 (enc := enc) (C := Try.checked) false ⟨#[], #[.slice none 0 0], []⟩ 6 (by kernel_rfl) (by kernel_rfl) (by kernel_rfl) (by kernel_rfl)) ?_
  intro W base args ds gs before hval hW hcnd hsz _
  exact law_step (C := C) prims (n := 12) (tb := 4) laidOut (by kernel_rfl) rfl (fun ds hl => match ds, (hl.trans (by kernel_rfl) : ds.length = 1) with | [_], _ => ⟨rfl, rfl, rfl⟩) (by kernel_rfl) (by kernel_rfl) hval hW hsz walk6
theorem over6 : Rows.TableScansSaid :=
  OpenClaim.holds_of_wide 6 Try.f6 rfl rfl rfl rfl rfl rfl rfl ⟨rfl, rfl, rfl, rfl, rfl⟩ rfl rfl rfl rfl rfl (by kernel_rfl) Try.func6 (by kernel_rfl)
    (of_decide_eq_true (by kernel_rfl)) (by unfold Func.isWrapper; first | (rw [if_pos (by decide +kernel)]; kernel_rfl) | (rw [if_neg (by decide +kernel)]; exact ⟨rfl, rfl⟩))
    (fun os started H enc _ => lifted6 os started H enc)
end Go.Proofs.Ytmebpmghmghhkaa

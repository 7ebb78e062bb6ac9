/- The law TableFull holds of the given program: whatever the input, the law's function returns true and leaves its arguments as they were. No condition. -/
import Derived.Test.YtmebpmghmghhkaaAiLaw
import Derived.Test.YtmebpmghmghhkaaAiPrims
import Derived.SizedLaws
import Derived.Test.YtmebpmghmghhkaaRows
import Derived.Test.YtmebpmghmghhkaaTabFit
import Derived.Test.YtmebpmghmghhkaaLawTFull
set_option linter.unusedVariables false
namespace Go.Proofs.Ytmebpmghmghhkaa
open Go.ChangeShapes Go.WideShapes Go.ChangeAt Go.RowKit Go.Ai
theorem own : ownKnob Try.prog.godebug = none := by kernel_rfl
theorem laidOut : laidOutB Try.prog = true := by kernel_rfl
theorem walk7 (xs : List AV) (h : ArgsFit C.P 12 Try.f7.params.toList xs) : wpF C 40 7 xs [] fun r _ => r = .v (.bool true) := by
  have hp : Try.f7.params.toList = [3] := by kernel_rfl
  rw [hp] at h
  obtain ⟨a0, xs0, rfl, h0, G0⟩ := argsCons h
  obtain ⟨x0, hx0, rfl⟩ := argInt h0
  obtain rfl := argsNil G0
  exact tfull_law 40 (by omega) (x0) (hx0)
set_option maxRecDepth 100000 in
theorem lifted7 (os : Os) (started : os.Started) (H : Type) (enc : TypeId × Value → H) :
    ReturnsInHanded {} Try.checked os 7 .any (Rows.tableFullSpec.pre6 enc Try.prog Try.f7 Rows.tableFullRow.domain false) (Rows.tableFullSpec.post enc Try.prog Try.f7 false true false false) := by
  refine returnsInHanded_of_change_sized (C := Try.checked) own started (by kernel_rfl) Try.func7
    (ChangeSpec.witness6 (enc := enc) (C := Try.checked) false ⟨#[], #[.int .i64 0], []⟩ 7 (by kernel_rfl) (by kernel_rfl) (by kernel_rfl) (by kernel_rfl)) ?_
  intro W base args ds gs before hval hW hcnd hsz _
  exact law_step (C := C) prims (n := 12) (tb := 4) laidOut (by kernel_rfl) rfl (fun ds hl => match ds, (hl.trans (by kernel_rfl) : ds.length = 1) with | [_], _ => ⟨rfl, rfl, rfl⟩) (by kernel_rfl) (by kernel_rfl) hval hW hsz walk7
theorem over7 : Rows.TableFullSaid :=
  OpenClaim.holds_of_wide 7 Try.f7 rfl rfl rfl rfl rfl rfl rfl ⟨rfl, rfl, rfl, rfl, rfl⟩ rfl rfl rfl rfl rfl (by kernel_rfl) Try.func7 (by kernel_rfl)
    (of_decide_eq_true (by kernel_rfl)) (by unfold Func.isWrapper; first | (rw [if_pos (by decide +kernel)]; kernel_rfl) | (rw [if_neg (by decide +kernel)]; exact ⟨rfl, rfl⟩))
    (fun os started H enc _ => lifted7 os started H enc)
end Go.Proofs.Ytmebpmghmghhkaa

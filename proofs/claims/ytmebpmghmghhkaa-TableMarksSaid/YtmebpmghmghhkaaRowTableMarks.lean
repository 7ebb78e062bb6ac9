/- The law TableMarks holds of the given program: whatever the input, the law's function returns true and leaves its arguments as they were. No condition. -/
import Derived.Test.YtmebpmghmghhkaaAiLaw
import Derived.Test.YtmebpmghmghhkaaAiPrims
import Derived.SizedLaws
import Derived.Test.YtmebpmghmghhkaaRows
import Derived.Test.YtmebpmghmghhkaaTabFit
import Derived.Test.YtmebpmghmghhkaaLawTMarks
set_option linter.unusedVariables false
namespace Go.Proofs.Ytmebpmghmghhkaa
open Go.ChangeShapes Go.WideShapes Go.ChangeAt Go.RowKit Go.Ai
theorem own : ownKnob Try.prog.godebug = none := by kernel_rfl
theorem laidOut : laidOutB Try.prog = true := by kernel_rfl
theorem walk9 (xs : List AV) (h : ArgsFit C.P 12 Try.f9.params.toList xs) : wpF C 40 9 xs [] fun r _ => r = .v (.bool true) := by
  have hp : Try.f9.params.toList = [22, 3, 3] := by kernel_rfl
  rw [hp] at h
  obtain ⟨a0, xs0, rfl, h0, G0⟩ := argsCons h
  obtain ⟨r0, hrl0, hr0, rfl⟩ := argRaws5 h0
  obtain ⟨a1, xs1, rfl, h1, G1⟩ := argsCons G0
  obtain ⟨x1, hx1, rfl⟩ := argInt h1
  obtain ⟨a2, xs2, rfl, h2, G2⟩ := argsCons G1
  obtain ⟨x2, hx2, rfl⟩ := argInt h2
  obtain rfl := argsNil G2
  exact tmarks_law 40 (by omega) (r0) (hrl0) (hr0) (x1) (hx1) (x2) (hx2)
set_option maxRecDepth 100000 in
theorem lifted9 (os : Os) (started : os.Started) (H : Type) (enc : TypeId × Value → H) :
    ReturnsInHanded {} Try.checked os 9 .any (Rows.tableMarksSpec.pre6 enc Try.prog Try.f9 Rows.tableMarksRow.domain false) (Rows.tableMarksSpec.post enc Try.prog Try.f9 false true false false) := by
  refine returnsInHanded_of_change_sized (C := Try.checked) own started (by kernel_rfl) Try.func9
    (ChangeSpec.witness6 (enc := enc) (C := Try.checked) false ⟨#[], #[.slice none 0 0, .int .i64 0, .int .i64 0], []⟩ 9 (by kernel_rfl) (by kernel_rfl) (by kernel_rfl) (by kernel_rfl)) ?_
  intro W base args ds gs before hval hW hcnd hsz _
  exact law_step (C := C) prims (n := 12) (tb := 4) laidOut (by kernel_rfl) rfl (fun ds hl => match ds, (hl.trans (by kernel_rfl) : ds.length = 3) with | [_, _, _], _ => ⟨rfl, rfl, rfl⟩) (by kernel_rfl) (by kernel_rfl) hval hW hsz walk9
theorem over9 : Rows.TableMarksSaid :=
  OpenClaim.holds_of_wide 9 Try.f9 rfl rfl rfl rfl rfl rfl rfl ⟨rfl, rfl, rfl, rfl, rfl⟩ rfl rfl rfl rfl rfl (by kernel_rfl) Try.func9 (by kernel_rfl)
    (of_decide_eq_true (by kernel_rfl)) (by unfold Func.isWrapper; first | (rw [if_pos (by decide +kernel)]; kernel_rfl) | (rw [if_neg (by decide +kernel)]; exact ⟨rfl, rfl⟩))
    (fun os started H enc _ => lifted9 os started H enc)
end Go.Proofs.Ytmebpmghmghhkaa

/- The law TableOthers holds of the given program: whatever the input, the law's function returns true and leaves its arguments as they were. No condition. -/
import Derived.Test.YtmebpmghmghhkaaAiLaw
import Derived.Test.YtmebpmghmghhkaaAiPrims
import Derived.SizedLaws
import Derived.Test.YtmebpmghmghhkaaRows
import Derived.Test.YtmebpmghmghhkaaTabFit
import Derived.Test.YtmebpmghmghhkaaLawTOthers
set_option linter.unusedVariables false
namespace Go.Proofs.Ytmebpmghmghhkaa
open Go.ChangeShapes Go.WideShapes Go.ChangeAt Go.RowKit Go.Ai
theorem own : ownKnob Try.prog.godebug = none := by kernel_rfl
theorem laidOut : laidOutB Try.prog = true := by kernel_rfl
theorem walk4 (xs : List AV) (h : ArgsFit C.P 12 Try.f4.params.toList xs) : wpF C 40 4 xs [] fun r _ => r = .v (.bool true) := by
  have hp : Try.f4.params.toList = [22, 24] := by kernel_rfl
  rw [hp] at h
  obtain ⟨a0, xs0, rfl, h0, G0⟩ := argsCons h
  obtain ⟨r0, hrl0, hr0, rfl⟩ := argRaws5 h0
  obtain ⟨a1, xs1, rfl, h1, G1⟩ := argsCons G0
  obtain ⟨r1, hr1, rfl⟩ := argRaw5 h1
  obtain rfl := argsNil G1
  exact tothers_law 40 (by omega) (r0) (hrl0) (hr0) (r1) (hr1)
set_option maxRecDepth 100000 in
theorem lifted4 (os : Os) (started : os.Started) (H : Type) (enc : TypeId × Value → H) :
    ReturnsInHanded {} Try.checked os 4 .any (Rows.tableOthersSpec.pre6 enc Try.prog Try.f4 Rows.tableOthersRow.domain false) (Rows.tableOthersSpec.post enc Try.prog Try.f4 false true false false) := by
  refine returnsInHanded_of_change_sized (C := Try.checked) own started (by kernel_rfl) Try.func4
    (ChangeSpec.witness6 (enc := enc) (C := Try.checked) false ⟨#[], #[.slice none 0 0, .agg #[.int .i64 0, .int .i64 0, .int .i64 0, .int .i64 0, .int .i64 0]], []⟩ 4 (by kernel_rfl) (by kernel_rfl) (by kernel_rfl) (by kernel_rfl)) ?_
  intro W base args ds gs before hval hW hcnd hsz _
  exact law_step (C := C) prims (n := 12) (tb := 4) laidOut (by kernel_rfl) rfl (fun ds hl => match ds, (hl.trans (by kernel_rfl) : ds.length = 2) with | [_, _], _ => ⟨rfl, rfl, rfl⟩) (by kernel_rfl) (by kernel_rfl) hval hW hsz walk4
theorem over4 : Rows.TableOthersSaid :=
  OpenClaim.holds_of_wide 4 Try.f4 rfl rfl rfl rfl rfl rfl rfl ⟨rfl, rfl, rfl, rfl, rfl⟩ rfl rfl rfl rfl rfl (by kernel_rfl) Try.func4 (by kernel_rfl)
    (of_decide_eq_true (by kernel_rfl)) (by unfold Func.isWrapper; first | (rw [if_pos (by decide +kernel)]; kernel_rfl) | (rw [if_neg (by decide +kernel)]; exact ⟨rfl, rfl⟩))
    (fun os started H enc _ => lifted4 os started H enc)
end Go.Proofs.Ytmebpmghmghhkaa

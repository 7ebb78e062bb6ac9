/- The law ReplyMany holds of the given program: whatever the input, the law's function returns true and leaves its arguments as they were. No condition. -/
import Derived.Test.YtinklhniabhaiaaAiLaw
import Derived.Test.YtinklhniabhaiaaAiPrims
import Derived.SizedLaws
import Derived.Test.YtinklhniabhaiaaRows
import Derived.Test.YtinklhniabhaiaaRepFit
import Derived.Test.YtinklhniabhaiaaLawRMany
set_option linter.unusedVariables false
namespace Go.Proofs.Ytinklhniabhaiaa
open Go.ChangeShapes Go.WideShapes Go.ChangeAt Go.RowKit Go.Ai
theorem own : ownKnob Try.prog.godebug = none := by kernel_rfl
theorem laidOut : laidOutB Try.prog = true := by kernel_rfl
theorem walk5 (xs : List AV) (h : ArgsFit C.P 12 Try.f5.params.toList xs) : wpF C 40 5 xs [] fun r _ => r = .v (.bool true) := by
  have hp : Try.f5.params.toList = [42] := by kernel_rfl
  rw [hp] at h
  obtain ⟨a0, xs0, rfl, h0, G0⟩ := argsCons h
  obtain ⟨l0, hl0, hi0, rfl⟩ := argInts h0
  obtain rfl := argsNil G0
  exact rmany_law 40 (by omega) (l0) (hl0) (hi0)
set_option maxRecDepth 100000 in
theorem lifted5 (os : Os) (started : os.Started) (H : Type) (enc : TypeId × Value → H) :
    ReturnsInHanded {} Try.checked os 5 .any (Rows.replyManySpec.pre6 enc Try.prog Try.f5 Rows.replyManyRow.domain false) (Rows.replyManySpec.post enc Try.prog Try.f5 false true false false) := by
  refine returnsInHanded_of_change_sized (C := Try.checked) own started (by kernel_rfl) Try.func5
    (ChangeSpec.witness6 (enc := enc) (C := Try.checked) false ⟨#[], #[.slice none 0 0], []⟩ 5 (by kernel_rfl) (by kernel_rfl) (by kernel_rfl) (by kernel_rfl)) ?_
  intro W base args ds gs before hval hW hcnd hsz _
  exact law_step (C := C) prims (n := 12) (tb := 4) laidOut (by kernel_rfl) rfl (fun ds hl => match ds, (hl.trans (by kernel_rfl) : ds.length = 1) with | [_], _ => ⟨rfl, rfl, rfl⟩) (by kernel_rfl) (by kernel_rfl) hval hW hsz walk5
theorem over5 : Rows.ReplyManySaid :=
  OpenClaim.holds_of_wide 5 Try.f5 rfl rfl rfl rfl rfl rfl rfl ⟨rfl, rfl, rfl, rfl, rfl⟩ rfl rfl rfl rfl rfl (by kernel_rfl) Try.func5 (by kernel_rfl)
    (of_decide_eq_true (by kernel_rfl)) (by unfold Func.isWrapper; first | (rw [if_pos (by decide +kernel)]; kernel_rfl) | (rw [if_neg (by decide +kernel)]; exact ⟨rfl, rfl⟩))
    (fun os started H enc _ => lifted5 os started H enc)
end Go.Proofs.Ytinklhniabhaiaa

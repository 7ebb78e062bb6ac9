/- The law ConvertUpDown holds of the given program: whatever the input, the law's function returns true and leaves its arguments as they were. No condition. -/
import Derived.Test.YtlpjaehliaeifaaAiLaw
import Derived.Test.YtlpjaehliaeifaaAiPrims
import Derived.SizedLaws
import Derived.Test.YtlpjaehliaeifaaRows
import Derived.Test.YtlpjaehliaeifaaConvFit
import Derived.Test.YtlpjaehliaeifaaLawCUpDown
set_option linter.unusedVariables false
namespace Go.Proofs.Ytlpjaehliaeifaa
open Go.ChangeShapes Go.WideShapes Go.ChangeAt Go.RowKit Go.Ai
theorem own : ownKnob Try.prog.godebug = none := by kernel_rfl
theorem laidOut : laidOutB Try.prog = true := by kernel_rfl
theorem walk7 (xs : List AV) (h : ArgsFit C.P 12 Try.f7.params.toList xs) : wpF C 40 7 xs [] fun r _ => r = .v (.bool true) := by
  have hp : Try.f7.params.toList = [25, 26, 27, 24] := by kernel_rfl
  rw [hp] at h
  obtain ⟨a0, xs0, rfl, h0, G0⟩ := argsCons h
  obtain ⟨r0, hr0, rfl⟩ := argRaw5 h0
  obtain ⟨a1, xs1, rfl, h1, G1⟩ := argsCons G0
  obtain ⟨r1, hrl1, hr1, rfl⟩ := argRaw h1
  obtain ⟨a2, xs2, rfl, h2, G2⟩ := argsCons G1
  obtain ⟨ts2, htl2, ht2, rfl⟩ := argTexts h2
  obtain ⟨a3, xs3, rfl, h3, G3⟩ := argsCons G2
  obtain ⟨y3, hy3, rfl⟩ := argRec h3
  obtain rfl := argsNil G3
  exact cupdown_law 40 (by omega) (r0) (hr0) (r1) (hrl1) (hr1) (ts2) (htl2) (ht2) (y3) (hy3)
set_option maxRecDepth 100000 in
theorem lifted7 (os : Os) (started : os.Started) (H : Type) (enc : TypeId × Value → H) :
    ReturnsInHanded {} Try.checked os 7 .any (Rows.convertUpDownSpec.pre6 enc Try.prog Try.f7 Rows.convertUpDownRow.domain false) (Rows.convertUpDownSpec.post enc Try.prog Try.f7 false true false false) := by
  refine returnsInHanded_of_change_sized (C := Try.checked) own started (by kernel_rfl) Try.func7
    (ChangeSpec.witness6 (enc := enc) (C := Try.checked) false ⟨#[], #[.agg #[.int .i64 0, .int .i64 0, .int .i64 0, .int .i64 0, .int .i64 0], .slice none 0 0, .slice none 0 0, .agg #[.string ⟨#[]⟩, .string ⟨#[]⟩, .int .i64 0, .int .i64 0, .string ⟨#[]⟩, .slice none 0 0]], []⟩ 7 (by kernel_rfl) (by kernel_rfl) (by kernel_rfl) (by kernel_rfl)) ?_
  intro W base args ds gs before hval hW hcnd hsz _
  exact law_step (C := C) prims (n := 12) (tb := 4) laidOut (by kernel_rfl) rfl (fun ds hl => match ds, (hl.trans (by kernel_rfl) : ds.length = 4) with | [_, _, _, _], _ => ⟨rfl, rfl, rfl⟩) (by kernel_rfl) (by kernel_rfl) hval hW hsz walk7
theorem over7 : Rows.ConvertUpDownSaid :=
  OpenClaim.holds_of_wide 7 Try.f7 rfl rfl rfl rfl rfl rfl rfl ⟨rfl, rfl, rfl, rfl, rfl⟩ rfl rfl rfl rfl rfl (by kernel_rfl) Try.func7 (by kernel_rfl)
    (of_decide_eq_true (by kernel_rfl)) (by unfold Func.isWrapper; first | (rw [if_pos (by decide +kernel)]; kernel_rfl) | (rw [if_neg (by decide +kernel)]; exact ⟨rfl, rfl⟩))
    (fun os started H enc _ => lifted7 os started H enc)
end Go.Proofs.Ytlpjaehliaeifaa

/- The law TableTells holds of the given program: whatever the input, the law's function returns true and leaves its arguments as they were. No condition. -/
import Derived.Test.YtmebpmghmghhkaaAiLaw
import Derived.Test.YtmebpmghmghhkaaAiPrims
import Derived.SizedLaws
import Derived.Test.YtmebpmghmghhkaaRows
import Derived.Test.YtmebpmghmghhkaaTabFit
import Derived.Test.YtmebpmghmghhkaaLawTTells
set_option linter.unusedVariables false
namespace Go.Proofs.Ytmebpmghmghhkaa
open Go.ChangeShapes Go.WideShapes Go.ChangeAt Go.RowKit Go.Ai
theorem own : ownKnob Try.prog.godebug = none := by kernel_rfl
theorem laidOut : laidOutB Try.prog = true := by kernel_rfl
theorem walk3 (xs : List AV) (h : ArgsFit C.P 12 Try.f3.params.toList xs) : wpF C 40 3 xs [] fun r _ => r = .v (.bool true) := by
  have hp : Try.f3.params.toList = [22, 23, 24, 26, 3] := by kernel_rfl
  rw [hp] at h
  obtain ⟨a0, xs0, rfl, h0, G0⟩ := argsCons h
  obtain ⟨r0, hrl0, hr0, rfl⟩ := argRaws5 h0
  obtain ⟨a1, xs1, rfl, h1, G1⟩ := argsCons G0
  obtain ⟨y1, hy1, rfl⟩ := argRecs h1
  obtain ⟨a2, xs2, rfl, h2, G2⟩ := argsCons G1
  obtain ⟨r2, hr2, rfl⟩ := argRaw5 h2
  obtain ⟨a3, xs3, rfl, h3, G3⟩ := argsCons G2
  obtain ⟨o3, rfl⟩ := argOp h3
  obtain ⟨a4, xs4, rfl, h4, G4⟩ := argsCons G3
  obtain ⟨x4, hx4, rfl⟩ := argInt h4
  obtain rfl := argsNil G4
  exact ttells_law 40 (by omega) (r0) (hrl0) (hr0) (y1) (hy1) (r2) (hr2) (o3) (x4) (hx4)
set_option maxRecDepth 100000 in
theorem lifted3 (os : Os) (started : os.Started) (H : Type) (enc : TypeId × Value → H) :
    ReturnsInHanded {} Try.checked os 3 .any (Rows.tableTellsSpec.pre6 enc Try.prog Try.f3 Rows.tableTellsRow.domain false) (Rows.tableTellsSpec.post enc Try.prog Try.f3 false true false false) := by
  refine returnsInHanded_of_change_sized (C := Try.checked) own started (by kernel_rfl) Try.func3
    (ChangeSpec.witness6 (enc := enc) (C := Try.checked) false ⟨#[], #[.slice none 0 0, .slice none 0 0, .agg #[.int .i64 0, .int .i64 0, .int .i64 0, .int .i64 0, .int .i64 0], .agg #[.int .i64 0, .string ⟨#[]⟩, .string ⟨#[]⟩, .int .i64 0, .string ⟨#[]⟩, .int .i64 0, .string ⟨#[]⟩], .int .i64 0], []⟩ 3 (by kernel_rfl) (by kernel_rfl) (by kernel_rfl) (by kernel_rfl)) ?_
  intro W base args ds gs before hval hW hcnd hsz _
  exact law_step (C := C) prims (n := 12) (tb := 4) laidOut (by kernel_rfl) rfl (fun ds hl => match ds, (hl.trans (by kernel_rfl) : ds.length = 5) with | [_, _, _, _, _], _ => ⟨rfl, rfl, rfl⟩) (by kernel_rfl) (by kernel_rfl) hval hW hsz walk3
theorem over3 : Rows.TableTellsSaid :=
  OpenClaim.holds_of_wide 3 Try.f3 rfl rfl rfl rfl rfl rfl rfl ⟨rfl, rfl, rfl, rfl, rfl⟩ rfl rfl rfl rfl rfl (by kernel_rfl) Try.func3 (by kernel_rfl)
    (of_decide_eq_true (by kernel_rfl)) (by unfold Func.isWrapper; first | (rw [if_pos (by decide +kernel)]; kernel_rfl) | (rw [if_neg (by decide +kernel)]; exact ⟨rfl, rfl⟩))
    (fun os started H enc _ => lifted3 os started H enc)
end Go.Proofs.Ytmebpmghmghhkaa

/- All that is told by hand is so: for this seat's configuration. -/
import Derived.Test.YtejoagfpklpafaaAiFacts
import Derived.Test.YtejoagfpklpafaaAiPrimOK
import Derived.Test.YtejoagfpklpafaaAiExt
set_option linter.unusedVariables false
set_option linter.unusedSimpArgs false
namespace Go.Ai
open Go.Proofs
theorem exts : ExtOK C := by
  intro g e h H args r vs W hp σ ha hr hres
  have hg : extOf g = some e := h
  unfold extOf at hg
  split at hg

  · simp at hg
theorem prims : PrimOK C := by
  refine ⟨exts, ?_⟩
  intro g c h args H K vs W hp σ ha hr hc
  have hg : primOf g = some c := h
  unfold primOf at hg
  split at hg
  · obtain rfl := (Option.some.inj hg).symm; exact ⟨⟨_, Try.func47, rfl, by decide⟩, put_ok ha hr hc⟩
  · obtain rfl := (Option.some.inj hg).symm; exact ⟨⟨_, Try.func50, rfl, by decide⟩, string_ok ha hr hc⟩
  · obtain rfl := (Option.some.inj hg).symm; exact ⟨⟨_, Try.func62, rfl, by decide⟩, check_ok ha hr hc⟩
  · simp at hg
end Go.Ai

/- All that is told by hand is so: for this seat's configuration. -/
import Derived.Test.YtlklggododajiaaAiFacts
import Derived.Test.YtlklggododajiaaAiPrimOK
set_option linter.unusedVariables false
set_option linter.unusedSimpArgs false
namespace Go.Ai
open Go.Proofs
theorem prims : PrimOK C := by
  intro g c h args H K vs W hp σ ha hr hc
  have hg : primOf g = some c := h
  unfold primOf at hg
  split at hg
  · obtain rfl := (Option.some.inj hg).symm; exact ⟨⟨_, Try.func28, rfl, by decide⟩, put_ok ha hr hc⟩
  · obtain rfl := (Option.some.inj hg).symm; exact ⟨⟨_, Try.func32, rfl, by decide⟩, string_ok ha hr hc⟩
  · obtain rfl := (Option.some.inj hg).symm; exact ⟨⟨_, Try.func39, rfl, by decide⟩, check_ok ha hr hc⟩
  · simp at hg
end Go.Ai

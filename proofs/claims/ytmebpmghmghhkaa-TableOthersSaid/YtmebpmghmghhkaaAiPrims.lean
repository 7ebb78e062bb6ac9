/- All that is told by hand is so: for this seat's configuration. -/
import Derived.Test.YtmebpmghmghhkaaAiFacts
import Derived.Test.YtmebpmghmghhkaaAiExt
set_option linter.unusedVariables false
set_option linter.unusedSimpArgs false
namespace Go.Ai
open Go.Proofs
theorem exts : ExtOK C := by
  intro g e h H args r vs W hp σ ha hr hres
  have hg : extOf g = some e := h
  unfold extOf at hg
  split at hg
  · obtain rfl := (Option.some.inj hg).symm; exact overlaps_ok (f := 69) (tR := 4) (e := 47) Try.func69 (by kernel_rfl) (by kernel_rfl) (by kernel_rfl) (by kernel_rfl) Try.underlying23 so_47 ha hr hres
  · obtain rfl := (Option.some.inj hg).symm; exact cmp_ok (f := 74) Try.func74 (by kernel_rfl) (by kernel_rfl) (by kernel_rfl) (by kernel_rfl) ha hres
  · simp at hg
theorem prims : PrimOK C := by
  refine ⟨exts, ?_⟩
  intro g c h args H K vs W hp σ ha hr hc
  have hg : primOf g = some c := h
  unfold primOf at hg
  split at hg

  · simp at hg
end Go.Ai

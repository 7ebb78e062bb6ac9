/- Sessions: plain laws. -/
import Derived.Test.YtakibkfalckhiaaSesS
set_option linter.unusedVariables false
set_option linter.unusedSimpArgs false
namespace Go.Ai
theorem absorb_in {seen : Int} {L : List Int} (hs : L.Pairwise (· < ·)) (hb : ∀ x ∈ L, seen < x) (h : seen + 1 ∈ L) : ∃ L', L = (seen + 1) :: L' ∧ absorb seen L = absorb (seen + 1) L' := by
  cases L with
  | nil => simp at h
  | cons x L' =>
    have hx := hb x (by simp)
    have : x = seen + 1 := by
      rcases List.mem_cons.1 h with h | h
      · exact h.symm
      · have := (List.pairwise_cons.1 hs).1 _ h
        omega
    subst this
    refine ⟨L', rfl, ?_⟩
    rw [absorb, if_pos rfl]
theorem absorb_out {seen : Int} {L : List Int} (h : seen + 1 ∉ L) : absorb seen L = (seen, L) := by
  cases L with
  | nil => rfl
  | cons x L' =>
    rw [absorb, if_neg (fun he => h (by simp [he]))]
theorem pairwise_mid {l : List Int} {q : Int} (hs : l.Pairwise (· < ·)) : (l.filter (fun n => decide (n < q)) ++ q :: l.filter fun n => decide (q < n)).Pairwise (· < ·) := by
  rw [List.pairwise_append]
  refine ⟨hs.filter _, ?_, ?_⟩
  · rw [List.pairwise_cons]
    refine ⟨fun x hx => ?_, hs.filter _⟩
    simpa using (List.mem_filter.1 hx).2
  · intro a ha b hb
    have h1 : a < q := by simpa using (List.mem_filter.1 ha).2
    rcases List.mem_cons.1 hb with rfl | hb
    · exact h1
    · have h2 : q < b := by simpa using (List.mem_filter.1 hb).2
      omega
theorem mem_mid {l : List Int} {q x : Int} : x ∈ (l.filter (fun n => decide (n < q)) ++ q :: l.filter fun n => decide (q < n)) ↔ x ∈ l ++ [q] := by
  simp only [List.mem_append, List.mem_cons, List.mem_filter, decide_eq_true_eq, List.not_mem_nil, or_false]
  constructor
  · rintro (⟨h, _⟩ | h | ⟨h, _⟩)
    · exact .inl h
    · exact .inr h
    · exact .inl h
  · rintro (h | h)
    · rcases Int.lt_trichotomy x q with h1 | h1 | h1
      · exact .inl ⟨h, h1⟩
      · exact .inr (.inl h1)
      · exact .inr (.inr ⟨h, h1⟩)
    · exact .inr (.inl h)
end Go.Ai

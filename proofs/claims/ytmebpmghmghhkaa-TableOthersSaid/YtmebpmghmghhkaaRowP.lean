/- Rows into which something is inserted, plain. -/
import Derived.Test.YtmebpmghmghhkaaAiApp
set_option linter.unusedVariables false
set_option linter.unusedSimpArgs false
namespace Go.Ai
theorem put_end (xs ys : List (List AV)) : putRow xs xs.length ys = xs ++ ys := by simp [putRow]
theorem putB' (A B : List (List AV)) (b y : List AV) : (putRow (putRow (A ++ b :: B) (A.length + 1) (b :: B)) A.length [y]).take ((A ++ b :: B).length + 1) = A ++ y :: b :: B := by
  have e1 : putRow (A ++ b :: B) (A.length + 1) (b :: B) = A ++ b :: b :: B := by
    unfold putRow
    have h1 : (A ++ b :: B).take (A.length + 1) = A ++ [b] := by
      rw [List.take_length_add_append]
      rfl
    have h2 : (A ++ b :: B).drop (A.length + 1 + (b :: B).length) = [] := List.drop_eq_nil_of_le (by simp)
    rw [h1, h2]
    simp
  have e2 : putRow (A ++ b :: b :: B) A.length [y] = A ++ y :: b :: B := by
    unfold putRow
    have h1 : (A ++ b :: b :: B).take A.length = A := List.take_left
    have h2 : (A ++ b :: b :: B).drop (A.length + [y].length) = b :: B := by
      rw [List.drop_length_add_append]
      rfl
    rw [h1, h2]
    simp
  rw [e1, e2]
  exact List.take_of_length_le (by simp; omega)
theorem putA' (A B : List (List AV)) (b y z : List AV) : (putRow (putRow (A ++ List.replicate (B.length + 2) z) A.length [y]) (A.length + 1) (b :: B)).take ((A ++ b :: B).length + 1) = A ++ y :: b :: B := by
  have e1 : putRow (A ++ List.replicate (B.length + 2) z) A.length [y] = A ++ y :: List.replicate (B.length + 1) z := by
    unfold putRow
    have h1 : (A ++ List.replicate (B.length + 2) z).take A.length = A := List.take_left
    have h2 : (A ++ List.replicate (B.length + 2) z).drop (A.length + [y].length) = List.replicate (B.length + 1) z := by
      rw [List.drop_length_add_append]
      simp
    rw [h1, h2]
    simp
  have e2 : putRow (A ++ y :: List.replicate (B.length + 1) z) (A.length + 1) (b :: B) = A ++ y :: b :: B := by
    unfold putRow
    have h1 : (A ++ y :: List.replicate (B.length + 1) z).take (A.length + 1) = A ++ [y] := by
      rw [List.take_length_add_append]
      rfl
    have h2 : (A ++ y :: List.replicate (B.length + 1) z).drop (A.length + 1 + (b :: B).length) = [] := List.drop_eq_nil_of_le (by simp; omega)
    rw [h1, h2]
    simp
  rw [e1, e2]
  exact List.take_of_length_le (by simp; omega)
theorem cutAt {α : Type} {xs : List α} {i : Nat} (hi : i < xs.length) : ∃ A b B, xs = A ++ b :: B ∧ i = A.length ∧ xs.take i = A ∧ xs.drop i = b :: B := by
  obtain ⟨b, B, hB⟩ : ∃ b B, xs.drop i = b :: B := by
    cases h : xs.drop i with
    | nil => have := congrArg List.length h; simp at this; omega
    | cons b B => exact ⟨b, B, rfl⟩
  refine ⟨xs.take i, b, B, ?_, by simp; omega, rfl, hB⟩
  rw [← hB, List.take_append_drop]
theorem putB {xs : List (List AV)} {i : Nat} (y : List AV) (hi : i < xs.length) : (putRow (putRow xs (i + 1) ((xs.drop i).take (xs.length - i))) i [y]).take (xs.length + 1) = xs.take i ++ y :: xs.drop i := by
  rw [List.take_of_length_le (show (xs.drop i).length ≤ xs.length - i by simp)]
  obtain ⟨A, b, B, h1, h2, h3, h4⟩ := cutAt hi
  rw [h3, h4, h2, h1]
  exact putB' A B b y
theorem putA2 {xs : List (List AV)} {i : Nat} (y z : List AV) (hi : i < xs.length) : (putRow (putRow (xs.take i ++ List.replicate (xs.length + 1 - i) z) i [y]) (i + 1) ((xs.drop i).take (xs.length - i))).take (xs.length + 1) = xs.take i ++ y :: xs.drop i := by
  rw [List.take_of_length_le (show (xs.drop i).length ≤ xs.length - i by simp)]
  obtain ⟨A, b, B, h1, h2, h3, h4⟩ := cutAt hi
  have h5 : xs.length + 1 - i = B.length + 2 := by rw [h1, h2]; simp; omega
  rw [h5, h3, h4, h2, h1]
  exact putA' A B b y z
end Go.Ai

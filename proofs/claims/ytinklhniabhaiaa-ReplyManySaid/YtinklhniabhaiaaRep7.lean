/- Eight clients: what is kept of them. -/
import Derived.Test.YtinklhniabhaiaaRep5
set_option linter.unusedVariables false
set_option linter.unusedSimpArgs false
namespace Go.Ai
def manyL (f : Nat → Int) : Nat → List Dn
  | 0 => []
  | i + 1 => ⟨10 * (9 - (i : Int)), f i, repr (f i)⟩ :: manyL f i
theorem many_len (f : Nat → Int) : ∀ i, (manyL f i).length = i
  | 0 => rfl
  | i + 1 => by
    unfold manyL
    rw [List.length_cons, many_len f i]
theorem may_repr {n : Int} (h1 : 0 ≤ n) (h2 : n ≤ 100000) : MayP (repr n) := by
  unfold repr MayP
  exact ⟨h1, by simp only; omega, by simp, by simp, by simp, by simp, by simp⟩
theorem many_go {f : Nat → Int} (hf : ∀ i, 1 ≤ f i ∧ f i ≤ 100) : ∀ {i : Nat} {t : Int}, i ≤ 9 → t < 10 * (10 - (i : Int)) → dnGo t (manyL f i) = true
  | 0, _, _, _ => rfl
  | i + 1, t, h1, h2 => by
    unfold manyL dnGo
    simp only [Bool.and_eq_true, decide_eq_true_eq]
    have := hf i
    refine ⟨⟨?_, ?_, ?_⟩, many_go hf (by omega) ?_⟩
    · simp only
      omega
    · simp only
      exact ⟨by omega, by omega, by omega, by omega⟩
    · simp only
      exact may_repr (by omega) (by omega)
    · omega
theorem many_find {f : Nat → Int} : ∀ {i j : Nat}, findD (manyL f i) (10 * (9 - (j : Int))) = if j < i then some ⟨10 * (9 - (j : Int)), f j, repr (f j)⟩ else none
  | 0, j => by simp [manyL, findD]
  | i + 1, j => by
    have ih := many_find (f := f) (i := i) (j := j)
    unfold manyL
    unfold findD at ih ⊢
    rw [List.find?_cons]
    by_cases h : i = j
    · subst h
      simp
    · have hb : ((10 * (9 - (i : Int))) == (10 * (9 - (j : Int)))) = false := by simp; omega
      simp only [hb]
      rw [ih]
      by_cases h2 : j < i
      · rw [if_pos h2, if_pos (by omega)]
      · rw [if_neg h2, if_neg (by omega)]
theorem many_ins {f : Nat → Int} (i : Nat) : insD ⟨10 * (9 - (i : Int)), f i, repr (f i)⟩ (manyL f i) = manyL f (i + 1) := by
  cases i with
  | zero => rfl
  | succ k =>
    rw [show manyL f (k + 1 + 1) = ⟨10 * (9 - ((k + 1 : Nat) : Int)), f (k + 1), repr (f (k + 1))⟩ :: manyL f (k + 1) from rfl]
    rw [show manyL f (k + 1) = ⟨10 * (9 - (k : Int)), f k, repr (f k)⟩ :: manyL f k from rfl]
    unfold insD
    simp only
    rw [if_neg (by omega), if_neg (by omega)]
theorem many_right {f : Nat → Int} (hf : ∀ i, 1 ≤ f i ∧ f i ≤ 100) {i : Nat} (hi : i ≤ 8) : rightD (manyL f i) = true := by
  unfold rightD
  rw [many_go hf (by omega) (by omega), many_len]
  simpa using hi
theorem many_named {f : Nat → Int} (hf : ∀ i, 1 ≤ f i ∧ f i ≤ 100) {j : Nat} (hj : j ≤ 8) {k : Int} (h0 : 0 ≤ k) (h1 : k ≤ 1) : NamedP (10 * (9 - (j : Int))) (f j + k) := by
  have := hf j
  exact ⟨by omega, by omega, by omega, by omega⟩
theorem many_look {f : Nat → Int} (hf : ∀ i, 1 ≤ f i ∧ f i ≤ 100) {i j : Nat} (hi : i ≤ 8) (hj : j < i) : lookS (manyL f i) (10 * (9 - (j : Int))) (f j) = ⟨repr (f j), 0⟩ ∧ lookS (manyL f i) (10 * (9 - (j : Int))) (f j + 1) = ⟨rep0, 70⟩ := by
  have n0 := many_named hf (j := j) (by omega) (k := 0) (by omega) (by omega)
  have n1 := many_named hf (j := j) (by omega) (k := 1) (by omega) (by omega)
  rw [Int.add_zero] at n0
  unfold lookS
  rw [if_pos ⟨many_right hf hi, n0⟩, if_pos ⟨many_right hf hi, n1⟩, many_find, if_pos hj]
  simp only
  rw [if_neg (by omega), if_neg (by omega), if_pos (by omega)]
  exact ⟨rfl, rfl⟩
theorem many_keep {f : Nat → Int} (hf : ∀ i, 1 ≤ f i ∧ f i ≤ 100) {i : Nat} (hi : i ≤ 8) : keepS (manyL f i) (10 * (9 - (i : Int))) (f i) (repr (f i)) = if i < 8 then ⟨manyL f (i + 1), 0⟩ else ⟨[], 50⟩ := by
  have n0 := many_named hf (j := i) (by omega) (k := 0) (by omega) (by omega)
  rw [Int.add_zero] at n0
  have hlk : lookS (manyL f i) (10 * (9 - (i : Int))) (f i) = ⟨rep0, 70⟩ := by
    unfold lookS
    rw [if_pos ⟨many_right hf hi, n0⟩, many_find, if_neg (by omega)]
  unfold keepS
  rw [hlk, if_neg (by
    rintro (h | h | h)
    · simp at h
    · simp at h
    · exact h (may_repr (by have := hf i; omega) (by have := hf i; omega))), if_neg (by simp), many_find, many_len, if_neg (show ¬ i < i by omega), many_ins]
  by_cases h : i < 8
  · rw [if_neg (by rintro ⟨_, h2⟩; omega), if_pos h]
  · rw [if_pos ⟨rfl, by omega⟩, if_neg h]
end Go.Ai

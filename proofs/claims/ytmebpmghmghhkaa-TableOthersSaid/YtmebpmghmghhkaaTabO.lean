/- The order of texts. -/
import Derived.Test.YtmebpmghmghhkaaAiVar
set_option linter.unusedVariables false
set_option linter.unusedSimpArgs false
namespace Go.Ai
theorem cmp_self : ∀ a : List UInt8, cmpL a a = 0
  | [] => rfl
  | x :: a => by
    unfold cmpL
    rw [if_neg (UInt8.lt_irrefl x), if_neg (UInt8.lt_irrefl x), cmp_self a]
theorem u8_tri (x y : UInt8) : x < y ∨ x = y ∨ y < x := by
  rcases Nat.lt_trichotomy x.toNat y.toNat with h | h | h
  · exact .inl (UInt8.lt_iff_toNat_lt.2 h)
  · exact .inr (.inl (UInt8.toNat_inj.1 h))
  · exact .inr (.inr (UInt8.lt_iff_toNat_lt.2 h))
theorem cmp_bd : ∀ a b : List UInt8, cmpL a b = -1 ∨ cmpL a b = 0 ∨ cmpL a b = 1
  | [], [] => .inr (.inl rfl)
  | [], _ :: _ => .inl rfl
  | _ :: _, [] => .inr (.inr rfl)
  | x :: a, y :: b => by
    unfold cmpL
    split
    · exact .inl rfl
    · split
      · exact .inr (.inr rfl)
      · exact cmp_bd a b
theorem cmp_zero : ∀ {a b : List UInt8}, cmpL a b = 0 → a = b
  | [], [], _ => rfl
  | [], _ :: _, h => by simp [cmpL] at h
  | _ :: _, [], h => by simp [cmpL] at h
  | x :: a, y :: b, h => by
    unfold cmpL at h
    rcases u8_tri x y with h1 | h1 | h1
    · rw [if_pos h1] at h
      simp at h
    · subst h1
      rw [if_neg (UInt8.lt_irrefl x), if_neg (UInt8.lt_irrefl x)] at h
      rw [cmp_zero h]
    · rw [if_neg (fun hc => UInt8.lt_irrefl _ (UInt8.lt_trans h1 hc)), if_pos h1] at h
      simp at h
theorem cmp_swap : ∀ a b : List UInt8, cmpL b a = - cmpL a b
  | [], [] => rfl
  | [], _ :: _ => rfl
  | _ :: _, [] => rfl
  | x :: a, y :: b => by
    unfold cmpL
    rcases u8_tri x y with h1 | h1 | h1
    · have h2 : ¬ y < x := fun hc => UInt8.lt_irrefl _ (UInt8.lt_trans h1 hc)
      rw [if_pos h1, if_neg h2, if_pos h1]
      rfl
    · subst h1
      rw [if_neg (UInt8.lt_irrefl x), if_neg (UInt8.lt_irrefl x), if_neg (UInt8.lt_irrefl x), if_neg (UInt8.lt_irrefl x), cmp_swap a b]
    · have h2 : ¬ x < y := fun hc => UInt8.lt_irrefl _ (UInt8.lt_trans h1 hc)
      rw [if_pos h1, if_neg h2, if_pos h1]
theorem cmp_trans : ∀ {a b c : List UInt8}, cmpL a b < 0 → cmpL b c < 0 → cmpL a c < 0
  | [], [], c, h, _ => by simp [cmpL] at h
  | _ :: _, [], c, h, _ => by simp [cmpL] at h
  | a, _ :: _, [], _, h => by simp [cmpL] at h
  | [], _ :: _, _ :: _, _, _ => by simp [cmpL]
  | x :: a, y :: b, z :: c, h1, h2 => by
    unfold cmpL at h1 h2 ⊢
    rcases u8_tri x y with h3 | h3 | h3
    · rcases u8_tri y z with h4 | h4 | h4
      · rw [if_pos (UInt8.lt_trans h3 h4)]
        decide
      · subst h4
        rw [if_pos h3]
        decide
      · rw [if_neg (fun hc => UInt8.lt_irrefl _ (UInt8.lt_trans h4 hc)), if_pos h4] at h2
        simp at h2
    · subst h3
      rw [if_neg (UInt8.lt_irrefl x), if_neg (UInt8.lt_irrefl x)] at h1
      split
      · decide
      · rename_i h5
        rw [if_neg h5] at h2
        split
        · rename_i h6
          rw [if_pos h6] at h2
          simp at h2
        · rename_i h6
          rw [if_neg h6] at h2
          exact cmp_trans h1 h2
    · rw [if_neg (fun hc => UInt8.lt_irrefl _ (UInt8.lt_trans h3 hc)), if_pos h3] at h1
      simp at h1
theorem less_cmp : ∀ a b : List UInt8, Op.bytesLess a b = decide (cmpL a b < 0)
  | [], [] => rfl
  | [], _ :: _ => rfl
  | _ :: _, [] => rfl
  | x :: a, y :: b => by
    unfold Op.bytesLess cmpL
    rw [less_cmp a b]
    rcases u8_tri x y with h1 | h1 | h1
    · simp [h1]
    · subst h1
      simp [UInt8.lt_irrefl]
    · have h2 : ¬ x < y := fun hc => UInt8.lt_irrefl _ (UInt8.lt_trans h1 hc)
      have h3 : ¬ x = y := fun hc => by
        subst hc
        exact UInt8.lt_irrefl _ h1
      simp [h1, h2, h3]
end Go.Ai

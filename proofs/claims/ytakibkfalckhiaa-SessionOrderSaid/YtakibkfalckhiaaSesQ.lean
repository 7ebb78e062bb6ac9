/- Sessions: what came, plain. -/
import Derived.Test.YtakibkfalckhiaaSesP
set_option linter.unusedVariables false
set_option linter.unusedSimpArgs false
namespace Go.Ai
theorem rightG_len' : ∀ {l : List Int} {a hi : Int}, rightG a hi l = true → (l.length : Int) ≤ max 0 (hi - a)
  | [], a, hi, _ => by simp; omega
  | n :: r, a, hi, h => by
    simp only [rightG, Bool.and_eq_true, Bool.not_eq_true', Bool.or_eq_false_iff, decide_eq_false_iff_not] at h
    obtain ⟨⟨h1, h2⟩, h3⟩ := h
    have := rightG_len' h3
    simp only [List.length_cons]
    omega
theorem rightG_bd' : ∀ {l : List Int} {a hi : Int}, rightG a hi l = true → (∀ n ∈ l, a < n ∧ n ≤ hi) ∧ l.Pairwise (· < ·)
  | [], a, hi, _ => by simp
  | n :: r, a, hi, h => by
    simp only [rightG, Bool.and_eq_true, Bool.not_eq_true', Bool.or_eq_false_iff, decide_eq_false_iff_not] at h
    obtain ⟨⟨h1, h2⟩, h3⟩ := h
    obtain ⟨h4, h5⟩ := rightG_bd' h3
    refine ⟨fun x hx => ?_, ?_⟩
    · rcases List.mem_cons.1 hx with rfl | hx
      · exact ⟨by omega, by omega⟩
      · have := h4 x hx
        exact ⟨by omega, this.2⟩
    · rw [List.pairwise_cons]
      exact ⟨fun x hx => (h4 x hx).1, h5⟩
theorem rightG_of : ∀ {l : List Int} {a hi : Int}, (∀ n ∈ l, a < n ∧ n ≤ hi) → l.Pairwise (· < ·) → rightG a hi l = true
  | [], a, hi, _, _ => rfl
  | n :: r, a, hi, h, hp => by
    have h1 := h n (by simp)
    have hp2 := List.pairwise_cons.1 hp
    simp only [rightG, Bool.and_eq_true, Bool.not_eq_true', Bool.or_eq_false_iff, decide_eq_false_iff_not]
    exact ⟨⟨by omega, by omega⟩, rightG_of (fun x hx => ⟨hp2.1 x hx, (h x (by simp [hx])).2⟩) hp2.2⟩
/-- What a session that may be is. -/
theorem sright_iff {s : Ses} : sright s = true ↔ (1 ≤ s.next ∧ s.next ≤ 9007199254740992) ∧ (0 ≤ s.seen ∧ s.seen ≤ 9007199254740992) ∧ (∀ n ∈ s.ahead, s.seen + 1 < n ∧ n ≤ s.seen + 64 ∧ n ≤ 9007199254740992) ∧ s.ahead.Pairwise (· < ·) := by
  unfold sright
  rw [Bool.and_eq_true, decide_eq_true_eq]
  constructor
  · rintro ⟨⟨h1, h2, h3, h4⟩, h⟩
    obtain ⟨h5, h6⟩ := rightG_bd' h
    exact ⟨⟨h1, h2⟩, ⟨h3, h4⟩, fun n hn => by have := h5 n hn; omega, h6⟩
  · rintro ⟨⟨h1, h2⟩, ⟨h3, h4⟩, h5, h6⟩
    exact ⟨⟨h1, h2, h3, h4⟩, rightG_of (fun n hn => by have := h5 n hn; omega) h6⟩
theorem sright_len {s : Ses} (h : sright s = true) : s.ahead.length ≤ 63 := by
  unfold sright at h
  rw [Bool.and_eq_true] at h
  have := rightG_len' h.2
  omega
theorem absorb_spec : ∀ {L : List Int} {seen : Int}, L.Pairwise (· < ·) → (∀ x ∈ L, seen < x) → seen ≤ (absorb seen L).1 ∧ (absorb seen L).2.Pairwise (· < ·) ∧ (∀ x ∈ (absorb seen L).2, (absorb seen L).1 + 1 < x) ∧ ∀ x, x ∈ L ↔ (seen < x ∧ x ≤ (absorb seen L).1) ∨ x ∈ (absorb seen L).2
  | [], seen, _, _ => by simp [absorb]
  | n :: r, seen, hp, hb => by
    have hp2 := List.pairwise_cons.1 hp
    have hn := hb n (by simp)
    unfold absorb
    split
    · rename_i he
      obtain ⟨h1, h2, h3, h4⟩ := absorb_spec (seen := n) hp2.2 hp2.1
      refine ⟨by omega, h2, h3, fun x => ?_⟩
      rw [List.mem_cons, h4 x]
      constructor
      · rintro (rfl | h | h)
        · exact .inl ⟨by omega, h1⟩
        · exact .inl ⟨by omega, h.2⟩
        · exact .inr h
      · rintro (h | h)
        · by_cases hx : x = n
          · exact .inl hx
          · exact .inr (.inl ⟨by omega, h.2⟩)
        · exact .inr (.inr h)
    · rename_i he
      simp only
      refine ⟨Int.le_refl _, hp, fun x hx => ?_, fun x => ?_⟩
      · rcases List.mem_cons.1 hx with rfl | hx
        · omega
        · have := hp2.1 x hx
          omega
      · constructor
        · exact .inr
        · rintro (h | h)
          · omega
          · exact h
/-- Has a number come? -/
def came (s : Ses) (x : Int) : Prop := x ≤ s.seen ∨ x ∈ s.ahead
theorem take_came {s : Ses} {q : Int} (h : sright s = true) (h1 : 1 ≤ q) (h2 : q ≤ 9007199254740992) (h3 : q ≤ s.seen + 64) :
    (takeS' s q).e = 0 ∧ ((takeS' s q).is = true ↔ ¬ came s q) ∧ sright (takeS' s q).s = true ∧ (takeS' s q).s.next = s.next ∧ ∀ x, came (takeS' s q).s x ↔ came s x ∨ x = q := by
  obtain ⟨⟨a1, a2⟩, ⟨a3, a4⟩, a5, a6⟩ := sright_iff.1 h
  unfold takeS'
  rw [if_pos ⟨h, h1, h2⟩, if_neg (by omega)]
  by_cases h4 : q ≤ s.seen
  · rw [if_pos h4]
    refine ⟨rfl, ?_, h, rfl, fun x => ?_⟩
    · simp [came, h4]
    · constructor
      · exact .inl
      · rintro (hx | rfl)
        · exact hx
        · exact .inl h4
  · rw [if_neg h4]
    by_cases h5 : q ∈ s.ahead
    · rw [if_pos h5]
      refine ⟨rfl, ?_, h, rfl, fun x => ?_⟩
      · simp [came, h5]
      · constructor
        · exact .inl
        · rintro (hx | rfl)
          · exact hx
          · exact .inr h5
    · rw [if_neg h5]
      have hs := pairwise_mid (q := q) a6
      have hm : ∀ x, x ∈ (s.ahead.filter (fun n => decide (n < q)) ++ q :: s.ahead.filter fun n => decide (q < n)) ↔ x ∈ s.ahead ++ [q] := fun x => mem_mid
      generalize (s.ahead.filter (fun n => decide (n < q)) ++ q :: s.ahead.filter fun n => decide (q < n)) = L at hs hm
      have hlb : ∀ x ∈ L, s.seen < x ∧ x ≤ s.seen + 64 ∧ x ≤ 9007199254740992 := fun x hx => by
        rcases List.mem_append.1 ((hm x).1 hx) with hx | hx
        · have := a5 x hx
          omega
        · simp at hx
          omega
      obtain ⟨b1, b2, b3, b4⟩ := absorb_spec hs fun x hx => (hlb x hx).1
      simp only
      refine ⟨trivial, ?_, ?_, trivial, fun x => ?_⟩
      · simp only [true_iff]
        rintro (hx | hx)
        · exact h4 hx
        · exact h5 hx
      · rw [sright_iff]
        simp only
        have hup : (absorb s.seen L).1 ≤ 9007199254740992 := by
          rcases Int.lt_or_le s.seen (absorb s.seen L).1 with hx | hx
          · exact (hlb _ ((b4 _).2 (.inl ⟨hx, Int.le_refl _⟩))).2.2
          · omega
        refine ⟨⟨a1, a2⟩, ⟨by omega, hup⟩, fun n hn => ?_, b2⟩
        have c1 := hlb n ((b4 n).2 (.inr hn))
        have c2 := b3 n hn
        omega
      · unfold came
        simp only
        have := b4 x
        rw [hm x, List.mem_append, List.mem_singleton] at this
        constructor
        · rintro (hx | hx)
          · rcases Int.lt_or_le s.seen x with hy | hy
            · rcases this.2 (.inl ⟨hy, hx⟩) with hz | hz
              · exact .inl (.inr hz)
              · exact .inr hz
            · exact .inl (.inl hy)
          · rcases this.2 (.inr hx) with hz | hz
            · exact .inl (.inr hz)
            · exact .inr hz
        · rintro ((hx | hx) | hx)
          · exact .inl (by omega)
          · rcases this.1 (.inl hx) with hz | hz
            · exact .inl hz.2
            · exact .inr hz
          · rcases this.1 (.inr hx) with hz | hz
            · exact .inl hz.2
            · exact .inr hz
theorem take_right {s : Ses} {q : Int} (h : sright s = true) : sright (takeS' s q).s = true := by
  by_cases h1 : 1 ≤ q ∧ q ≤ 9007199254740992 ∧ q ≤ s.seen + 64
  · exact (take_came h h1.1 h1.2.1 h1.2.2).2.2.1
  · unfold takeS'
    split
    · rw [if_pos (by omega)]
      exact h
    · exact h
theorem take_next {s : Ses} {q : Int} : (takeS' s q).s.next = s.next := by
  unfold takeS'
  simp only
  split
  · split
    · rfl
    · split
      · rfl
      · split <;> rfl
  · rfl
theorem sorted_eq : ∀ {a b : List Int}, a.Pairwise (· < ·) → b.Pairwise (· < ·) → (∀ x, x ∈ a ↔ x ∈ b) → a = b
  | [], [], _, _, _ => rfl
  | [], y :: b, _, _, h => absurd ((h y).2 (by simp)) (by simp)
  | x :: a, [], _, _, h => absurd ((h x).1 (by simp)) (by simp)
  | x :: a, y :: b, ha, hb, h => by
    have ha2 := List.pairwise_cons.1 ha
    have hb2 := List.pairwise_cons.1 hb
    have hxy : x = y := by
      rcases List.mem_cons.1 ((h x).1 (by simp)) with h1 | h1
      · exact h1
      · rcases List.mem_cons.1 ((h y).2 (by simp)) with h2 | h2
        · exact h2.symm
        · have := hb2.1 x h1
          have := ha2.1 y h2
          omega
    subst hxy
    rw [sorted_eq ha2.2 hb2.2 fun z => ?_]
    constructor
    · intro hz
      have := ha2.1 z hz
      rcases List.mem_cons.1 ((h z).1 (by simp [hz])) with h1 | h1
      · omega
      · exact h1
    · intro hz
      have := hb2.1 z hz
      rcases List.mem_cons.1 ((h z).2 (by simp [hz])) with h1 | h1
      · omega
      · exact h1
theorem same_came {s t : Ses} (hs : sright s = true) (ht : sright t = true) (hn : s.next = t.next) (h : ∀ x, came s x ↔ came t x) : s = t := by
  obtain ⟨_, ⟨a3, a4⟩, a5, a6⟩ := sright_iff.1 hs
  obtain ⟨_, ⟨b3, b4⟩, b5, b6⟩ := sright_iff.1 ht
  have key : ∀ {s t : Ses}, (∀ n ∈ s.ahead, s.seen + 1 < n ∧ n ≤ s.seen + 64 ∧ n ≤ 9007199254740992) → (∀ x, came s x ↔ came t x) → t.seen ≤ s.seen := fun {s t} h5 h => by
    rcases Int.lt_or_le s.seen t.seen with h1 | h1
    · rcases (h (s.seen + 1)).2 (.inl (by omega)) with h2 | h2
      · omega
      · have := h5 _ h2
        omega
    · exact h1
  have e1 := key a5 h
  have e2 := key b5 fun x => (h x).symm
  have e3 : s.ahead = t.ahead := sorted_eq a6 b6 fun x => by
    constructor
    · intro hx
      rcases (h x).1 (.inr hx) with h1 | h1
      · have := a5 x hx
        omega
      · exact h1
    · intro hx
      rcases (h x).2 (.inr hx) with h1 | h1
      · have := b5 x hx
        omega
      · exact h1
  obtain ⟨n1, s1, l1⟩ := s
  obtain ⟨n2, s2, l2⟩ := t
  simp only at hn e1 e2 e3
  have : s1 = s2 := by omega
  subst hn this e3
  rfl
end Go.Ai

/- Plain laws of what is kept. -/
import Derived.Test.YtinklhniabhaiaaRep4
set_option linter.unusedVariables false
set_option linter.unusedSimpArgs false
namespace Go.Ai
/-- Something new of a client is kept. -/
theorem keep_ok {l : List Dn} {c i : Int} {r : Rep} (hr : rightD l = true) (hn : NamedP c i) (hm : MayP r) (hf : ∀ d, findD l c = some d → d.id < i) (h8 : ¬ (findD l c = none ∧ 8 ≤ l.length)) : keepS l c i r = ⟨insD ⟨c, i, r⟩ l, 0⟩ ∧ rightD (insD ⟨c, i, r⟩ l) = true := by
  have hlk : lookS l c i = ⟨rep0, 70⟩ := by
    unfold lookS
    rw [if_pos ⟨hr, hn⟩]
    cases h : findD l c with
    | none => rfl
    | some d =>
      simp only
      rw [if_pos (hf d h)]
  have h1 : keepS l c i r = ⟨insD ⟨c, i, r⟩ l, 0⟩ := by
    unfold keepS
    rw [hlk, if_neg (by
      rintro (h | h | h)
      · simp at h
      · simp at h
      · exact h hm), if_neg (by simp), if_neg h8]
  refine ⟨h1, ?_⟩
  have := keep_right (l := l) (c := c) (i := i) (r := r) (by rw [h1])
  rw [h1] at this
  exact this.1
theorem keep_full {l : List Dn} {c i : Int} {r : Rep} (hr : rightD l = true) (hn : NamedP c i) (hm : MayP r) (hf : findD l c = none) (h8 : 8 ≤ l.length) : keepS l c i r = ⟨[], 50⟩ := by
  have hlk : lookS l c i = ⟨rep0, 70⟩ := by
    unfold lookS
    rw [if_pos ⟨hr, hn⟩, hf]
  unfold keepS
  rw [hlk, if_neg (by
    rintro (h | h | h)
    · simp at h
    · simp at h
    · exact h hm), if_neg (by simp), if_pos ⟨hf, h8⟩]
theorem look_some {l : List Dn} {c i : Int} {d : Dn} (hr : rightD l = true) (hn : NamedP c i) (hf : findD l c = some d) : lookS l c i = if d.id < i then ⟨rep0, 70⟩ else if i < d.id then ⟨rep0, 81⟩ else ⟨d.rep, 0⟩ := by
  unfold lookS
  rw [if_pos ⟨hr, hn⟩, hf]
theorem ins_lens {d : Dn} {l : List Dn} (hr : rightD l = true) : (findD l d.client = none → (insD d l).length ≤ l.length + 1) ∧ ((findD l d.client).isSome = true → (insD d l).length = l.length) := by
  have hgo : dnGo 0 l = true := by
    unfold rightD at hr
    simp only [Bool.and_eq_true] at hr
    exact hr.1
  exact ⟨(ins_len (d := d) (l := l)).1, fun h => (ins_len (d := d) (l := l)).2 h (dnGo_pw hgo).1⟩
theorem i_lt {d z : Dn} {l : List Dn} (h : z.client < d.client) : insD d (z :: l) = z :: insD d l := if_pos h
theorem i_eq {d z : Dn} {l : List Dn} (h : z.client = d.client) : insD d (z :: l) = d :: l := by
  conv => lhs; unfold insD
  rw [if_neg (by omega), if_pos h]
theorem i_gt {d z : Dn} {l : List Dn} (h : d.client < z.client) : insD d (z :: l) = d :: z :: l := by
  conv => lhs; unfold insD
  rw [if_neg (by omega), if_neg (by omega)]
theorem i_nil {d : Dn} : insD d [] = [d] := rfl
/-- In either order. -/
theorem ins_comm {x y : Dn} (h : x.client ≠ y.client) : ∀ {l : List Dn}, insD x (insD y l) = insD y (insD x l)
  | [] => by
    rw [i_nil, i_nil]
    rcases Int.lt_or_gt_of_ne h with h1 | h1
    · rw [i_gt h1, i_lt h1, i_nil]
    · rw [i_lt h1, i_gt h1, i_nil]
  | z :: l => by
    have ih := ins_comm h (l := l)
    rcases Int.lt_trichotomy z.client x.client with hx | hx | hx
    · rcases Int.lt_trichotomy z.client y.client with hy | hy | hy
      · rw [i_lt hy, i_lt hx, i_lt hx, i_lt hy, ih]
      · rw [i_eq hy, i_lt hx, i_lt (by omega), i_eq hy]
      · rw [i_gt hy, i_lt hx, i_lt (by omega), i_lt hx, i_gt hy]
    · rcases Int.lt_trichotomy z.client y.client with hy | hy | hy
      · rw [i_lt hy, i_eq hx, i_eq hx, i_lt (by omega)]
      · omega
      · rw [i_gt hy, i_eq hx, i_lt (by omega), i_eq hx, i_gt (by omega)]
    · rcases Int.lt_trichotomy z.client y.client with hy | hy | hy
      · rw [i_lt hy, i_gt hx, i_gt hx, i_lt (by omega), i_lt hy]
      · rw [i_eq hy, i_gt hx, i_gt (by omega), i_lt (by omega), i_eq hy]
      · rw [i_gt hy, i_gt hx]
        rcases Int.lt_or_gt_of_ne h with h1 | h1
        · rw [i_gt h1, i_lt h1, i_gt hy]
        · rw [i_lt h1, i_gt hx, i_gt h1]
theorem right_len {l : List Dn} (h : rightD l = true) : l.length ≤ 8 := by
  unfold rightD at h
  simp only [Bool.and_eq_true, decide_eq_true_eq] at h
  exact h.2
end Go.Ai

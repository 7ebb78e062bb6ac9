/- Messages: plain laws. -/
import Derived.Test.YtlklggododajiaaWireS
set_option linter.unusedVariables false
set_option linter.unusedSimpArgs false
namespace Go.Ai
theorem whole_put {n : Int} (h0 : 0 ≤ n) (h1 : n ≤ 9007199254740992) : wholeS (putF 8 n.toNat) = n := by
  have h := takeS_put (n := n.toNat) (by omega) []
  rw [List.append_nil] at h
  unfold wholeS
  rw [h]
  rw [if_pos ⟨rfl, rfl⟩]
  simp only
  omega
theorem whole_of {d : List UInt8} (h : wholeS d ≠ 0) : d = putF 8 (wholeS d).toNat ∧ 0 < wholeS d ∧ wholeS d ≤ 9007199254740992 := by
  unfold wholeS at h ⊢
  split at h
  · rename_i hc
    rw [if_pos hc]
    have hk := takeS_ok hc.1
    have h1 := hk.1
    rw [hc.2, List.take_length] at h1
    refine ⟨by simpa using h1, by omega, by omega⟩
  · exact absurd rfl h
/-- All that has a greater tag is still nothing. -/
def zeroA (t : Int) (x : Msg) : Prop := (t < 1 → x.kind = 0) ∧ (t < 2 → x.frm = 0) ∧ (t < 3 → x.to = 0) ∧ (t < 4 → x.seq = 0) ∧ (t < 5 → x.body = []) ∧ (t < 6 → x.trace = 0)
theorem setM_fields {t : Int} {x y : Msg} {f : Fld} (hz : zeroA t x) (hf : t < f.1) (h : setM x f = some y) : fieldsM y = fieldsM x ++ [f] ∧ zeroA f.1 y := by
  obtain ⟨tag, d⟩ := f
  obtain ⟨z1, z2, z3, z4, z5, z6⟩ := hz
  simp only at hf
  unfold setM at h
  simp only at h
  split at h
  · rename_i h5
    subst h5
    split at h
    · simp at h
    · rename_i hd
      simp only [Option.some.injEq] at h
      subst h
      have e5 := z5 hf
      have e6 := z6 (by omega)
      refine ⟨?_, ?_⟩
      · simp [fieldsM, numF, bodyF, e5, e6, hd]
      · refine ⟨?_, ?_, ?_, ?_, ?_, ?_⟩ <;> simp <;> omega
  · split at h
    · simp at h
    · rename_i hw
      obtain ⟨w1, w2, w3⟩ := whole_of hw
      split at h
      · rename_i ht
        simp only [Option.some.injEq] at h
        subst ht; subst h
        refine ⟨?_, fun h => absurd h (by simp), fun _ => z2 (by omega), fun _ => z3 (by omega), fun _ => z4 (by omega), fun _ => z5 (by omega), fun _ => z6 (by omega)⟩
        simp [fieldsM, numF, bodyF, z1 (by omega), z2 (by omega), z3 (by omega), z4 (by omega), z5 (by omega), z6 (by omega), hw, ← w1]
      split at h
      · rename_i ht
        simp only [Option.some.injEq] at h
        subst ht; subst h
        refine ⟨?_, fun h => absurd h (by simp), fun h => absurd h (by simp), fun _ => z3 (by omega), fun _ => z4 (by omega), fun _ => z5 (by omega), fun _ => z6 (by omega)⟩
        simp [fieldsM, numF, bodyF, z2 (by omega), z3 (by omega), z4 (by omega), z5 (by omega), z6 (by omega), hw, ← w1]
      split at h
      · rename_i ht
        simp only [Option.some.injEq] at h
        subst ht; subst h
        refine ⟨?_, fun h => absurd h (by simp), fun h => absurd h (by simp), fun h => absurd h (by simp), fun _ => z4 (by omega), fun _ => z5 (by omega), fun _ => z6 (by omega)⟩
        simp [fieldsM, numF, bodyF, z3 (by omega), z4 (by omega), z5 (by omega), z6 (by omega), hw, ← w1]
      split at h
      · rename_i ht
        simp only [Option.some.injEq] at h
        subst ht; subst h
        refine ⟨?_, fun h => absurd h (by simp), fun h => absurd h (by simp), fun h => absurd h (by simp), fun h => absurd h (by simp), fun _ => z5 (by omega), fun _ => z6 (by omega)⟩
        simp [fieldsM, numF, bodyF, z4 (by omega), z5 (by omega), z6 (by omega), hw, ← w1]
      split at h
      · rename_i ht
        simp only [Option.some.injEq] at h
        subst ht; subst h
        refine ⟨?_, fun h => absurd h (by simp), fun h => absurd h (by simp), fun h => absurd h (by simp), fun h => absurd h (by simp), fun h => absurd h (by simp), fun h => absurd h (by simp)⟩
        simp [fieldsM, numF, bodyF, z6 (by omega), hw, ← w1]
      · simp at h
theorem setsM_fields : ∀ {l : List Fld} {t : Int} {x y : Msg}, zeroA t x → rightGo t l = true → setsM x l = some y → fieldsM y = fieldsM x ++ l
  | [], t, x, y, _, _, h => by
    simp only [setsM, Option.some.injEq] at h
    subst h
    simp
  | f :: r, t, x, y, hz, hr, h => by
    simp only [rightGo, Bool.and_eq_true, Bool.not_eq_true', Bool.or_eq_false_iff, decide_eq_false_iff_not] at hr
    obtain ⟨⟨⟨h1, h2⟩, h3⟩, h4⟩ := hr
    rw [setsM] at h
    cases hs : setM x f with
    | none => rw [hs] at h; simp at h
    | some z =>
      rw [hs] at h
      obtain ⟨e1, e2⟩ := setM_fields hz (by omega) hs
      rw [setsM_fields e2 h4 h, e1]
      simp
theorem setsM_append : ∀ (a b : List Fld) (x y : Msg), setsM x a = some y → setsM x (a ++ b) = setsM y b
  | [], b, x, y, h => by
    simp only [setsM, Option.some.injEq] at h
    subst h
    rfl
  | f :: a, b, x, y, h => by
    rw [setsM] at h
    rw [List.cons_append, setsM]
    cases hs : setM x f with
    | none => rw [hs] at h; simp at h
    | some z =>
      rw [hs] at h
      exact setsM_append a b z y h
theorem zero_put {n : Int} (h0 : 0 ≤ n) (h1 : n ≤ 9007199254740992) (hn : n ≠ 0) : wholeS (putF 8 n.toNat) ≠ 0 := by
  rw [whole_put h0 h1]
  exact hn
theorem setsM_n1 {x : Msg} {n : Int} (hx : x.kind = 0) (h0 : 0 ≤ n) (h1 : n ≤ 9007199254740992) : setsM x (numF 1 n) = some { x with kind := n } := by
  unfold numF
  split
  · rename_i h
    subst h
    simp only [setsM, Option.some.injEq]
    rw [← hx]
  · rename_i hn
    have hw := zero_put h0 h1 hn
    have he : setM x (1, putF 8 n.toNat) = some { x with kind := n } := by
      unfold setM
      rw [if_neg (show ¬ (1 : Int) = 5 by decide), if_neg hw]
      simp [whole_put h0 h1]
    rw [setsM, he]
    rfl
theorem setsM_n2 {x : Msg} {n : Int} (hx : x.frm = 0) (h0 : 0 ≤ n) (h1 : n ≤ 9007199254740992) : setsM x (numF 2 n) = some { x with frm := n } := by
  unfold numF
  split
  · rename_i h
    subst h
    simp only [setsM, Option.some.injEq]
    rw [← hx]
  · rename_i hn
    have hw := zero_put h0 h1 hn
    have he : setM x (2, putF 8 n.toNat) = some { x with frm := n } := by
      unfold setM
      rw [if_neg (show ¬ (2 : Int) = 5 by decide), if_neg hw]
      simp [whole_put h0 h1]
    rw [setsM, he]
    rfl
theorem setsM_n3 {x : Msg} {n : Int} (hx : x.to = 0) (h0 : 0 ≤ n) (h1 : n ≤ 9007199254740992) : setsM x (numF 3 n) = some { x with to := n } := by
  unfold numF
  split
  · rename_i h
    subst h
    simp only [setsM, Option.some.injEq]
    rw [← hx]
  · rename_i hn
    have hw := zero_put h0 h1 hn
    have he : setM x (3, putF 8 n.toNat) = some { x with to := n } := by
      unfold setM
      rw [if_neg (show ¬ (3 : Int) = 5 by decide), if_neg hw]
      simp [whole_put h0 h1]
    rw [setsM, he]
    rfl
theorem setsM_n4 {x : Msg} {n : Int} (hx : x.seq = 0) (h0 : 0 ≤ n) (h1 : n ≤ 9007199254740992) : setsM x (numF 4 n) = some { x with seq := n } := by
  unfold numF
  split
  · rename_i h
    subst h
    simp only [setsM, Option.some.injEq]
    rw [← hx]
  · rename_i hn
    have hw := zero_put h0 h1 hn
    have he : setM x (4, putF 8 n.toNat) = some { x with seq := n } := by
      unfold setM
      rw [if_neg (show ¬ (4 : Int) = 5 by decide), if_neg hw]
      simp [whole_put h0 h1]
    rw [setsM, he]
    rfl
theorem setsM_n6 {x : Msg} {n : Int} (hx : x.trace = 0) (h0 : 0 ≤ n) (h1 : n ≤ 9007199254740992) : setsM x (numF 6 n) = some { x with trace := n } := by
  unfold numF
  split
  · rename_i h
    subst h
    simp only [setsM, Option.some.injEq]
    rw [← hx]
  · rename_i hn
    have hw := zero_put h0 h1 hn
    have he : setM x (6, putF 8 n.toNat) = some { x with trace := n } := by
      unfold setM
      rw [if_neg (show ¬ (6 : Int) = 5 by decide), if_neg hw]
      simp [whole_put h0 h1]
    rw [setsM, he]
    rfl
theorem setsM_body {x : Msg} {b : List UInt8} (hx : x.body = []) : setsM x (bodyF b) = some { x with body := b } := by
  unfold bodyF
  split
  · rename_i h
    subst h
    simp only [setsM, Option.some.injEq]
    rw [← hx]
  · rename_i hn
    have he : setM x (5, b) = some { x with body := b } := by
      unfold setM
      rw [if_pos rfl, if_neg hn]
    rw [setsM, he]
    rfl
theorem setsM_all {x : Msg} (h : 0 ≤ x.kind ∧ x.kind ≤ 9007199254740992 ∧ 0 ≤ x.frm ∧ x.frm ≤ 9007199254740992 ∧ 0 ≤ x.to ∧ x.to ≤ 9007199254740992 ∧ 0 ≤ x.seq ∧ x.seq ≤ 9007199254740992 ∧ 0 ≤ x.trace ∧ x.trace ≤ 9007199254740992) : setsM msg0 (fieldsM x) = some x := by
  obtain ⟨a0, a1, b0, b1, c0, c1, d0, d1, e0, e1⟩ := h
  unfold fieldsM
  have s1 := setsM_n1 (x := msg0) rfl a0 a1
  have s2 := setsM_n2 (x := { msg0 with kind := x.kind }) rfl b0 b1
  have s3 := setsM_n3 (x := { msg0 with kind := x.kind, frm := x.frm }) rfl c0 c1
  have s4 := setsM_n4 (x := { msg0 with kind := x.kind, frm := x.frm, to := x.to }) rfl d0 d1
  have s5 := setsM_body (x := { msg0 with kind := x.kind, frm := x.frm, to := x.to, seq := x.seq }) (b := x.body) rfl
  have s6 := setsM_n6 (x := { msg0 with kind := x.kind, frm := x.frm, to := x.to, seq := x.seq, body := x.body }) rfl e0 e1
  rw [List.append_assoc, List.append_assoc, List.append_assoc, List.append_assoc, setsM_append _ _ _ _ s1, setsM_append _ _ _ _ s2, setsM_append _ _ _ _ s3, setsM_append _ _ _ _ s4, setsM_append _ _ _ _ s5, s6]
end Go.Ai

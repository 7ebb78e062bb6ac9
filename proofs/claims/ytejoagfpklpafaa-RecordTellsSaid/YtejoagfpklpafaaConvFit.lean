/- What is handed in to the laws of records: five numbers, records. -/
import Derived.Test.YtejoagfpklpafaaFieldFit
import Derived.Test.YtejoagfpklpafaaRecS
set_option linter.unusedVariables false
set_option linter.unusedSimpArgs false
set_option maxRecDepth 100000
namespace Go.Ai
open Go.Proofs
structure R5 where
  a : Int
  b : Int
  c : Int
  d : Int
  e : Int
def r5w (r : R5) : List AV := [.v (.int .i64 r.a), .v (.int .i64 r.b), .v (.int .i64 r.c), .v (.int .i64 r.d), .v (.int .i64 r.e)]
def r5k (r : R5) : Prop := i64ok r.a ∧ i64ok r.b ∧ i64ok r.c ∧ i64ok r.d ∧ i64ok r.e
theorem len_reach24 {n b : Nat} (h : n * b ≤ reachBytes) : n * b ≤ 140737488351232 := by
  rw [reach_eq] at h
  exact h
theorem fitRaw5 {n : Nat} {cs : List AV} (h : Fit Try.prog (n + 2) 25 cs) : ∃ r : R5, r5k r ∧ cs = r5w r := by
  simp only [Fit, Try.underlying25] at h
  obtain ⟨ps, hl, hp, rfl⟩ := h
  match ps, hl with
  | [a, b, c, d, e], _ =>
    obtain ⟨x1, h1, rfl⟩ := fitInt (n := n) (hp a (by simp)).2
    obtain ⟨x2, h2, rfl⟩ := fitInt (n := n) (hp b (by simp)).2
    obtain ⟨x3, h3, rfl⟩ := fitInt (n := n) (hp c (by simp)).2
    obtain ⟨x4, h4, rfl⟩ := fitInt (n := n) (hp d (by simp)).2
    obtain ⟨x5, h5, rfl⟩ := fitInt (n := n) (hp e (by simp)).2
    exact ⟨⟨x1, x2, x3, x4, x5⟩, ⟨h1, h2, h3, h4, h5⟩, rfl⟩
theorem fitFields24 {n : Nat} {cs : List AV} (h : Fit Try.prog (n + 3) 22 cs) : ∃ l : List Fld, l.length * 24 ≤ 140737488351232 ∧ cs = [.lst 2 (l.map fv)] := by
  simp only [Fit, Try.underlying22] at h
  obtain ⟨ys, _, hl, hy, rfl⟩ := h
  obtain ⟨xs, rfl, hx⟩ := map_of (f := fv) fun y h => fitField (n := n) (hy y h)
  rw [sz_46]
  rw [List.length_map] at hl
  have hb : 24 = Try.prog.bytesOf 46 := by kernel_rfl
  rw [← hb] at hl
  exact ⟨xs, len_reach24 hl, rfl⟩
/-- A record that may be handed in. -/
def recok (r : Rec) : Prop := r.extra.length * 24 ≤ 140737488351232
theorem fitRec {n : Nat} {cs : List AV} (h : Fit Try.prog (n + 4) 24 cs) : ∃ r : Rec, recok r ∧ cs = rcv r := by
  have hu : Try.prog.underlying 24 = _ := Try.underlying24
  unfold Fit at h
  rw [hu] at h
  simp only [FitFs] at h
  obtain ⟨a1, b1, rfl, _, h1, a2, b2, rfl, _, h2, a3, b3, rfl, _, h3, a4, b4, rfl, _, h4, a5, b5, rfl, _, h5, a6, b6, rfl, _, h6, rfl⟩ := h
  obtain ⟨k, hk, rfl⟩ := fitStr (n := n + 2) h1
  obtain ⟨v, hv, rfl⟩ := fitStr (n := n + 2) h2
  obtain ⟨x3, _, rfl⟩ := fitInt (n := n + 2) h3
  obtain ⟨x4, _, rfl⟩ := fitInt (n := n + 2) h4
  obtain ⟨s, hs, rfl⟩ := fitStr (n := n + 2) h5
  obtain ⟨l, hl, rfl⟩ := fitFields24 (n := n) h6
  exact ⟨⟨k, v, x3, x4, s, l⟩, hl, rfl⟩
theorem argRaw5 {a : AV} (h : ArgFit Try.prog 12 25 a) : ∃ r : R5, r5k r ∧ a = .agg (r5w r) := by
  simp only [ArgFit, ag_25] at h
  obtain ⟨cs, rfl, h⟩ := h
  obtain ⟨r, hr, rfl⟩ := fitRaw5 (n := 10) h
  exact ⟨r, hr, rfl⟩
theorem argRec {a : AV} (h : ArgFit Try.prog 12 24 a) : ∃ r : Rec, recok r ∧ a = .agg (rcv r) := by
  simp only [ArgFit, ag_24] at h
  obtain ⟨cs, rfl, h⟩ := h
  obtain ⟨r, hr, rfl⟩ := fitRec (n := 8) h
  exact ⟨r, hr, rfl⟩
end Go.Ai

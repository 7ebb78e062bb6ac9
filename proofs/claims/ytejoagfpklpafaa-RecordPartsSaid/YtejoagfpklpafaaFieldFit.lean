/- What is handed in to the laws of this seat: numbers, texts, fields. -/
import Derived.Test.YtejoagfpklpafaaAiLaw
import Derived.Test.YtejoagfpklpafaaFieldS
import Derived.Test.YtejoagfpklpafaaAiFacts
set_option linter.unusedVariables false
set_option linter.unusedSimpArgs false
set_option maxRecDepth 100000
namespace Go.Ai
open Go.Proofs
theorem reach_eq : reachBytes = 140737488351232 := by decide
theorem len_reach {n b : Nat} (hb : 0 < b) (h : n * b ≤ reachBytes) : n ≤ 140737488351232 := by
  rw [reach_eq] at h
  exact Nat.le_trans (Nat.le_mul_of_pos_right _ hb) h
theorem map_of {α : Type} {f : α → List AV} {Q : α → Prop} : ∀ {ys : List (List AV)}, (∀ y ∈ ys, ∃ x, Q x ∧ y = f x) → ∃ xs : List α, ys = xs.map f ∧ ∀ x ∈ xs, Q x
  | [], _ => ⟨[], rfl, by simp⟩
  | y :: ys, h => by
    obtain ⟨x, hx, rfl⟩ := h y (List.mem_cons_self ..)
    obtain ⟨xs, rfl, h2⟩ := map_of fun z hz => h z (List.mem_cons_of_mem _ hz)
    exact ⟨x :: xs, rfl, fun z hz => by
      rcases List.mem_cons.1 hz with rfl | hz
      · exact hx
      · exact h2 z hz⟩
theorem argsCons {P : Program} {n : Nat} {t : TypeId} {ts : List TypeId} {xs : List AV} (h : ArgsFit P n (t :: ts) xs) : ∃ a r, xs = a :: r ∧ ArgFit P n t a ∧ ArgsFit P n ts r := by
  match xs, h with
  | a :: r, h => exact ⟨a, r, rfl, h.1, h.2⟩
theorem argsNil {P : Program} {n : Nat} {xs : List AV} (h : ArgsFit P n [] xs) : xs = [] := by
  match xs, h with
  | [], _ => rfl
theorem fitInt {n : Nat} {cs : List AV} (h : Fit Try.prog (n + 1) 3 cs) : ∃ x : Int, i64ok x ∧ cs = [.v (.int .i64 x)] := by
  simp only [Fit, Try.underlying3] at h
  obtain ⟨x, hx, rfl⟩ := h
  refine ⟨x, ?_, rfl⟩
  simp only [Lit.wf, Bool.and_eq_true, decide_eq_true_eq, IntKind.min, IntKind.max] at hx
  unfold i64ok
  simp [IntKind.signed, IntKind.bits] at hx
  omega
theorem fitStr {n : Nat} {cs : List AV} (h : Fit Try.prog (n + 1) 9 cs) : ∃ s : List UInt8, s.length ≤ 140737488351232 ∧ cs = [.v (.string (mk s))] := by
  simp only [Fit, Try.underlying9] at h
  obtain ⟨s, hs, rfl⟩ := h
  refine ⟨s.data.toList, ?_, by rw [← mk_of s]⟩
  rw [reach_eq] at hs
  simpa using hs
theorem fitPair {n : Nat} {cs : List AV} (h : Fit Try.prog (n + 2) 74 cs) : ∃ p : Int × Int, (i64ok p.1 ∧ i64ok p.2) ∧ cs = rv p := by
  simp only [Fit, Try.underlying74] at h
  obtain ⟨ps, hl, hp, rfl⟩ := h
  match ps, hl with
  | [a, b], _ =>
    obtain ⟨x, hx, rfl⟩ := fitInt (n := n) (hp a (by simp)).2
    obtain ⟨y, hy, rfl⟩ := fitInt (n := n) (hp b (by simp)).2
    exact ⟨(x, y), ⟨hx, hy⟩, rfl⟩
theorem fitField {n : Nat} {cs : List AV} (h : Fit Try.prog (n + 2) 46 cs) : ∃ f : Fld, (i64ok f.1 ∧ f.2.length ≤ 140737488351232) ∧ cs = fv f := by
  have hu : Try.prog.underlying 46 = _ := Try.underlying46
  unfold Fit at h
  rw [hu] at h
  simp only [FitFs] at h
  obtain ⟨a, b, rfl, _, ha, b', c, rfl, _, hb, rfl⟩ := h
  obtain ⟨x, hx, rfl⟩ := fitInt (n := n) ha
  obtain ⟨s, hs, rfl⟩ := fitStr (n := n) hb
  exact ⟨(x, s), ⟨hx, hs⟩, rfl⟩
theorem fitRaw {n : Nat} {cs : List AV} (h : Fit Try.prog (n + 3) 26 cs) : ∃ raw : List (Int × Int), raw.length ≤ 140737488351232 ∧ (∀ p ∈ raw, i64ok p.1 ∧ i64ok p.2) ∧ cs = [.lst 2 (raw.map rv)] := by
  simp only [Fit, Try.underlying26] at h
  obtain ⟨ys, _, hl, hy, rfl⟩ := h
  obtain ⟨xs, rfl, hx⟩ := map_of fun y h => fitPair (n := n) (hy y h)
  rw [sz_74]
  rw [List.length_map] at hl
  exact ⟨xs, len_reach (Nat.lt_of_lt_of_eq (by decide : 0 < 16) (by kernel_rfl : 16 = Try.prog.bytesOf 74)) hl, hx, rfl⟩
theorem fitTexts {n : Nat} {cs : List AV} (h : Fit Try.prog (n + 2) 27 cs) : ∃ ts : List (List UInt8), ts.length ≤ 140737488351232 ∧ (∀ t ∈ ts, t.length ≤ 140737488351232) ∧ cs = [.lst 1 (ts.map tv)] := by
  simp only [Fit, Try.underlying27] at h
  obtain ⟨ys, _, hl, hy, rfl⟩ := h
  obtain ⟨xs, rfl, hx⟩ := map_of (f := tv) fun y h => fitStr (n := n) (hy y h)
  rw [sz_9]
  rw [List.length_map] at hl
  exact ⟨xs, len_reach (Nat.lt_of_lt_of_eq (by decide : 0 < 16) (by kernel_rfl : 16 = Try.prog.bytesOf 9)) hl, hx, rfl⟩
theorem fitFields {n : Nat} {cs : List AV} (h : Fit Try.prog (n + 3) 22 cs) : ∃ l : List Fld, l.length ≤ 140737488351232 ∧ (∀ f ∈ l, i64ok f.1 ∧ f.2.length ≤ 140737488351232) ∧ cs = [.lst 2 (l.map fv)] := by
  simp only [Fit, Try.underlying22] at h
  obtain ⟨ys, _, hl, hy, rfl⟩ := h
  obtain ⟨xs, rfl, hx⟩ := map_of fun y h => fitField (n := n) (hy y h)
  rw [sz_46]
  rw [List.length_map] at hl
  exact ⟨xs, len_reach (Nat.lt_of_lt_of_eq (by decide : 0 < 24) (by kernel_rfl : 24 = Try.prog.bytesOf 46)) hl, hx, rfl⟩
theorem argInt {a : AV} (h : ArgFit Try.prog 12 3 a) : ∃ x : Int, i64ok x ∧ a = .v (.int .i64 x) := by
  simp only [ArgFit, ag_3] at h
  obtain ⟨x, hx, h⟩ := fitInt (n := 11) h
  exact ⟨x, hx, by simpa using h⟩
theorem argStr {a : AV} (h : ArgFit Try.prog 12 9 a) : ∃ s : List UInt8, s.length ≤ 140737488351232 ∧ a = .v (.string (mk s)) := by
  simp only [ArgFit, ag_9] at h
  obtain ⟨x, hx, h⟩ := fitStr (n := 11) h
  exact ⟨x, hx, by simpa using h⟩
theorem argRaw {a : AV} (h : ArgFit Try.prog 12 26 a) : ∃ raw : List (Int × Int), raw.length ≤ 140737488351232 ∧ (∀ p ∈ raw, i64ok p.1 ∧ i64ok p.2) ∧ a = .lst 2 (raw.map rv) := by
  simp only [ArgFit, ag_26] at h
  obtain ⟨x, hx, hy, h⟩ := fitRaw (n := 9) h
  exact ⟨x, hx, hy, by simpa using h⟩
theorem argTexts {a : AV} (h : ArgFit Try.prog 12 27 a) : ∃ ts : List (List UInt8), ts.length ≤ 140737488351232 ∧ (∀ t ∈ ts, t.length ≤ 140737488351232) ∧ a = .lst 1 (ts.map tv) := by
  simp only [ArgFit, ag_27] at h
  obtain ⟨x, hx, hy, h⟩ := fitTexts (n := 10) h
  exact ⟨x, hx, hy, by simpa using h⟩
theorem argFields {a : AV} (h : ArgFit Try.prog 12 22 a) : ∃ l : List Fld, l.length ≤ 140737488351232 ∧ (∀ f ∈ l, i64ok f.1 ∧ f.2.length ≤ 140737488351232) ∧ a = .lst 2 (l.map fv) := by
  simp only [ArgFit, ag_22] at h
  obtain ⟨x, hx, hy, h⟩ := fitFields (n := 9) h
  exact ⟨x, hx, hy, by simpa using h⟩
end Go.Ai

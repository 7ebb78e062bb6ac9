/- What is handed in to the laws of sessions: numbers, numbers in a row, sessions. -/
import Derived.Test.YtakibkfalckhiaaAiLaw
import Derived.Test.YtakibkfalckhiaaSesS
import Derived.Test.YtakibkfalckhiaaAiFacts
set_option linter.unusedVariables false
set_option linter.unusedSimpArgs false
set_option maxRecDepth 100000
namespace Go.Ai
open Go.Proofs
theorem reach_eq : reachBytes = 140737488351232 := by decide
theorem len_reach {n b : Nat} (hb : 0 < b) (h : n * b ≤ reachBytes) : n * b ≤ 140737488351232 := by
  rw [reach_eq] at h
  exact h
theorem map_of {α : Type} {f : α → List AV} {Q : α → Prop} : ∀ {ys : List (List AV)}, (∀ y ∈ ys, ∃ x, Q x ∧ y = f x) → ∃ xs : List α, ys = xs.map f ∧ ∀ x ∈ xs, Q x
  | [], _ => ⟨[], rfl, by simp⟩
  | y :: ys, h => by
    obtain ⟨x, hx, rfl⟩ := h y (List.mem_cons_self ..)
    obtain ⟨xs, rfl, h2⟩ := map_of fun z hz => h z (List.mem_cons_of_mem _ hz)
    exact ⟨x :: xs, rfl, fun z hz => by
      rcases List.mem_cons.1 hz with rfl | hz
      · exact hx
      · exact h2 z hz⟩
theorem argsCons {P : Program} {n : Nat} {t : TypeId} {ts : List TypeId} {xs : List AV} (h : ArgsFit P n (t :: ts) xs) : ∃ a r, xs = a :: r ∧ ArgFit P n t a ∧ ArgsFit P n ts r := by
  match xs, h with
  | a :: r, h => exact ⟨a, r, rfl, h.1, h.2⟩
theorem argsNil {P : Program} {n : Nat} {xs : List AV} (h : ArgsFit P n [] xs) : xs = [] := by
  match xs, h with
  | [], _ => rfl
theorem fitInt {n : Nat} {cs : List AV} (h : Fit Try.prog (n + 1) 3 cs) : ∃ x : Int, i64ok x ∧ cs = [.v (.int .i64 x)] := by
  simp only [Fit, Try.underlying3] at h
  obtain ⟨x, hx, rfl⟩ := h
  refine ⟨x, ?_, rfl⟩
  simp only [Lit.wf, Bool.and_eq_true, decide_eq_true_eq, IntKind.min, IntKind.max] at hx
  unfold i64ok
  simp [IntKind.signed, IntKind.bits] at hx
  omega
theorem fitInts {n : Nat} {cs : List AV} (h : Fit Try.prog (n + 2) 22 cs) : ∃ l : List Int, l.length * 8 ≤ 140737488351232 ∧ (∀ x ∈ l, i64ok x) ∧ cs = [.lst 1 (l.map iv)] := by
  simp only [Fit, Try.underlying22] at h
  obtain ⟨ys, _, hl, hy, rfl⟩ := h
  obtain ⟨xs, rfl, hx⟩ := map_of (f := iv) fun y h => fitInt (n := n) (hy y h)
  rw [sz_3]
  rw [List.length_map] at hl
  have hb : 8 = Try.prog.bytesOf 3 := by kernel_rfl
  rw [← hb] at hl
  exact ⟨xs, len_reach (by decide) hl, hx, rfl⟩
theorem fitSes {n : Nat} {cs : List AV} (h : Fit Try.prog (n + 3) 24 cs) : ∃ s : Ses, (i64ok s.next ∧ i64ok s.seen ∧ s.ahead.length * 8 ≤ 140737488351232 ∧ ∀ x ∈ s.ahead, i64ok x) ∧ cs = sv s := by
  have hu : Try.prog.underlying 24 = _ := Try.underlying24
  unfold Fit at h
  rw [hu] at h
  simp only [FitFs] at h
  obtain ⟨a1, b1, rfl, _, h1, a2, b2, rfl, _, h2, a3, b3, rfl, _, h3, rfl⟩ := h
  obtain ⟨x1, k1, rfl⟩ := fitInt (n := n + 1) h1
  obtain ⟨x2, k2, rfl⟩ := fitInt (n := n + 1) h2
  obtain ⟨l, k3, k4, rfl⟩ := fitInts (n := n) h3
  exact ⟨⟨x1, x2, l⟩, ⟨k1, k2, k3, k4⟩, rfl⟩
theorem argInt {a : AV} (h : ArgFit Try.prog 12 3 a) : ∃ x : Int, i64ok x ∧ a = .v (.int .i64 x) := by
  simp only [ArgFit, ag_3] at h
  obtain ⟨x, hx, h⟩ := fitInt (n := 11) h
  exact ⟨x, hx, by simpa using h⟩
theorem argInts {a : AV} (h : ArgFit Try.prog 12 22 a) : ∃ l : List Int, l.length * 8 ≤ 140737488351232 ∧ (∀ x ∈ l, i64ok x) ∧ a = .lst 1 (l.map iv) := by
  simp only [ArgFit, ag_22] at h
  obtain ⟨x, hx, hx2, h⟩ := fitInts (n := 10) h
  exact ⟨x, hx, hx2, by simpa using h⟩
theorem argSes {a : AV} (h : ArgFit Try.prog 12 24 a) : ∃ s : Ses, (i64ok s.next ∧ i64ok s.seen ∧ s.ahead.length * 8 ≤ 140737488351232 ∧ ∀ x ∈ s.ahead, i64ok x) ∧ a = .agg (sv s) := by
  simp only [ArgFit, ag_24] at h
  obtain ⟨cs, rfl, h⟩ := h
  obtain ⟨s, hs, rfl⟩ := fitSes (n := 9) h
  exact ⟨s, hs, rfl⟩
end Go.Ai

/- What is handed in to the laws of messages: numbers, texts, five numbers, messages. -/
import Derived.Test.YtlklggododajiaaAiLaw
import Derived.Test.YtlklggododajiaaWire7
import Derived.Test.YtlklggododajiaaAiFacts
set_option linter.unusedVariables false
set_option linter.unusedSimpArgs false
set_option maxRecDepth 100000
namespace Go.Ai
open Go.Proofs
theorem reach_eq : reachBytes = 140737488351232 := by decide
theorem argsCons {P : Program} {n : Nat} {t : TypeId} {ts : List TypeId} {xs : List AV} (h : ArgsFit P n (t :: ts) xs) : ∃ a r, xs = a :: r ∧ ArgFit P n t a ∧ ArgsFit P n ts r := by
  match xs, h with
  | a :: r, h => exact ⟨a, r, rfl, h.1, h.2⟩
theorem argsNil {P : Program} {n : Nat} {xs : List AV} (h : ArgsFit P n [] xs) : xs = [] := by
  match xs, h with
  | [], _ => rfl
theorem fitInt {n : Nat} {cs : List AV} (h : Fit Try.prog (n + 1) 3 cs) : ∃ x : Int, i64ok x ∧ cs = [.v (.int .i64 x)] := by
  simp only [Fit, Try.underlying3] at h
  obtain ⟨x, hx, rfl⟩ := h
  refine ⟨x, ?_, rfl⟩
  simp only [Lit.wf, Bool.and_eq_true, decide_eq_true_eq, IntKind.min, IntKind.max] at hx
  unfold i64ok
  simp [IntKind.signed, IntKind.bits] at hx
  omega
theorem fitStr {n : Nat} {cs : List AV} (h : Fit Try.prog (n + 1) 9 cs) : ∃ s : List UInt8, s.length ≤ 140737488351232 ∧ cs = [.v (.string (mk s))] := by
  simp only [Fit, Try.underlying9] at h
  obtain ⟨s, hs, rfl⟩ := h
  refine ⟨s.data.toList, ?_, by rw [← mk_of s]⟩
  rw [reach_eq] at hs
  simpa using hs
theorem fitRaw5 {n : Nat} {cs : List AV} (h : Fit Try.prog (n + 2) 24 cs) : ∃ r : Raw5, r5ok r ∧ cs = r5v r := by
  simp only [Fit, Try.underlying24] at h
  obtain ⟨ps, hl, hp, rfl⟩ := h
  match ps, hl with
  | [a, b, c, d, e], _ =>
    obtain ⟨x1, h1, rfl⟩ := fitInt (n := n) (hp a (by simp)).2
    obtain ⟨x2, h2, rfl⟩ := fitInt (n := n) (hp b (by simp)).2
    obtain ⟨x3, h3, rfl⟩ := fitInt (n := n) (hp c (by simp)).2
    obtain ⟨x4, h4, rfl⟩ := fitInt (n := n) (hp d (by simp)).2
    obtain ⟨x5, h5, rfl⟩ := fitInt (n := n) (hp e (by simp)).2
    exact ⟨⟨x1, x2, x3, x4, x5⟩, ⟨h1, h2, h3, h4, h5⟩, rfl⟩
theorem fitMsg {n : Nat} {cs : List AV} (h : Fit Try.prog (n + 2) 23 cs) : ∃ x : Msg, x.body.length ≤ 140737488351232 ∧ cs = mv x := by
  have hu : Try.prog.underlying 23 = _ := Try.underlying23
  unfold Fit at h
  rw [hu] at h
  simp only [FitFs] at h
  obtain ⟨a1, b1, rfl, _, h1, a2, b2, rfl, _, h2, a3, b3, rfl, _, h3, a4, b4, rfl, _, h4, a5, b5, rfl, _, h5, a6, b6, rfl, _, h6, rfl⟩ := h
  obtain ⟨x1, _, rfl⟩ := fitInt (n := n) h1
  obtain ⟨x2, _, rfl⟩ := fitInt (n := n) h2
  obtain ⟨x3, _, rfl⟩ := fitInt (n := n) h3
  obtain ⟨x4, _, rfl⟩ := fitInt (n := n) h4
  obtain ⟨s, hs, rfl⟩ := fitStr (n := n) h5
  obtain ⟨x6, _, rfl⟩ := fitInt (n := n) h6
  exact ⟨⟨x1, x2, x3, x4, s, x6⟩, hs, rfl⟩
theorem argInt {a : AV} (h : ArgFit Try.prog 12 3 a) : ∃ x : Int, i64ok x ∧ a = .v (.int .i64 x) := by
  simp only [ArgFit, ag_3] at h
  obtain ⟨x, hx, h⟩ := fitInt (n := 11) h
  exact ⟨x, hx, by simpa using h⟩
theorem argStr {a : AV} (h : ArgFit Try.prog 12 9 a) : ∃ s : List UInt8, s.length ≤ 140737488351232 ∧ a = .v (.string (mk s)) := by
  simp only [ArgFit, ag_9] at h
  obtain ⟨x, hx, h⟩ := fitStr (n := 11) h
  exact ⟨x, hx, by simpa using h⟩
theorem argRaw5 {a : AV} (h : ArgFit Try.prog 12 24 a) : ∃ r : Raw5, r5ok r ∧ a = .agg (r5v r) := by
  simp only [ArgFit, ag_24] at h
  obtain ⟨cs, rfl, h⟩ := h
  obtain ⟨r, hr, rfl⟩ := fitRaw5 (n := 10) h
  exact ⟨r, hr, rfl⟩
theorem argMsg {a : AV} (h : ArgFit Try.prog 12 23 a) : ∃ x : Msg, x.body.length ≤ 140737488351232 ∧ a = .agg (mv x) := by
  simp only [ArgFit, ag_23] at h
  obtain ⟨cs, rfl, h⟩ := h
  obtain ⟨x, hx, rfl⟩ := fitMsg (n := 10) h
  exact ⟨x, hx, rfl⟩
end Go.Ai

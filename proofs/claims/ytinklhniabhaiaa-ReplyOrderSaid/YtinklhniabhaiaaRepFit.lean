/- What is handed in to the laws of replies: numbers, numbers in a row, raw calls. -/
import Derived.Test.YtinklhniabhaiaaAiLaw
import Derived.Test.YtinklhniabhaiaaRepS
import Derived.Test.YtinklhniabhaiaaAiFacts
set_option linter.unusedVariables false
set_option linter.unusedSimpArgs false
set_option maxRecDepth 100000
namespace Go.Ai
open Go.Proofs
def iv (n : Int) : List AV := [.v (.int .i64 n)]
structure R5 where
  a : Int
  b : Int
  c : Int
  d : Int
  e : Int
structure R3 where
  a : Int
  b : Int
  c : Int
def r5w (r : R5) : List AV := [.v (.int .i64 r.a), .v (.int .i64 r.b), .v (.int .i64 r.c), .v (.int .i64 r.d), .v (.int .i64 r.e)]
def r5k (r : R5) : Prop := i64ok r.a ∧ i64ok r.b ∧ i64ok r.c ∧ i64ok r.d ∧ i64ok r.e
def r3w (r : R3) : List AV := [.v (.int .i64 r.a), .v (.int .i64 r.b), .v (.int .i64 r.c)]
def r3k (r : R3) : Prop := i64ok r.a ∧ i64ok r.b ∧ i64ok r.c
theorem reach_eq : reachBytes = 140737488351232 := by decide
theorem len_reach {n b : Nat} (hb : 0 < b) (h : n * b ≤ reachBytes) : n * b ≤ 140737488351232 := by
  rw [reach_eq] at h
  exact h
theorem map_of {α : Type} {f : α → List AV} {Q : α → Prop} : ∀ {ys : List (List AV)}, (∀ y ∈ ys, ∃ x, Q x ∧ y = f x) → ∃ xs : List α, ys = xs.map f ∧ ∀ x ∈ xs, Q x
  | [], _ => ⟨[], rfl, by simp⟩
  | y :: ys, h => by
    obtain ⟨x, hx, rfl⟩ := h y (List.mem_cons_self ..)
    obtain ⟨xs, rfl, h2⟩ := map_of fun z hz => h z (List.mem_cons_of_mem _ hz)
    exact ⟨x :: xs, rfl, fun z hz => by
      rcases List.mem_cons.1 hz with rfl | hz
      · exact hx
      · exact h2 z hz⟩
theorem argsCons {P : Program} {n : Nat} {t : TypeId} {ts : List TypeId} {xs : List AV} (h : ArgsFit P n (t :: ts) xs) : ∃ a r, xs = a :: r ∧ ArgFit P n t a ∧ ArgsFit P n ts r := by
  match xs, h with
  | a :: r, h => exact ⟨a, r, rfl, h.1, h.2⟩
theorem argsNil {P : Program} {n : Nat} {xs : List AV} (h : ArgsFit P n [] xs) : xs = [] := by
  match xs, h with
  | [], _ => rfl
theorem fitInt {n : Nat} {cs : List AV} (h : Fit Try.prog (n + 1) 3 cs) : ∃ x : Int, i64ok x ∧ cs = [.v (.int .i64 x)] := by
  simp only [Fit, Try.underlying3] at h
  obtain ⟨x, hx, rfl⟩ := h
  refine ⟨x, ?_, rfl⟩
  simp only [Lit.wf, Bool.and_eq_true, decide_eq_true_eq, IntKind.min, IntKind.max] at hx
  unfold i64ok
  simp [IntKind.signed, IntKind.bits] at hx
  omega
theorem fitInts {n : Nat} {cs : List AV} (h : Fit Try.prog (n + 2) 42 cs) : ∃ l : List Int, l.length * 8 ≤ 140737488351232 ∧ (∀ x ∈ l, i64ok x) ∧ cs = [.lst 1 (l.map iv)] := by
  simp only [Fit, Try.underlying42] at h
  obtain ⟨ys, _, hl, hy, rfl⟩ := h
  obtain ⟨xs, rfl, hx⟩ := map_of (f := iv) fun y h => fitInt (n := n) (hy y h)
  rw [sz_3]
  rw [List.length_map] at hl
  have hb : 8 = Try.prog.bytesOf 3 := by kernel_rfl
  rw [← hb] at hl
  exact ⟨xs, len_reach (by decide) hl, hx, rfl⟩
theorem fitRaw5 {n : Nat} {cs : List AV} (h : Fit Try.prog (n + 2) 46 cs) : ∃ r : R5, r5k r ∧ cs = r5w r := by
  simp only [Fit, Try.underlying46] at h
  obtain ⟨ps, hl, hp, rfl⟩ := h
  match ps, hl with
  | [a, b, c, d, e], _ =>
    obtain ⟨x1, h1, rfl⟩ := fitInt (n := n) (hp a (by simp)).2
    obtain ⟨x2, h2, rfl⟩ := fitInt (n := n) (hp b (by simp)).2
    obtain ⟨x3, h3, rfl⟩ := fitInt (n := n) (hp c (by simp)).2
    obtain ⟨x4, h4, rfl⟩ := fitInt (n := n) (hp d (by simp)).2
    obtain ⟨x5, h5, rfl⟩ := fitInt (n := n) (hp e (by simp)).2
    exact ⟨⟨x1, x2, x3, x4, x5⟩, ⟨h1, h2, h3, h4, h5⟩, rfl⟩
theorem fitRaw3 {n : Nat} {cs : List AV} (h : Fit Try.prog (n + 2) 23 cs) : ∃ r : R3, r3k r ∧ cs = r3w r := by
  simp only [Fit, Try.underlying23] at h
  obtain ⟨ps, hl, hp, rfl⟩ := h
  match ps, hl with
  | [a, b, c], _ =>
    obtain ⟨x1, h1, rfl⟩ := fitInt (n := n) (hp a (by simp)).2
    obtain ⟨x2, h2, rfl⟩ := fitInt (n := n) (hp b (by simp)).2
    obtain ⟨x3, h3, rfl⟩ := fitInt (n := n) (hp c (by simp)).2
    exact ⟨⟨x1, x2, x3⟩, ⟨h1, h2, h3⟩, rfl⟩
theorem fitRaws5 {n : Nat} {cs : List AV} (h : Fit Try.prog (n + 3) 22 cs) : ∃ l : List R5, l.length * 40 ≤ 140737488351232 ∧ (∀ x ∈ l, r5k x) ∧ cs = [.lst 5 (l.map r5w)] := by
  simp only [Fit, Try.underlying22] at h
  obtain ⟨ys, _, hl, hy, rfl⟩ := h
  obtain ⟨xs, rfl, hx⟩ := map_of (f := r5w) fun y h => fitRaw5 (n := n) (hy y h)
  rw [sz_46]
  rw [List.length_map] at hl
  have hb : 40 = Try.prog.bytesOf 46 := by kernel_rfl
  rw [← hb] at hl
  exact ⟨xs, len_reach (by decide) hl, hx, rfl⟩
theorem argInt {a : AV} (h : ArgFit Try.prog 12 3 a) : ∃ x : Int, i64ok x ∧ a = .v (.int .i64 x) := by
  simp only [ArgFit, ag_3] at h
  obtain ⟨x, hx, h⟩ := fitInt (n := 11) h
  exact ⟨x, hx, by simpa using h⟩
theorem argInts {a : AV} (h : ArgFit Try.prog 12 42 a) : ∃ l : List Int, l.length * 8 ≤ 140737488351232 ∧ (∀ x ∈ l, i64ok x) ∧ a = .lst 1 (l.map iv) := by
  simp only [ArgFit, ag_42] at h
  obtain ⟨x, hx, hx2, h⟩ := fitInts (n := 10) h
  exact ⟨x, hx, hx2, by simpa using h⟩
theorem argRaws5 {a : AV} (h : ArgFit Try.prog 12 22 a) : ∃ l : List R5, l.length * 40 ≤ 140737488351232 ∧ (∀ x ∈ l, r5k x) ∧ a = .lst 5 (l.map r5w) := by
  simp only [ArgFit, ag_22] at h
  obtain ⟨x, hx, hx2, h⟩ := fitRaws5 (n := 9) h
  exact ⟨x, hx, hx2, by simpa using h⟩
theorem argRaw3 {a : AV} (h : ArgFit Try.prog 12 23 a) : ∃ r : R3, r3k r ∧ a = .agg (r3w r) := by
  simp only [ArgFit, ag_23] at h
  obtain ⟨cs, rfl, h⟩ := h
  obtain ⟨r, hr, rfl⟩ := fitRaw3 (n := 10) h
  exact ⟨r, hr, rfl⟩
end Go.Ai

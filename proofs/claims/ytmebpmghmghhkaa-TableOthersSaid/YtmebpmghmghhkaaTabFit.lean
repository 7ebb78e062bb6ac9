/- What is handed in to the laws of tables: numbers, raw ops, ops, tables. -/
import Derived.Test.YtmebpmghmghhkaaAiLaw
import Derived.Test.YtmebpmghmghhkaaTab14
set_option linter.unusedVariables false
set_option linter.unusedSimpArgs false
set_option maxRecDepth 100000
namespace Go.Ai
open Go.Proofs
theorem reach_eq : reachBytes = 140737488351232 := by decide
theorem len_reach {n b : Nat} (hb : 0 < b) (h : n * b ≤ reachBytes) : n * b ≤ 140737488351232 := by
  rw [reach_eq] at h
  exact h
theorem map_of {α : Type} {f : α → List AV} {Q : α → Prop} : ∀ {ys : List (List AV)}, (∀ y ∈ ys, ∃ x, Q x ∧ y = f x) → ∃ xs : List α, ys = xs.map f ∧ ∀ x ∈ xs, Q x
  | [], _ => ⟨[], rfl, by simp⟩
  | y :: ys, h => by
    obtain ⟨x, hx, rfl⟩ := h y (List.mem_cons_self ..)
    obtain ⟨xs, rfl, h2⟩ := map_of fun z hz => h z (List.mem_cons_of_mem _ hz)
    exact ⟨x :: xs, rfl, fun z hz => by
      rcases List.mem_cons.1 hz with rfl | hz
      · exact hx
      · exact h2 z hz⟩
theorem argsCons {P : Program} {n : Nat} {t : TypeId} {ts : List TypeId} {xs : List AV} (h : ArgsFit P n (t :: ts) xs) : ∃ a r, xs = a :: r ∧ ArgFit P n t a ∧ ArgsFit P n ts r := by
  match xs, h with
  | a :: r, h => exact ⟨a, r, rfl, h.1, h.2⟩
theorem argsNil {P : Program} {n : Nat} {xs : List AV} (h : ArgsFit P n [] xs) : xs = [] := by
  match xs, h with
  | [], _ => rfl
theorem fitInt {n : Nat} {cs : List AV} (h : Fit Try.prog (n + 1) 3 cs) : ∃ x : Int, i64ok x ∧ cs = [.v (.int .i64 x)] := by
  simp only [Fit, Try.underlying3] at h
  obtain ⟨x, hx, rfl⟩ := h
  refine ⟨x, ?_, rfl⟩
  simp only [Lit.wf, Bool.and_eq_true, decide_eq_true_eq, IntKind.min, IntKind.max] at hx
  unfold i64ok
  simp [IntKind.signed, IntKind.bits] at hx
  omega
theorem fitStr {n : Nat} {cs : List AV} (h : Fit Try.prog (n + 1) 9 cs) : ∃ s : List UInt8, s.length ≤ 140737488351232 ∧ cs = [.v (.string (mk s))] := by
  simp only [Fit, Try.underlying9] at h
  obtain ⟨s, hs, rfl⟩ := h
  refine ⟨s.data.toList, ?_, by rw [← mk_of s]⟩
  rw [reach_eq] at hs
  simpa using hs
theorem fitField {n : Nat} {cs : List AV} (h : Fit Try.prog (n + 2) 58 cs) : ∃ f : Fld, (i64ok f.1 ∧ f.2.length ≤ 140737488351232) ∧ cs = fv f := by
  have hu : Try.prog.underlying 58 = _ := Try.underlying58
  unfold Fit at h
  rw [hu] at h
  simp only [FitFs] at h
  obtain ⟨a, b, rfl, _, ha, b', c, rfl, _, hb, rfl⟩ := h
  obtain ⟨x, hx, rfl⟩ := fitInt (n := n) ha
  obtain ⟨s, hs, rfl⟩ := fitStr (n := n) hb
  exact ⟨(x, s), ⟨hx, hs⟩, rfl⟩
theorem len_reach24 {n b : Nat} (h : n * b ≤ reachBytes) : n * b ≤ 140737488351232 := by
  rw [reach_eq] at h
  exact h
theorem fitRaw5 {n : Nat} {cs : List AV} (h : Fit Try.prog (n + 2) 24 cs) : ∃ r : R5, r5k r ∧ cs = r5w r := by
  simp only [Fit, Try.underlying24] at h
  obtain ⟨ps, hl, hp, rfl⟩ := h
  match ps, hl with
  | [a, b, c, d, e], _ =>
    obtain ⟨x1, h1, rfl⟩ := fitInt (n := n) (hp a (by simp)).2
    obtain ⟨x2, h2, rfl⟩ := fitInt (n := n) (hp b (by simp)).2
    obtain ⟨x3, h3, rfl⟩ := fitInt (n := n) (hp c (by simp)).2
    obtain ⟨x4, h4, rfl⟩ := fitInt (n := n) (hp d (by simp)).2
    obtain ⟨x5, h5, rfl⟩ := fitInt (n := n) (hp e (by simp)).2
    exact ⟨⟨x1, x2, x3, x4, x5⟩, ⟨h1, h2, h3, h4, h5⟩, rfl⟩
theorem fitFields24 {n : Nat} {cs : List AV} (h : Fit Try.prog (n + 3) 45 cs) : ∃ l : List Fld, l.length * 24 ≤ 140737488351232 ∧ cs = [.lst 2 (l.map fv)] := by
  simp only [Fit, Try.underlying45] at h
  obtain ⟨ys, _, hl, hy, rfl⟩ := h
  obtain ⟨xs, rfl, hx⟩ := map_of (f := fv) fun y h => fitField (n := n) (hy y h)
  rw [sz_58]
  rw [List.length_map] at hl
  have hb : 24 = Try.prog.bytesOf 58 := by kernel_rfl
  rw [← hb] at hl
  exact ⟨xs, len_reach24 hl, rfl⟩
def recok (r : Rec) : Prop := r.extra.length * 24 ≤ 140737488351232
theorem fitRec {n : Nat} {cs : List AV} (h : Fit Try.prog (n + 4) 47 cs) : ∃ r : Rec, recok r ∧ cs = rcv r := by
  have hu : Try.prog.underlying 47 = _ := Try.underlying47
  unfold Fit at h
  rw [hu] at h
  simp only [FitFs] at h
  obtain ⟨a1, b1, rfl, _, h1, a2, b2, rfl, _, h2, a3, b3, rfl, _, h3, a4, b4, rfl, _, h4, a5, b5, rfl, _, h5, a6, b6, rfl, _, h6, rfl⟩ := h
  obtain ⟨k, hk, rfl⟩ := fitStr (n := n + 2) h1
  obtain ⟨v, hv, rfl⟩ := fitStr (n := n + 2) h2
  obtain ⟨x3, _, rfl⟩ := fitInt (n := n + 2) h3
  obtain ⟨x4, _, rfl⟩ := fitInt (n := n + 2) h4
  obtain ⟨s, hs, rfl⟩ := fitStr (n := n + 2) h5
  obtain ⟨l, hl, rfl⟩ := fitFields24 (n := n) h6
  exact ⟨⟨k, v, x3, x4, s, l⟩, hl, rfl⟩
theorem fitRaws5 {n : Nat} {cs : List AV} (h : Fit Try.prog (n + 3) 22 cs) : ∃ l : List R5, l.length * 40 ≤ 140737488351232 ∧ (∀ x ∈ l, r5k x) ∧ cs = [.lst 5 (l.map r5w)] := by
  simp only [Fit, Try.underlying22] at h
  obtain ⟨ys, _, hl, hy, rfl⟩ := h
  obtain ⟨xs, rfl, hx⟩ := map_of (f := r5w) fun y h => fitRaw5 (n := n) (hy y h)
  rw [sz_24]
  rw [List.length_map] at hl
  have hb : 40 = Try.prog.bytesOf 24 := by kernel_rfl
  rw [← hb] at hl
  exact ⟨xs, len_reach (by decide) hl, hx, rfl⟩
theorem fitRecs {n : Nat} {cs : List AV} (h : Fit Try.prog (n + 5) 23 cs) : ∃ l : List Rec, l.length * 88 ≤ 140737488351232 ∧ (∀ x ∈ l, recok x) ∧ cs = [.lst 6 (l.map rcv)] := by
  simp only [Fit, Try.underlying23] at h
  obtain ⟨ys, _, hl, hy, rfl⟩ := h
  obtain ⟨xs, rfl, hx⟩ := map_of (f := rcv) fun y h => fitRec (n := n) (hy y h)
  rw [sz_47]
  rw [List.length_map] at hl
  have hb : 88 = Try.prog.bytesOf 47 := by kernel_rfl
  rw [← hb] at hl
  exact ⟨xs, len_reach (by decide) hl, hx, rfl⟩
theorem fitOp {n : Nat} {cs : List AV} (h : Fit Try.prog (n + 2) 26 cs) : ∃ x : Opr, cs = opv x := by
  have hu : Try.prog.underlying 26 = _ := Try.underlying26
  unfold Fit at h
  rw [hu] at h
  simp only [FitFs] at h
  obtain ⟨a1, b1, rfl, _, h1, a2, b2, rfl, _, h2, a3, b3, rfl, _, h3, a4, b4, rfl, _, h4, a5, b5, rfl, _, h5, a6, b6, rfl, _, h6, a7, b7, rfl, _, h7, rfl⟩ := h
  obtain ⟨x1, _, rfl⟩ := fitInt (n := n) h1
  obtain ⟨x2, _, rfl⟩ := fitStr (n := n) h2
  obtain ⟨x3, _, rfl⟩ := fitStr (n := n) h3
  obtain ⟨x4, _, rfl⟩ := fitInt (n := n) h4
  obtain ⟨x5, _, rfl⟩ := fitStr (n := n) h5
  obtain ⟨x6, _, rfl⟩ := fitInt (n := n) h6
  obtain ⟨x7, _, rfl⟩ := fitStr (n := n) h7
  exact ⟨⟨x1, x2, x3, x4, x5, x6, x7⟩, rfl⟩
theorem argInt {a : AV} (h : ArgFit Try.prog 12 3 a) : ∃ x : Int, i64ok x ∧ a = .v (.int .i64 x) := by
  simp only [ArgFit, ag_3] at h
  obtain ⟨x, hx, h⟩ := fitInt (n := 11) h
  exact ⟨x, hx, by simpa using h⟩
theorem argRaws5 {a : AV} (h : ArgFit Try.prog 12 22 a) : ∃ l : List R5, l.length * 40 ≤ 140737488351232 ∧ (∀ x ∈ l, r5k x) ∧ a = .lst 5 (l.map r5w) := by
  simp only [ArgFit, ag_22] at h
  obtain ⟨x, hx, hx2, h⟩ := fitRaws5 (n := 9) h
  exact ⟨x, hx, hx2, by simpa using h⟩
theorem argRaw5 {a : AV} (h : ArgFit Try.prog 12 24 a) : ∃ r : R5, r5k r ∧ a = .agg (r5w r) := by
  simp only [ArgFit, ag_24] at h
  obtain ⟨cs, rfl, h⟩ := h
  obtain ⟨r, hr, rfl⟩ := fitRaw5 (n := 10) h
  exact ⟨r, hr, rfl⟩
theorem argRecs {a : AV} (h : ArgFit Try.prog 12 23 a) : ∃ l : List Rec, okT l ∧ a = .lst 6 (l.map rcv) := by
  simp only [ArgFit, ag_23] at h
  obtain ⟨x, hx, hx2, h⟩ := fitRecs (n := 7) h
  exact ⟨x, ⟨by omega, hx2⟩, by simpa using h⟩
theorem argOp {a : AV} (h : ArgFit Try.prog 12 26 a) : ∃ x : Opr, a = .agg (opv x) := by
  simp only [ArgFit, ag_26] at h
  obtain ⟨cs, rfl, h⟩ := h
  obtain ⟨x, rfl⟩ := fitOp (n := 10) h
  exact ⟨x, rfl⟩
end Go.Ai

/- FieldFinds: the machine's word. -/
import Derived.Test.YtngedkiffapofaaField5
set_option linter.unusedVariables false
set_option linter.unusedSimpArgs false
set_option maxRecDepth 100000
set_option maxHeartbeats 4000000
namespace Go.Ai
open Go.Proofs
theorem findS_at {l : List Fld} {tag : Int} : (∃ d, findS l tag = some d ∧ ∃ f ∈ l, f.1 = tag ∧ f.2 = d) ∨ (findS l tag = none ∧ ∀ f ∈ l, f.1 ≠ tag) := by
  induction l with
  | nil => exact .inr ⟨rfl, by simp⟩
  | cons f r ih =>
    by_cases h : f.1 = tag
    · exact .inl ⟨f.2, by simp [findS, List.find?_cons, h], f, by simp, h, rfl⟩
    · have e : findS (f :: r) tag = findS r tag := by simp [findS, List.find?_cons, h]
      rw [e]
      rcases ih with ⟨d, h1, g, h2, h3⟩ | ⟨h1, h2⟩
      · exact .inl ⟨d, h1, g, by simp [h2], h3⟩
      · refine .inr ⟨h1, fun g hg => ?_⟩
        rcases List.mem_cons.1 hg with rfl | hg
        · exact h
        · exact h2 g hg
theorem rightGo_lt : ∀ {l : List Fld} {t : Int}, rightGo t l = true → ∀ f ∈ l, t < f.1
  | [], _, _, f, h => by simp at h
  | g :: r, t, h, f, hf => by
    simp only [rightGo, Bool.and_eq_true, Bool.not_eq_true', Bool.or_eq_false_iff, decide_eq_false_iff_not] at h
    obtain ⟨⟨⟨h1, h2⟩, h3⟩, h4⟩ := h
    rcases List.mem_cons.1 hf with rfl | hf
    · omega
    · have := rightGo_lt h4 f hf
      omega
theorem find_each : ∀ {l : List Fld} {t : Int}, rightGo t l = true → ∀ f ∈ l, findS l f.1 = some f.2
  | [], _, _, f, h => by simp at h
  | g :: r, t, h, f, hf => by
    have h0 := h
    simp only [rightGo, Bool.and_eq_true] at h
    rcases List.mem_cons.1 hf with rfl | hf
    · simp [findS, List.find?_cons]
    · have h1 := rightGo_lt h.2 f hf
      have h2 : ¬ g.1 = f.1 := by omega
      have e : findS (g :: r) f.1 = findS r f.1 := by simp [findS, List.find?_cons, h2]
      rw [e]
      exact find_each h.2 f hf
theorem rightGo_of {l : List Fld} (h : rightS l = true) : rightGo 0 l = true := by
  simp only [rightS, Bool.and_eq_true] at h
  exact h.1
theorem finds_law (m : Nat) (hm : 10 ≤ m) (raw : List (Int × Int)) (hrl : raw.length ≤ 9223372036854775807) (hr : ∀ p ∈ raw, i64ok p.1 ∧ i64ok p.2) (texts : List (List UInt8)) (ht : texts.length ≤ 9223372036854775807) (htt : ∀ t ∈ texts, t.length ≤ 9223372036854775807) (tag : Int) (htag : i64ok tag) : wpF C m 8 [.lst 2 (raw.map rv), .lst 1 (texts.map tv), .v (.int .i64 tag)] [] fun r _ => r = .v (.bool true) := by
  obtain ⟨m, rfl⟩ : ∃ j, m = j + 1 := ⟨m - 1, by omega⟩; simp only [wpF, bodyA, fn_8, C_P, ok_8, C_prim, primOf, true_and]; simp (maxSteps := 4000000) only [EV, EVF, XV, cond_true, cond_false, Bool.false_eq_true, Bool.true_eq_false, eq_self, normsOf, heapOf, drawsOf, shpOf, Try.f8, ↓reduceIte, Nat.reduceAdd, Nat.reduceLT, Nat.reduceEqDiff, Nat.reduceLeDiff, Nat.succ_ne_zero, Nat.zero_ne_one, Nat.one_ne_zero, ne_eq, not_false_eq_true, true_and, and_true, Nat.reduceMul, Nat.reduceSub, Int.reduceToNat, Int.toNat_zero, Int.toNat_one, Nat.zero_mul, Nat.one_mul, Int.reduceLT, Int.reduceLE, Int.le_refl, Int.zero_lt_one, Int.toNat_natCast, List.take_length, Int.cast_ofNat_Int, Int.reduceAdd, Int.reduceSub, Int.reduceBEq, Int.reduceBNe, ge_iff_le, gt_iff_lt, decide_true, decide_false, Int.lt_irrefl, Nat.zero_add, Nat.add_zero]
  refine awake_w m (by omega) _ fun H => ?_
  simp (maxSteps := 4000000) only [EV, EVF, XV, cond_true, cond_false, Bool.false_eq_true, Bool.true_eq_false, eq_self, normsOf, heapOf, drawsOf, shpOf, Try.f8, ↓reduceIte, Nat.reduceAdd, Nat.reduceLT, Nat.reduceEqDiff, Nat.reduceLeDiff, Nat.succ_ne_zero, Nat.zero_ne_one, Nat.one_ne_zero, ne_eq, not_false_eq_true, true_and, and_true, Nat.reduceMul, Nat.reduceSub, Int.reduceToNat, Int.toNat_zero, Int.toNat_one, Nat.zero_mul, Nat.one_mul, Int.reduceLT, Int.reduceLE, Int.le_refl, Int.zero_lt_one, Int.toNat_natCast, List.take_length, Int.cast_ofNat_Int, Int.reduceAdd, Int.reduceSub, Int.reduceBEq, Int.reduceBNe, ge_iff_le, gt_iff_lt, decide_true, decide_false, Int.lt_irrefl, Nat.zero_add, Nat.add_zero]
  refine fields_w m (by omega) raw texts hr ht _ ?_
  obtain ⟨hR, hL⟩ := fieldsS_right texts fun p hp => (hr p hp).1
  generalize fieldsS raw texts = l at hR hL ⊢
  simp (maxSteps := 4000000) only [EV, EVF, XV, cond_true, cond_false, Bool.false_eq_true, Bool.true_eq_false, eq_self, normsOf, heapOf, drawsOf, shpOf, Try.f8, ↓reduceIte, Nat.reduceAdd, Nat.reduceLT, Nat.reduceEqDiff, Nat.reduceLeDiff, Nat.succ_ne_zero, Nat.zero_ne_one, Nat.one_ne_zero, ne_eq, not_false_eq_true, true_and, and_true, Nat.reduceMul, Nat.reduceSub, Int.reduceToNat, Int.toNat_zero, Int.toNat_one, Nat.zero_mul, Nat.one_mul, Int.reduceLT, Int.reduceLE, Int.le_refl, Int.zero_lt_one, Int.toNat_natCast, List.take_length, Int.cast_ofNat_Int, Int.reduceAdd, Int.reduceSub, Int.reduceBEq, Int.reduceBNe, ge_iff_le, gt_iff_lt, decide_true, decide_false, Int.lt_irrefl, Nat.zero_add, Nat.add_zero]
  refine find_w m (by omega) l (by omega) tag _ fun H => ?_
  simp only [findAV]
  simp (maxSteps := 4000000) only [EV, EVF, XV, cond_true, cond_false, Bool.false_eq_true, Bool.true_eq_false, eq_self, normsOf, heapOf, drawsOf, shpOf, Try.f8, ↓reduceIte, Nat.reduceAdd, Nat.reduceLT, Nat.reduceEqDiff, Nat.reduceLeDiff, Nat.succ_ne_zero, Nat.zero_ne_one, Nat.one_ne_zero, ne_eq, not_false_eq_true, true_and, and_true, Nat.reduceMul, Nat.reduceSub, Int.reduceToNat, Int.toNat_zero, Int.toNat_one, Nat.zero_mul, Nat.one_mul, Int.reduceLT, Int.reduceLE, Int.le_refl, Int.zero_lt_one, Int.toNat_natCast, List.take_length, Int.cast_ofNat_Int, Int.reduceAdd, Int.reduceSub, Int.reduceBEq, Int.reduceBNe, ge_iff_le, gt_iff_lt, decide_true, decide_false, Int.lt_irrefl, Nat.zero_add, Nat.add_zero]
  refine loop_at (fun p : Nat × Bool => ⟨[(2, .v (.int .i64 tag)), (7, .v (.bool true)), (8, .row 0 2 0 l.length), (9, .v (.string (mk ((findS l tag).getD [])))), (10, .v (.bool (findS l tag).isSome)), (11, .v (.bool p.2)), (12, .v (.int .i64 p.1))], [some (.row 43 2 (l.map fv))]⟩) (fun p => p.1 ≤ l.length ∧ (p.2 = true ↔ ∃ f ∈ l.take p.1, f.1 = tag ∧ f.2 = (findS l tag).getD [])) (fun p => l.length - p.1) (0, false) ⟨by simp, by simp⟩ rfl ?_
  rintro ⟨k, here⟩ ⟨h1, h2⟩
  simp only at h1 h2
  by_cases hk : k < l.length
  · obtain ⟨f, hf, hd⟩ := drop_at hk
    have hf' := map_at (f := fv) hf
    have hk' : ((k : Int) < l.length) := by omega
    have hfind := find_each (rightGo_of hR) f (List.mem_of_getElem? hf)
    simp (maxSteps := 4000000) only [EV, EVF, XV, cond_true, cond_false, Bool.false_eq_true, Bool.true_eq_false, eq_self, normsOf, heapOf, drawsOf, shpOf, Try.f8, ↓reduceIte, Nat.reduceAdd, Nat.reduceLT, Nat.reduceEqDiff, Nat.reduceLeDiff, Nat.succ_ne_zero, Nat.zero_ne_one, Nat.one_ne_zero, ne_eq, not_false_eq_true, true_and, and_true, Nat.reduceMul, Nat.reduceSub, Int.reduceToNat, Int.toNat_zero, Int.toNat_one, Nat.zero_mul, Nat.one_mul, Int.reduceLT, Int.reduceLE, Int.le_refl, Int.zero_lt_one, Int.toNat_natCast, List.take_length, Int.cast_ofNat_Int, Int.reduceAdd, Int.reduceSub, Int.reduceBEq, Int.reduceBNe, ge_iff_le, gt_iff_lt, decide_true, decide_false, Int.lt_irrefl, Nat.zero_add, Nat.add_zero, hk', hf', fv]
    refine find_w m (by omega) l (by omega) f.1 _ fun H => ?_
    rw [hfind]
    simp only [findAV, Option.getD_some, Option.isSome_some]
    simp (maxSteps := 4000000) only [EV, EVF, XV, cond_true, cond_false, Bool.false_eq_true, Bool.true_eq_false, eq_self, normsOf, heapOf, drawsOf, shpOf, Try.f8, ↓reduceIte, Nat.reduceAdd, Nat.reduceLT, Nat.reduceEqDiff, Nat.reduceLeDiff, Nat.succ_ne_zero, Nat.zero_ne_one, Nat.one_ne_zero, ne_eq, not_false_eq_true, true_and, and_true, Nat.reduceMul, Nat.reduceSub, Int.reduceToNat, Int.toNat_zero, Int.toNat_one, Nat.zero_mul, Nat.one_mul, Int.reduceLT, Int.reduceLE, Int.le_refl, Int.zero_lt_one, Int.toNat_natCast, List.take_length, Int.cast_ofNat_Int, Int.reduceAdd, Int.reduceSub, Int.reduceBEq, Int.reduceBNe, ge_iff_le, gt_iff_lt, decide_true, decide_false, Int.lt_irrefl, Nat.zero_add, Nat.add_zero, hk', hf', fv]
    have step : ∀ b : Bool, (b = true ↔ here = true ∨ (f.1 = tag ∧ f.2 = (findS l tag).getD [])) → (b = true ↔ ∃ g ∈ l.take (k + 1), g.1 = tag ∧ g.2 = (findS l tag).getD []) := fun b hb => by
      rw [hb, h2, take_snoc' hf]
      constructor
      · rintro (⟨g, hg, h3⟩ | h3)
        · exact ⟨g, by simp [hg], h3⟩
        · exact ⟨f, by simp, h3⟩
      · rintro ⟨g, hg, h3⟩
        rcases List.mem_append.1 hg with hg | hg
        · exact .inl ⟨g, hg, h3⟩
        · simp only [List.mem_singleton] at hg
          subst hg
          exact .inr h3
    have w : IntKind.i64.wrap ((k : Int) + 1) = ((k + 1 : Nat) : Int) := wrap_succ hk (by omega)
    repeat' ((first | refine IF_dec (fun h => ?_) (fun h => ?_) | refine IF_beq (fun h => ?_) (fun h => ?_) | refine IF_bne (fun h => ?_) (fun h => ?_) | refine IF_of (fun h => ?_) (fun h => ?_)) <;> (try (simp (maxSteps := 4000000) only [EV, EVF, XV, cond_true, cond_false, Bool.false_eq_true, Bool.true_eq_false, eq_self, normsOf, heapOf, drawsOf, shpOf, Try.f8, ↓reduceIte, Nat.reduceAdd, Nat.reduceLT, Nat.reduceEqDiff, Nat.reduceLeDiff, Nat.succ_ne_zero, Nat.zero_ne_one, Nat.one_ne_zero, ne_eq, not_false_eq_true, true_and, and_true, Nat.reduceMul, Nat.reduceSub, Int.reduceToNat, Int.toNat_zero, Int.toNat_one, Nat.zero_mul, Nat.one_mul, Int.reduceLT, Int.reduceLE, Int.le_refl, Int.zero_lt_one, Int.toNat_natCast, List.take_length, Int.cast_ofNat_Int, Int.reduceAdd, Int.reduceSub, Int.reduceBEq, Int.reduceBNe, ge_iff_le, gt_iff_lt, decide_true, decide_false, Int.lt_irrefl, Nat.zero_add, Nat.add_zero, hk', hf', fv, w])))
    · exact ⟨(k + 1, true), ⟨by show k + 1 ≤ _; omega, step true (by simp_all)⟩, by show l.length - (k + 1) < _; omega, rfl⟩
    · exact ⟨(k + 1, _), ⟨by show k + 1 ≤ _; omega, step (decide (f.2 = (findS l tag).getD [])) (by simp_all)⟩, by show l.length - (k + 1) < _; omega, rfl⟩
    · exact ⟨(k + 1, false), ⟨by show k + 1 ≤ _; omega, step false (by simp_all)⟩, by show l.length - (k + 1) < _; omega, rfl⟩
  · have hk2 : k = l.length := by omega
    subst hk2
    rw [List.take_length] at h2
    have e : ((findS l tag).isSome == here) = true ∧ ((findS l tag).isSome = false → (findS l tag).getD [] = []) := by
      rcases findS_at (l := l) (tag := tag) with ⟨d, e1, f, e2, e3, e4⟩ | ⟨e1, e2⟩
      · rw [e1] at h2 ⊢
        have : here = true := h2.2 ⟨f, e2, e3, e4⟩
        simp [this]
      · rw [e1] at h2 ⊢
        have : here = false := by
          cases here
          · rfl
          · obtain ⟨f, h3, h4, _⟩ := h2.1 rfl
            exact absurd h4 (e2 f h3)
        simp [this]
    obtain ⟨e, e'⟩ := e
    simp (maxSteps := 4000000) only [EV, EVF, XV, cond_true, cond_false, Bool.false_eq_true, Bool.true_eq_false, eq_self, normsOf, heapOf, drawsOf, shpOf, Try.f8, ↓reduceIte, Nat.reduceAdd, Nat.reduceLT, Nat.reduceEqDiff, Nat.reduceLeDiff, Nat.succ_ne_zero, Nat.zero_ne_one, Nat.one_ne_zero, ne_eq, not_false_eq_true, true_and, and_true, Nat.reduceMul, Nat.reduceSub, Int.reduceToNat, Int.toNat_zero, Int.toNat_one, Nat.zero_mul, Nat.one_mul, Int.reduceLT, Int.reduceLE, Int.le_refl, Int.zero_lt_one, Int.toNat_natCast, List.take_length, Int.cast_ofNat_Int, Int.reduceAdd, Int.reduceSub, Int.reduceBEq, Int.reduceBNe, ge_iff_le, gt_iff_lt, decide_true, decide_false, Int.lt_irrefl, Nat.zero_add, Nat.add_zero, e]
    repeat' ((first | refine IF_dec (fun h => ?_) (fun h => ?_) | refine IF_beq (fun h => ?_) (fun h => ?_) | refine IF_bne (fun h => ?_) (fun h => ?_) | refine IF_of (fun h => ?_) (fun h => ?_)) <;> (try (simp (maxSteps := 4000000) only [EV, EVF, XV, cond_true, cond_false, Bool.false_eq_true, Bool.true_eq_false, eq_self, normsOf, heapOf, drawsOf, shpOf, Try.f8, ↓reduceIte, Nat.reduceAdd, Nat.reduceLT, Nat.reduceEqDiff, Nat.reduceLeDiff, Nat.succ_ne_zero, Nat.zero_ne_one, Nat.one_ne_zero, ne_eq, not_false_eq_true, true_and, and_true, Nat.reduceMul, Nat.reduceSub, Int.reduceToNat, Int.toNat_zero, Int.toNat_one, Nat.zero_mul, Nat.one_mul, Int.reduceLT, Int.reduceLE, Int.le_refl, Int.zero_lt_one, Int.toNat_natCast, List.take_length, Int.cast_ofNat_Int, Int.reduceAdd, Int.reduceSub, Int.reduceBEq, Int.reduceBNe, ge_iff_le, gt_iff_lt, decide_true, decide_false, Int.lt_irrefl, Nat.zero_add, Nat.add_zero])))
    all_goals first
      | rfl
      | (rw [e' (by assumption)]; rfl)
      | trace_state
end Go.Ai

/- field.Right, careenref02.Right, Find and Same, walked. -/
import Derived.Test.YtlklggododajiaaFieldS
import Derived.Test.YtlklggododajiaaAiFacts
set_option linter.unusedVariables false
set_option linter.unusedSimpArgs false
set_option maxRecDepth 100000
set_option maxHeartbeats 4000000
namespace Go.Ai
open Go.Proofs
theorem right_w (m : Nat) (hm : 1 ≤ m) (l : List Fld) (hl : l.length ≤ 9223372036854775807) (K : AV → Hp → Prop) (hK : K (.v (.bool (rightS l))) []) : wpF C m 29 [.lst 2 (l.map fv)] [] K := by
  obtain ⟨m, rfl⟩ : ∃ j, m = j + 1 := ⟨m - 1, by omega⟩; simp only [wpF, bodyA, fn_29, C_P, ok_29, C_prim, primOf, true_and]; simp (maxSteps := 4000000) only [EV, EVF, XV, cond_true, cond_false, Bool.false_eq_true, Bool.true_eq_false, eq_self, normsOf, cutsOf, heapOf, quietOf, drawsOf, shpOf, Try.f29, ↓reduceIte, Nat.reduceAdd, Nat.reduceLT, Nat.reduceEqDiff, Nat.reduceLeDiff, Nat.succ_ne_zero, Nat.zero_ne_one, Nat.one_ne_zero, ne_eq, not_false_eq_true, true_and, and_true, Nat.reduceMul, Nat.reduceSub, Int.reduceToNat, Int.toNat_zero, Int.toNat_one, Nat.zero_mul, Nat.one_mul, Int.reduceLT, Int.reduceLE, Int.le_refl, Int.zero_lt_one, Int.toNat_natCast, List.take_length, Int.cast_ofNat_Int, Int.reduceAdd, Int.reduceSub, Int.reduceBEq, Int.reduceBNe, ge_iff_le, gt_iff_lt, decide_true, decide_false, Int.lt_irrefl, Nat.zero_add, Nat.add_zero]
  refine loop_at (fun p : Nat × Int => ⟨[(0, .lst 2 (l.map fv)), (3, .v (.int .i64 p.2)), (6, .lst 2 (l.map fv)), (7, .v (.int .i64 l.length)), (8, .v (.int .i64 p.1))], []⟩) (fun p => p.1 ≤ l.length ∧ rightGo 0 l = rightGo p.2 (l.drop p.1)) (fun p => l.length - p.1) (0, 0) ⟨by simp, by simp⟩ rfl ?_
  rintro ⟨k, t⟩ ⟨h1, h2⟩
  simp only at h1 h2
  unfold rightS at hK
  by_cases hk : k < l.length
  · obtain ⟨f, hf, hd⟩ := drop_at hk
    have hf' := map_at (f := fv) hf
    have hk' : ((k : Int) < l.length) := by omega
    rw [hd] at h2
    simp only [rightGo] at h2
    simp (maxSteps := 4000000) only [EV, EVF, XV, cond_true, cond_false, Bool.false_eq_true, Bool.true_eq_false, eq_self, normsOf, cutsOf, heapOf, quietOf, drawsOf, shpOf, Try.f29, ↓reduceIte, Nat.reduceAdd, Nat.reduceLT, Nat.reduceEqDiff, Nat.reduceLeDiff, Nat.succ_ne_zero, Nat.zero_ne_one, Nat.one_ne_zero, ne_eq, not_false_eq_true, true_and, and_true, Nat.reduceMul, Nat.reduceSub, Int.reduceToNat, Int.toNat_zero, Int.toNat_one, Nat.zero_mul, Nat.one_mul, Int.reduceLT, Int.reduceLE, Int.le_refl, Int.zero_lt_one, Int.toNat_natCast, List.take_length, Int.cast_ofNat_Int, Int.reduceAdd, Int.reduceSub, Int.reduceBEq, Int.reduceBNe, ge_iff_le, gt_iff_lt, decide_true, decide_false, Int.lt_irrefl, Nat.zero_add, Nat.add_zero, hk', hf', fv, decide_true]
    repeat' ((first | refine IF_dec (fun h => ?_) (fun h => ?_) | refine IF_beq (fun h => ?_) (fun h => ?_) | refine IF_bne (fun h => ?_) (fun h => ?_) | refine IF_of (fun h => ?_) (fun h => ?_)) <;> (try (simp (maxSteps := 4000000) only [EV, EVF, XV, cond_true, cond_false, Bool.false_eq_true, Bool.true_eq_false, eq_self, normsOf, cutsOf, heapOf, quietOf, drawsOf, shpOf, Try.f29, ↓reduceIte, Nat.reduceAdd, Nat.reduceLT, Nat.reduceEqDiff, Nat.reduceLeDiff, Nat.succ_ne_zero, Nat.zero_ne_one, Nat.one_ne_zero, ne_eq, not_false_eq_true, true_and, and_true, Nat.reduceMul, Nat.reduceSub, Int.reduceToNat, Int.toNat_zero, Int.toNat_one, Nat.zero_mul, Nat.one_mul, Int.reduceLT, Int.reduceLE, Int.le_refl, Int.zero_lt_one, Int.toNat_natCast, List.take_length, Int.cast_ofNat_Int, Int.reduceAdd, Int.reduceSub, Int.reduceBEq, Int.reduceBNe, ge_iff_le, gt_iff_lt, decide_true, decide_false, Int.lt_irrefl, Nat.zero_add, Nat.add_zero, fv])))
    · simp only [h2, h, decide_true, Bool.true_or, Bool.not_true, Bool.false_and] at hK
      exact hK
    · simp only [h2, show (1000000 < f.1) from h, decide_true, Bool.or_true, Bool.true_or, Bool.not_true, Bool.false_and] at hK
      exact hK
    · simp only [h2, show (1000 < f.2.length) by omega, decide_true, Bool.or_true, Bool.not_true, Bool.false_and] at hK
      exact hK
    · rename_i g1 g2
      simp only [show ¬ (f.1 ≤ t) from g1, show ¬ (1000000 < f.1) from g2, show ¬ (1000 < f.2.length) by omega, decide_false, Bool.or_false, Bool.not_false, Bool.true_and] at h2
      refine ⟨(k + 1, f.1), ⟨by show k + 1 ≤ _; omega, h2⟩, by show l.length - (k + 1) < l.length - k; omega, ?_⟩
      rw [wrap_succ (n := l.length) (by omega) hl]
  · have hk2 : k = l.length := by omega
    subst hk2
    simp (maxSteps := 4000000) only [EV, EVF, XV, cond_true, cond_false, Bool.false_eq_true, Bool.true_eq_false, eq_self, normsOf, cutsOf, heapOf, quietOf, drawsOf, shpOf, Try.f29, ↓reduceIte, Nat.reduceAdd, Nat.reduceLT, Nat.reduceEqDiff, Nat.reduceLeDiff, Nat.succ_ne_zero, Nat.zero_ne_one, Nat.one_ne_zero, ne_eq, not_false_eq_true, true_and, and_true, Nat.reduceMul, Nat.reduceSub, Int.reduceToNat, Int.toNat_zero, Int.toNat_one, Nat.zero_mul, Nat.one_mul, Int.reduceLT, Int.reduceLE, Int.le_refl, Int.zero_lt_one, Int.toNat_natCast, List.take_length, Int.cast_ofNat_Int, Int.reduceAdd, Int.reduceSub, Int.reduceBEq, Int.reduceBNe, ge_iff_le, gt_iff_lt, decide_true, decide_false, Int.lt_irrefl, Nat.zero_add, Nat.add_zero, Int.lt_irrefl, decide_false]
    rw [List.drop_length] at h2
    simp only [h2, rightGo, Bool.true_and] at hK
    have he : decide (l.length ≤ 64) = decide ((l.length : Int) ≤ 64) := by rw [decide_eq_decide]; omega
    rw [← he]
    exact hK
/-- The last tag ahead of a place. -/
def lastTag (l : List Fld) (k : Nat) : Int := match k with
  | 0 => 0
  | k + 1 => ((l[k]?).map (·.1)).getD 0
theorem rright_w (m : Nat) (hm : 1 ≤ m) (l : List Fld) (hl : l.length ≤ 9223372036854775807) (K : AV → Hp → Prop) (hK : K (.v (.bool (rightS l))) []) : wpF C m 34 [.lst 2 (l.map fv)] [] K := by
  obtain ⟨m, rfl⟩ : ∃ j, m = j + 1 := ⟨m - 1, by omega⟩; simp only [wpF, bodyA, fn_34, C_P, ok_34, C_prim, primOf, true_and]; simp (maxSteps := 4000000) only [EV, EVF, XV, cond_true, cond_false, Bool.false_eq_true, Bool.true_eq_false, eq_self, normsOf, cutsOf, heapOf, quietOf, drawsOf, shpOf, Try.f34, ↓reduceIte, Nat.reduceAdd, Nat.reduceLT, Nat.reduceEqDiff, Nat.reduceLeDiff, Nat.succ_ne_zero, Nat.zero_ne_one, Nat.one_ne_zero, ne_eq, not_false_eq_true, true_and, and_true, Nat.reduceMul, Nat.reduceSub, Int.reduceToNat, Int.toNat_zero, Int.toNat_one, Nat.zero_mul, Nat.one_mul, Int.reduceLT, Int.reduceLE, Int.le_refl, Int.zero_lt_one, Int.toNat_natCast, List.take_length, Int.cast_ofNat_Int, Int.reduceAdd, Int.reduceSub, Int.reduceBEq, Int.reduceBNe, ge_iff_le, gt_iff_lt, decide_true, decide_false, Int.lt_irrefl, Nat.zero_add, Nat.add_zero]
  refine loop_at (fun k : Nat => ⟨[(0, .lst 2 (l.map fv)), (3, .v (.int .i64 k))], []⟩) (fun k => k ≤ l.length ∧ (k = 0 ∨ 1 ≤ lastTag l k) ∧ rightGo 0 l = rightGo (lastTag l k) (l.drop k)) (fun k => l.length - k) 0 ⟨by simp, .inl rfl, by simp [lastTag]⟩ rfl ?_
  rintro k ⟨h1, h0, h2⟩
  unfold rightS at hK
  by_cases hk : k < l.length
  · obtain ⟨f, hf, hd⟩ := drop_at hk
    have hf' := map_at (f := fv) hf
    have hk' : ((k : Int) < l.length) := by omega
    rw [hd] at h2
    simp only [rightGo] at h2
    have no : (f.1 ≤ lastTag l k ∨ 1000000 < f.1 ∨ 1000 < f.2.length) → K (.v (.bool false)) [] := fun h => by
      have : rightGo 0 l = false := by
        rw [h2]
        rcases h with h | h | h <;> simp [h]
      rw [this] at hK
      exact hK
    have yes : ¬ (f.1 ≤ lastTag l k ∨ 1000000 < f.1 ∨ 1000 < f.2.length) → k + 1 ≤ l.length ∧ (k + 1 = 0 ∨ 1 ≤ lastTag l (k + 1)) ∧ rightGo 0 l = rightGo (lastTag l (k + 1)) (l.drop (k + 1)) := fun h => by
      simp only [not_or] at h
      have e : lastTag l (k + 1) = f.1 := by simp [lastTag, hf]
      refine ⟨by omega, .inr ?_, ?_⟩
      · rw [e]
        rcases h0 with rfl | h0
        · have := h.1
          simp only [lastTag] at this
          omega
        · omega
      · rw [h2, e]
        simp [h.1, h.2.1, h.2.2]
    cases k with
    | zero =>
      have hk0 : (0 : Int) < l.length := by omega
      simp (maxSteps := 4000000) only [EV, EVF, XV, cond_true, cond_false, Bool.false_eq_true, Bool.true_eq_false, eq_self, normsOf, cutsOf, heapOf, quietOf, drawsOf, shpOf, Try.f34, ↓reduceIte, Nat.reduceAdd, Nat.reduceLT, Nat.reduceEqDiff, Nat.reduceLeDiff, Nat.succ_ne_zero, Nat.zero_ne_one, Nat.one_ne_zero, ne_eq, not_false_eq_true, true_and, and_true, Nat.reduceMul, Nat.reduceSub, Int.reduceToNat, Int.toNat_zero, Int.toNat_one, Nat.zero_mul, Nat.one_mul, Int.reduceLT, Int.reduceLE, Int.le_refl, Int.zero_lt_one, Int.toNat_natCast, List.take_length, Int.cast_ofNat_Int, Int.reduceAdd, Int.reduceSub, Int.reduceBEq, Int.reduceBNe, ge_iff_le, gt_iff_lt, decide_true, decide_false, Int.lt_irrefl, Nat.zero_add, Nat.add_zero, hk0, hf', fv, decide_true]
      repeat' ((first | refine IF_dec (fun h => ?_) (fun h => ?_) | refine IF_beq (fun h => ?_) (fun h => ?_) | refine IF_bne (fun h => ?_) (fun h => ?_) | refine IF_of (fun h => ?_) (fun h => ?_)) <;> (try (simp (maxSteps := 4000000) only [EV, EVF, XV, cond_true, cond_false, Bool.false_eq_true, Bool.true_eq_false, eq_self, normsOf, cutsOf, heapOf, quietOf, drawsOf, shpOf, Try.f34, ↓reduceIte, Nat.reduceAdd, Nat.reduceLT, Nat.reduceEqDiff, Nat.reduceLeDiff, Nat.succ_ne_zero, Nat.zero_ne_one, Nat.one_ne_zero, ne_eq, not_false_eq_true, true_and, and_true, Nat.reduceMul, Nat.reduceSub, Int.reduceToNat, Int.toNat_zero, Int.toNat_one, Nat.zero_mul, Nat.one_mul, Int.reduceLT, Int.reduceLE, Int.le_refl, Int.zero_lt_one, Int.toNat_natCast, List.take_length, Int.cast_ofNat_Int, Int.reduceAdd, Int.reduceSub, Int.reduceBEq, Int.reduceBNe, ge_iff_le, gt_iff_lt, decide_true, decide_false, Int.lt_irrefl, Nat.zero_add, Nat.add_zero, hf', fv])))
      all_goals first
        | (exfalso; simp at h; done)
        | exact no (by simp only [lastTag]; omega)
        | skip
      · exact ⟨1, yes (by simp only [lastTag]; omega), by omega, rfl⟩
    | succ k =>
      obtain ⟨g, hg⟩ : ∃ g, l[k]? = some g := ⟨l[k], List.getElem?_eq_getElem (by omega)⟩
      have hg' := map_at (f := fv) hg
      have el : lastTag l (k + 1) = g.1 := by simp [lastTag, hg]
      have hw : IntKind.i64.wrap (((k + 1 : Nat) : Int) - 1) = (k : Int) := by rw [wrap64 (by omega) (by omega)]; omega
      have h0' : 1 ≤ g.1 := by rw [← el]; omega
      simp (maxSteps := 4000000) only [EV, EVF, XV, cond_true, cond_false, Bool.false_eq_true, Bool.true_eq_false, eq_self, normsOf, cutsOf, heapOf, quietOf, drawsOf, shpOf, Try.f34, ↓reduceIte, Nat.reduceAdd, Nat.reduceLT, Nat.reduceEqDiff, Nat.reduceLeDiff, Nat.succ_ne_zero, Nat.zero_ne_one, Nat.one_ne_zero, ne_eq, not_false_eq_true, true_and, and_true, Nat.reduceMul, Nat.reduceSub, Int.reduceToNat, Int.toNat_zero, Int.toNat_one, Nat.zero_mul, Nat.one_mul, Int.reduceLT, Int.reduceLE, Int.le_refl, Int.zero_lt_one, Int.toNat_natCast, List.take_length, Int.cast_ofNat_Int, Int.reduceAdd, Int.reduceSub, Int.reduceBEq, Int.reduceBNe, ge_iff_le, gt_iff_lt, decide_true, decide_false, Int.lt_irrefl, Nat.zero_add, Nat.add_zero, hk', hf', fv, decide_true]
      repeat' ((first | refine IF_dec (fun h => ?_) (fun h => ?_) | refine IF_beq (fun h => ?_) (fun h => ?_) | refine IF_bne (fun h => ?_) (fun h => ?_) | refine IF_of (fun h => ?_) (fun h => ?_)) <;> (try (simp (maxSteps := 4000000) only [EV, EVF, XV, cond_true, cond_false, Bool.false_eq_true, Bool.true_eq_false, eq_self, normsOf, cutsOf, heapOf, quietOf, drawsOf, shpOf, Try.f34, ↓reduceIte, Nat.reduceAdd, Nat.reduceLT, Nat.reduceEqDiff, Nat.reduceLeDiff, Nat.succ_ne_zero, Nat.zero_ne_one, Nat.one_ne_zero, ne_eq, not_false_eq_true, true_and, and_true, Nat.reduceMul, Nat.reduceSub, Int.reduceToNat, Int.toNat_zero, Int.toNat_one, Nat.zero_mul, Nat.one_mul, Int.reduceLT, Int.reduceLE, Int.le_refl, Int.zero_lt_one, Int.toNat_natCast, List.take_length, Int.cast_ofNat_Int, Int.reduceAdd, Int.reduceSub, Int.reduceBEq, Int.reduceBNe, ge_iff_le, gt_iff_lt, decide_true, decide_false, Int.lt_irrefl, Nat.zero_add, Nat.add_zero, hf', hg', hw, fv])))
      all_goals first
        | exact no (by rw [el]; omega)
        | skip
      all_goals first
        | exact ⟨k + 2, yes (by rw [el]; omega), by omega, by rw [wrap64 (by omega) (by omega)]; rfl⟩
        | (exfalso; omega)
  · have hk2 : k = l.length := by omega
    subst hk2
    simp (maxSteps := 4000000) only [EV, EVF, XV, cond_true, cond_false, Bool.false_eq_true, Bool.true_eq_false, eq_self, normsOf, cutsOf, heapOf, quietOf, drawsOf, shpOf, Try.f34, ↓reduceIte, Nat.reduceAdd, Nat.reduceLT, Nat.reduceEqDiff, Nat.reduceLeDiff, Nat.succ_ne_zero, Nat.zero_ne_one, Nat.one_ne_zero, ne_eq, not_false_eq_true, true_and, and_true, Nat.reduceMul, Nat.reduceSub, Int.reduceToNat, Int.toNat_zero, Int.toNat_one, Nat.zero_mul, Nat.one_mul, Int.reduceLT, Int.reduceLE, Int.le_refl, Int.zero_lt_one, Int.toNat_natCast, List.take_length, Int.cast_ofNat_Int, Int.reduceAdd, Int.reduceSub, Int.reduceBEq, Int.reduceBNe, ge_iff_le, gt_iff_lt, decide_true, decide_false, Int.lt_irrefl, Nat.zero_add, Nat.add_zero, Int.lt_irrefl, decide_false]
    rw [List.drop_length] at h2
    simp only [h2, rightGo, Bool.true_and] at hK
    have he : decide (l.length ≤ 64) = decide ((l.length : Int) ≤ 64) := by rw [decide_eq_decide]; omega
    rw [← he]
    exact hK

end Go.Ai

/- SessionFar: the machine's word. -/
import Derived.Test.YtakibkfalckhiaaSes6
import Derived.Test.YtakibkfalckhiaaSesQ
set_option linter.unusedVariables false
set_option linter.unusedSimpArgs false
set_option maxRecDepth 100000
set_option maxHeartbeats 4000000
namespace Go.Ai
open Go.Proofs
theorem sfar_law (m : Nat) (hm : 10 ≤ m) (n : Int) (hn : i64ok n) (far : Int) (hfar : i64ok far) : wpF C m 7 [.v (.int .i64 n), .v (.int .i64 far)] [] fun r _ => r = .v (.bool true) := by
  obtain ⟨m, rfl⟩ : ∃ j, m = j + 1 := ⟨m - 1, by omega⟩; simp only [wpF, bodyA, fn_7, C_P, ok_7, C_prim, primOf, true_and]; simp (maxSteps := 4000000) only [EV, EVF, XV, cond_true, cond_false, Bool.false_eq_true, Bool.true_eq_false, eq_self, normsOf, cutsOf, heapOf, quietOf, drawsOf, drawmOf, opnOf, shutOf, iceOf, extOf, extOverlaps_eq, overB_eq, extCmp_eq, shpOf, Try.f7, ↓reduceIte, Nat.reduceAdd, Nat.reduceLT, Nat.reduceEqDiff, Nat.reduceLeDiff, Nat.succ_ne_zero, Nat.zero_ne_one, Nat.one_ne_zero, ne_eq, not_false_eq_true, true_and, and_true, Nat.reduceMul, Nat.reduceSub, Int.reduceToNat, Int.toNat_zero, Int.toNat_one, Nat.zero_mul, Nat.one_mul, Int.reduceLT, Int.reduceLE, Int.le_refl, Int.zero_lt_one, Int.toNat_natCast, List.take_length, Int.cast_ofNat_Int, Int.reduceAdd, Int.reduceSub, Int.reduceBEq, Int.reduceBNe, ge_iff_le, gt_iff_lt, decide_true, decide_false, Int.lt_irrefl, Nat.zero_add, Nat.add_zero]
  refine awake10_w m (by omega) _ fun H => ?_
  simp (maxSteps := 4000000) only [EV, EVF, XV, cond_true, cond_false, Bool.false_eq_true, Bool.true_eq_false, eq_self, normsOf, cutsOf, heapOf, quietOf, drawsOf, drawmOf, opnOf, shutOf, iceOf, extOf, extOverlaps_eq, overB_eq, extCmp_eq, shpOf, Try.f7, ↓reduceIte, Nat.reduceAdd, Nat.reduceLT, Nat.reduceEqDiff, Nat.reduceLeDiff, Nat.succ_ne_zero, Nat.zero_ne_one, Nat.one_ne_zero, ne_eq, not_false_eq_true, true_and, and_true, Nat.reduceMul, Nat.reduceSub, Int.reduceToNat, Int.toNat_zero, Int.toNat_one, Nat.zero_mul, Nat.one_mul, Int.reduceLT, Int.reduceLE, Int.le_refl, Int.zero_lt_one, Int.toNat_natCast, List.take_length, Int.cast_ofNat_Int, Int.reduceAdd, Int.reduceSub, Int.reduceBEq, Int.reduceBNe, ge_iff_le, gt_iff_lt, decide_true, decide_false, Int.lt_irrefl, Nat.zero_add, Nat.add_zero]
  refine pick10_w m (by omega) _ _ (by omega) _ ?_
  have hb := pickN_bd hn.1 hn.2 (show (0:Int) < 100 by decide)
  obtain ⟨k, hk⟩ : ∃ k : Nat, pickN n 100 = k := ⟨(pickN n 100).toNat, by omega⟩
  rw [hk] at hb ⊢
  simp (maxSteps := 4000000) only [EV, EVF, XV, cond_true, cond_false, Bool.false_eq_true, Bool.true_eq_false, eq_self, normsOf, cutsOf, heapOf, quietOf, drawsOf, drawmOf, opnOf, shutOf, iceOf, extOf, extOverlaps_eq, overB_eq, extCmp_eq, shpOf, Try.f7, ↓reduceIte, Nat.reduceAdd, Nat.reduceLT, Nat.reduceEqDiff, Nat.reduceLeDiff, Nat.succ_ne_zero, Nat.zero_ne_one, Nat.one_ne_zero, ne_eq, not_false_eq_true, true_and, and_true, Nat.reduceMul, Nat.reduceSub, Int.reduceToNat, Int.toNat_zero, Int.toNat_one, Nat.zero_mul, Nat.one_mul, Int.reduceLT, Int.reduceLE, Int.le_refl, Int.zero_lt_one, Int.toNat_natCast, List.take_length, Int.cast_ofNat_Int, Int.reduceAdd, Int.reduceSub, Int.reduceBEq, Int.reduceBNe, ge_iff_le, gt_iff_lt, decide_true, decide_false, Int.lt_irrefl, Nat.zero_add, Nat.add_zero]
  refine pick10_w m (by omega) _ _ (by omega) _ ?_
  have hb2 := pickN_bd hfar.1 hfar.2 (show (0:Int) < 30 by decide)
  obtain ⟨f, hf⟩ : ∃ f : Nat, pickN far 30 = f := ⟨(pickN far 30).toNat, by omega⟩
  rw [hf] at hb2 ⊢
  have w1 : IntKind.i64.wrap (65 + (f : Int)) = ((65 + f : Nat) : Int) := by rw [wrap64 (by omega) (by omega)]; omega
  simp (maxSteps := 4000000) only [EV, EVF, XV, cond_true, cond_false, Bool.false_eq_true, Bool.true_eq_false, eq_self, normsOf, cutsOf, heapOf, quietOf, drawsOf, drawmOf, opnOf, shutOf, iceOf, extOf, extOverlaps_eq, overB_eq, extCmp_eq, shpOf, Try.f7, ↓reduceIte, Nat.reduceAdd, Nat.reduceLT, Nat.reduceEqDiff, Nat.reduceLeDiff, Nat.succ_ne_zero, Nat.zero_ne_one, Nat.one_ne_zero, ne_eq, not_false_eq_true, true_and, and_true, Nat.reduceMul, Nat.reduceSub, Int.reduceToNat, Int.toNat_zero, Int.toNat_one, Nat.zero_mul, Nat.one_mul, Int.reduceLT, Int.reduceLE, Int.le_refl, Int.zero_lt_one, Int.toNat_natCast, List.take_length, Int.cast_ofNat_Int, Int.reduceAdd, Int.reduceSub, Int.reduceBEq, Int.reduceBNe, ge_iff_le, gt_iff_lt, decide_true, decide_false, Int.lt_irrefl, Nat.zero_add, Nat.add_zero, w1]
  refine new_w m (by omega) _ ?_
  simp (maxSteps := 4000000) only [EV, EVF, XV, cond_true, cond_false, Bool.false_eq_true, Bool.true_eq_false, eq_self, normsOf, cutsOf, heapOf, quietOf, drawsOf, drawmOf, opnOf, shutOf, iceOf, extOf, extOverlaps_eq, overB_eq, extCmp_eq, shpOf, Try.f7, ↓reduceIte, Nat.reduceAdd, Nat.reduceLT, Nat.reduceEqDiff, Nat.reduceLeDiff, Nat.succ_ne_zero, Nat.zero_ne_one, Nat.one_ne_zero, ne_eq, not_false_eq_true, true_and, and_true, Nat.reduceMul, Nat.reduceSub, Int.reduceToNat, Int.toNat_zero, Int.toNat_one, Nat.zero_mul, Nat.one_mul, Int.reduceLT, Int.reduceLE, Int.le_refl, Int.zero_lt_one, Int.toNat_natCast, List.take_length, Int.cast_ofNat_Int, Int.reduceAdd, Int.reduceSub, Int.reduceBEq, Int.reduceBNe, ge_iff_le, gt_iff_lt, decide_true, decide_false, Int.lt_irrefl, Nat.zero_add, Nat.add_zero, w1]
  have hright : ∀ (i : Nat) (l : List Int), i ≤ 1000 → (∀ x ∈ l, (i : Int) + 1 < x ∧ x ≤ i + 64) → l.Pairwise (· < ·) → sright ⟨1, i, l⟩ = true := fun i l hi hl hp => by
    rw [sright_iff]
    exact ⟨⟨by simp, by simp⟩, ⟨by simp only; omega, by simp only; omega⟩, fun n hn => by have := hl n hn; simp only; omega, hp⟩
  have hstep : ∀ (i : Nat), i < 100 → takeS' ⟨1, i, []⟩ (((i + 1 : Nat) : Int)) = ⟨⟨1, ((i + 1 : Nat) : Int), []⟩, true, 0⟩ := fun i hi => by
    unfold takeS'
    rw [if_pos ⟨hright i [] (by omega) (by simp) (by simp), by omega, by omega⟩, if_neg (by simp only; omega), if_neg (by simp only; omega), if_neg (by simp)]
    simp [absorb]
  refine loop_at (fun i : Nat => ⟨[(5, .v (.bool true)), (6, .v (.int .i64 k)), (7, .v (.int .i64 ((65 + f : Nat) : Int))), (8, .ptr 0 0), (9, .v (.int .i64 ((i + 1 : Nat) : Int)))], [some (.var 24 [.v (.int .i64 1), .v (.int .i64 i), .lst 1 []])]⟩) (fun i => i ≤ k) (fun i => k - i) 0 (by simp) rfl ?_
  intro i hik
  by_cases hlt : i < k
  · have q1 : (((i + 1 : Nat) : Int) ≤ (k : Int)) = True := by simp; omega
    have w2 : IntKind.i64.wrap (((i + 1 : Nat) : Int) + 1) = ((i + 1 + 1 : Nat) : Int) := by rw [wrap64 (by omega) (by omega)]; omega
    simp (maxSteps := 4000000) only [EV, EVF, XV, cond_true, cond_false, Bool.false_eq_true, Bool.true_eq_false, eq_self, normsOf, cutsOf, heapOf, quietOf, drawsOf, drawmOf, opnOf, shutOf, iceOf, extOf, extOverlaps_eq, overB_eq, extCmp_eq, shpOf, Try.f7, ↓reduceIte, Nat.reduceAdd, Nat.reduceLT, Nat.reduceEqDiff, Nat.reduceLeDiff, Nat.succ_ne_zero, Nat.zero_ne_one, Nat.one_ne_zero, ne_eq, not_false_eq_true, true_and, and_true, Nat.reduceMul, Nat.reduceSub, Int.reduceToNat, Int.toNat_zero, Int.toNat_one, Nat.zero_mul, Nat.one_mul, Int.reduceLT, Int.reduceLE, Int.le_refl, Int.zero_lt_one, Int.toNat_natCast, List.take_length, Int.cast_ofNat_Int, Int.reduceAdd, Int.reduceSub, Int.reduceBEq, Int.reduceBNe, ge_iff_le, gt_iff_lt, decide_true, decide_false, Int.lt_irrefl, Nat.zero_add, Nat.add_zero, q1]
    refine take_w' m (by omega) ⟨1, i, []⟩ (by simp) ((i + 1 : Nat) : Int) ⟨by omega, by omega⟩ _ ?_
    rw [hstep i (by omega)]
    simp only [TakeR.av, sv, List.map_nil]
    simp (maxSteps := 4000000) only [EV, EVF, XV, cond_true, cond_false, Bool.false_eq_true, Bool.true_eq_false, eq_self, normsOf, cutsOf, heapOf, quietOf, drawsOf, drawmOf, opnOf, shutOf, iceOf, extOf, extOverlaps_eq, overB_eq, extCmp_eq, shpOf, Try.f7, ↓reduceIte, Nat.reduceAdd, Nat.reduceLT, Nat.reduceEqDiff, Nat.reduceLeDiff, Nat.succ_ne_zero, Nat.zero_ne_one, Nat.one_ne_zero, ne_eq, not_false_eq_true, true_and, and_true, Nat.reduceMul, Nat.reduceSub, Int.reduceToNat, Int.toNat_zero, Int.toNat_one, Nat.zero_mul, Nat.one_mul, Int.reduceLT, Int.reduceLE, Int.le_refl, Int.zero_lt_one, Int.toNat_natCast, List.take_length, Int.cast_ofNat_Int, Int.reduceAdd, Int.reduceSub, Int.reduceBEq, Int.reduceBNe, ge_iff_le, gt_iff_lt, decide_true, decide_false, Int.lt_irrefl, Nat.zero_add, Nat.add_zero, q1, w2, bne_self_eq_false, beq_self_eq_true]
    exact ⟨i + 1, by omega, by omega, rfl⟩
  · have hie : i = k := by omega
    subst hie
    have q1 : (((i + 1 : Nat) : Int) ≤ (i : Int)) = False := by simp; omega
    have w3 : IntKind.i64.wrap ((i : Int) + ((65 + f : Nat) : Int)) = ((i + (65 + f) : Nat) : Int) := by rw [wrap64 (by omega) (by omega)]; omega
    simp (maxSteps := 4000000) only [EV, EVF, XV, cond_true, cond_false, Bool.false_eq_true, Bool.true_eq_false, eq_self, normsOf, cutsOf, heapOf, quietOf, drawsOf, drawmOf, opnOf, shutOf, iceOf, extOf, extOverlaps_eq, overB_eq, extCmp_eq, shpOf, Try.f7, ↓reduceIte, Nat.reduceAdd, Nat.reduceLT, Nat.reduceEqDiff, Nat.reduceLeDiff, Nat.succ_ne_zero, Nat.zero_ne_one, Nat.one_ne_zero, ne_eq, not_false_eq_true, true_and, and_true, Nat.reduceMul, Nat.reduceSub, Int.reduceToNat, Int.toNat_zero, Int.toNat_one, Nat.zero_mul, Nat.one_mul, Int.reduceLT, Int.reduceLE, Int.le_refl, Int.zero_lt_one, Int.toNat_natCast, List.take_length, Int.cast_ofNat_Int, Int.reduceAdd, Int.reduceSub, Int.reduceBEq, Int.reduceBNe, ge_iff_le, gt_iff_lt, decide_true, decide_false, Int.lt_irrefl, Nat.zero_add, Nat.add_zero, q1, w3]
    refine take_w' m (by omega) ⟨1, i, []⟩ (by simp) ((i + (65 + f) : Nat) : Int) ⟨by omega, by omega⟩ _ ?_
    have ht1 : takeS' ⟨1, i, []⟩ ((i + (65 + f) : Nat) : Int) = ⟨⟨1, i, []⟩, false, 60⟩ := by
      unfold takeS'
      rw [if_pos ⟨hright i [] (by omega) (by simp) (by simp), by omega, by omega⟩, if_pos (by simp only; omega)]
    rw [ht1]
    simp only [TakeR.av, sv, List.map_nil]
    have w4 : IntKind.i64.wrap ((i : Int) + 64) = ((i + 64 : Nat) : Int) := by rw [wrap64 (by omega) (by omega)]; omega
    simp (maxSteps := 4000000) only [EV, EVF, XV, cond_true, cond_false, Bool.false_eq_true, Bool.true_eq_false, eq_self, normsOf, cutsOf, heapOf, quietOf, drawsOf, drawmOf, opnOf, shutOf, iceOf, extOf, extOverlaps_eq, overB_eq, extCmp_eq, shpOf, Try.f7, ↓reduceIte, Nat.reduceAdd, Nat.reduceLT, Nat.reduceEqDiff, Nat.reduceLeDiff, Nat.succ_ne_zero, Nat.zero_ne_one, Nat.one_ne_zero, ne_eq, not_false_eq_true, true_and, and_true, Nat.reduceMul, Nat.reduceSub, Int.reduceToNat, Int.toNat_zero, Int.toNat_one, Nat.zero_mul, Nat.one_mul, Int.reduceLT, Int.reduceLE, Int.le_refl, Int.zero_lt_one, Int.toNat_natCast, List.take_length, Int.cast_ofNat_Int, Int.reduceAdd, Int.reduceSub, Int.reduceBEq, Int.reduceBNe, ge_iff_le, gt_iff_lt, decide_true, decide_false, Int.lt_irrefl, Nat.zero_add, Nat.add_zero, q1, w3, w4]
    refine take_w' m (by omega) ⟨1, i, []⟩ (by simp) ((i + 64 : Nat) : Int) ⟨by omega, by omega⟩ _ ?_
    have ht2 : takeS' ⟨1, i, []⟩ ((i + 64 : Nat) : Int) = ⟨⟨1, i, [((i + 64 : Nat) : Int)]⟩, true, 0⟩ := by
      unfold takeS'
      rw [if_pos ⟨hright i [] (by omega) (by simp) (by simp), by omega, by omega⟩, if_neg (by simp only; omega), if_neg (by simp only; omega), if_neg (by simp)]
      simp only [List.filter_nil, List.nil_append, absorb]
      rw [if_neg (by omega)]
    rw [ht2]
    simp only [TakeR.av, sv, List.map_nil, List.map_cons, iv]
    simp (maxSteps := 4000000) only [EV, EVF, XV, cond_true, cond_false, Bool.false_eq_true, Bool.true_eq_false, eq_self, normsOf, cutsOf, heapOf, quietOf, drawsOf, drawmOf, opnOf, shutOf, iceOf, extOf, extOverlaps_eq, overB_eq, extCmp_eq, shpOf, Try.f7, ↓reduceIte, Nat.reduceAdd, Nat.reduceLT, Nat.reduceEqDiff, Nat.reduceLeDiff, Nat.succ_ne_zero, Nat.zero_ne_one, Nat.one_ne_zero, ne_eq, not_false_eq_true, true_and, and_true, Nat.reduceMul, Nat.reduceSub, Int.reduceToNat, Int.toNat_zero, Int.toNat_one, Nat.zero_mul, Nat.one_mul, Int.reduceLT, Int.reduceLE, Int.le_refl, Int.zero_lt_one, Int.toNat_natCast, List.take_length, Int.cast_ofNat_Int, Int.reduceAdd, Int.reduceSub, Int.reduceBEq, Int.reduceBNe, ge_iff_le, gt_iff_lt, decide_true, decide_false, Int.lt_irrefl, Nat.zero_add, Nat.add_zero, q1, w3, w4, bne_self_eq_false, beq_self_eq_true]
    refine same10_w m (by omega) ⟨1, i, []⟩ ⟨1, i, []⟩ (by simp) _ fun H => ?_
    rw [decide_eq_true rfl]
    simp (maxSteps := 4000000) only [EV, EVF, XV, cond_true, cond_false, Bool.false_eq_true, Bool.true_eq_false, eq_self, normsOf, cutsOf, heapOf, quietOf, drawsOf, drawmOf, opnOf, shutOf, iceOf, extOf, extOverlaps_eq, overB_eq, extCmp_eq, shpOf, Try.f7, ↓reduceIte, Nat.reduceAdd, Nat.reduceLT, Nat.reduceEqDiff, Nat.reduceLeDiff, Nat.succ_ne_zero, Nat.zero_ne_one, Nat.one_ne_zero, ne_eq, not_false_eq_true, true_and, and_true, Nat.reduceMul, Nat.reduceSub, Int.reduceToNat, Int.toNat_zero, Int.toNat_one, Nat.zero_mul, Nat.one_mul, Int.reduceLT, Int.reduceLE, Int.le_refl, Int.zero_lt_one, Int.toNat_natCast, List.take_length, Int.cast_ofNat_Int, Int.reduceAdd, Int.reduceSub, Int.reduceBEq, Int.reduceBNe, ge_iff_le, gt_iff_lt, decide_true, decide_false, Int.lt_irrefl, Nat.zero_add, Nat.add_zero, q1, w3, w4, bne_self_eq_false, beq_self_eq_true]
    have w5 : IntKind.i64.wrap ((i : Int) + 1) = ((i + 1 : Nat) : Int) := by rw [wrap64 (by omega) (by omega)]; omega
    have w6 : IntKind.i64.wrap (((i + (65 + f) : Nat) : Int) - 64) = ((i + f + 1 : Nat) : Int) := by rw [wrap64 (by omega) (by omega)]; omega
    simp (maxSteps := 4000000) only [EV, EVF, XV, cond_true, cond_false, Bool.false_eq_true, Bool.true_eq_false, eq_self, normsOf, cutsOf, heapOf, quietOf, drawsOf, drawmOf, opnOf, shutOf, iceOf, extOf, extOverlaps_eq, overB_eq, extCmp_eq, shpOf, Try.f7, ↓reduceIte, Nat.reduceAdd, Nat.reduceLT, Nat.reduceEqDiff, Nat.reduceLeDiff, Nat.succ_ne_zero, Nat.zero_ne_one, Nat.one_ne_zero, ne_eq, not_false_eq_true, true_and, and_true, Nat.reduceMul, Nat.reduceSub, Int.reduceToNat, Int.toNat_zero, Int.toNat_one, Nat.zero_mul, Nat.one_mul, Int.reduceLT, Int.reduceLE, Int.le_refl, Int.zero_lt_one, Int.toNat_natCast, List.take_length, Int.cast_ofNat_Int, Int.reduceAdd, Int.reduceSub, Int.reduceBEq, Int.reduceBNe, ge_iff_le, gt_iff_lt, decide_true, decide_false, Int.lt_irrefl, Nat.zero_add, Nat.add_zero, q1, w3, w4, w5, bne_self_eq_false, beq_self_eq_true]
    have hr4 : ∀ j : Nat, i ≤ j → j ≤ i + f + 1 → sright ⟨1, j, [((i + 64 : Nat) : Int)]⟩ = true := fun j h1 h2 => hright j _ (by omega) (fun x hx => by simp at hx; omega) (by simp)
    refine loop_at (fun j : Nat => ⟨[(5, .v (.bool true)), (6, .v (.int .i64 i)), (7, .v (.int .i64 ((65 + f : Nat) : Int))), (16, .ptr 0 0), (19, .v (.int .i64 ((j + 1 : Nat) : Int)))], [some (.var 24 [.v (.int .i64 1), .v (.int .i64 j), .lst 1 [[.v (.int .i64 ((i + 64 : Nat) : Int))]]])]⟩) (fun j => i ≤ j ∧ j ≤ i + f + 1) (fun j => i + f + 1 - j) i ⟨by omega, by omega⟩ rfl ?_
    rintro j ⟨hj1, hj2⟩
    by_cases hlt2 : j < i + f + 1
    · have q2 : (((j + 1 : Nat) : Int) ≤ ((i + f + 1 : Nat) : Int)) = True := by simp; omega
      have w7 : IntKind.i64.wrap (((j + 1 : Nat) : Int) + 1) = ((j + 1 + 1 : Nat) : Int) := by rw [wrap64 (by omega) (by omega)]; omega
      simp (maxSteps := 4000000) only [EV, EVF, XV, cond_true, cond_false, Bool.false_eq_true, Bool.true_eq_false, eq_self, normsOf, cutsOf, heapOf, quietOf, drawsOf, drawmOf, opnOf, shutOf, iceOf, extOf, extOverlaps_eq, overB_eq, extCmp_eq, shpOf, Try.f7, ↓reduceIte, Nat.reduceAdd, Nat.reduceLT, Nat.reduceEqDiff, Nat.reduceLeDiff, Nat.succ_ne_zero, Nat.zero_ne_one, Nat.one_ne_zero, ne_eq, not_false_eq_true, true_and, and_true, Nat.reduceMul, Nat.reduceSub, Int.reduceToNat, Int.toNat_zero, Int.toNat_one, Nat.zero_mul, Nat.one_mul, Int.reduceLT, Int.reduceLE, Int.le_refl, Int.zero_lt_one, Int.toNat_natCast, List.take_length, Int.cast_ofNat_Int, Int.reduceAdd, Int.reduceSub, Int.reduceBEq, Int.reduceBNe, ge_iff_le, gt_iff_lt, decide_true, decide_false, Int.lt_irrefl, Nat.zero_add, Nat.add_zero, q1, q2, w3, w4, w5, w6]
      refine take_w' m (by omega) ⟨1, j, [((i + 64 : Nat) : Int)]⟩ (by simp) ((j + 1 : Nat) : Int) ⟨by omega, by omega⟩ _ ?_
      have ht : takeS' ⟨1, j, [((i + 64 : Nat) : Int)]⟩ ((j + 1 : Nat) : Int) = ⟨⟨1, ((j + 1 : Nat) : Int), [((i + 64 : Nat) : Int)]⟩, true, 0⟩ := by
        unfold takeS'
        rw [if_pos ⟨hr4 j (by omega) (by omega), by omega, by omega⟩, if_neg (by simp only; omega), if_neg (by simp only; omega), if_neg (by simp; omega)]
        have e1 : [((i + 64 : Nat) : Int)].filter (fun n => decide (n < ((j + 1 : Nat) : Int))) = [] := by simp; omega
        have e2 : [((i + 64 : Nat) : Int)].filter (fun n => decide (((j + 1 : Nat) : Int) < n)) = [((i + 64 : Nat) : Int)] := by simp; omega
        rw [e1, e2]
        simp only [List.nil_append, absorb]
        rw [if_pos (by omega), if_neg (by omega)]
      rw [ht]
      simp only [TakeR.av, sv, List.map_nil, List.map_cons, iv]
      simp (maxSteps := 4000000) only [EV, EVF, XV, cond_true, cond_false, Bool.false_eq_true, Bool.true_eq_false, eq_self, normsOf, cutsOf, heapOf, quietOf, drawsOf, drawmOf, opnOf, shutOf, iceOf, extOf, extOverlaps_eq, overB_eq, extCmp_eq, shpOf, Try.f7, ↓reduceIte, Nat.reduceAdd, Nat.reduceLT, Nat.reduceEqDiff, Nat.reduceLeDiff, Nat.succ_ne_zero, Nat.zero_ne_one, Nat.one_ne_zero, ne_eq, not_false_eq_true, true_and, and_true, Nat.reduceMul, Nat.reduceSub, Int.reduceToNat, Int.toNat_zero, Int.toNat_one, Nat.zero_mul, Nat.one_mul, Int.reduceLT, Int.reduceLE, Int.le_refl, Int.zero_lt_one, Int.toNat_natCast, List.take_length, Int.cast_ofNat_Int, Int.reduceAdd, Int.reduceSub, Int.reduceBEq, Int.reduceBNe, ge_iff_le, gt_iff_lt, decide_true, decide_false, Int.lt_irrefl, Nat.zero_add, Nat.add_zero, q1, q2, w3, w4, w5, w6, w7, bne_self_eq_false, beq_self_eq_true]
      exact ⟨j + 1, ⟨by omega, by omega⟩, by omega, rfl⟩
    · have hje : j = i + f + 1 := by omega
      subst hje
      have q2 : (((i + f + 1 + 1 : Nat) : Int) ≤ ((i + f + 1 : Nat) : Int)) = False := by simp; omega
      simp (maxSteps := 4000000) only [EV, EVF, XV, cond_true, cond_false, Bool.false_eq_true, Bool.true_eq_false, eq_self, normsOf, cutsOf, heapOf, quietOf, drawsOf, drawmOf, opnOf, shutOf, iceOf, extOf, extOverlaps_eq, overB_eq, extCmp_eq, shpOf, Try.f7, ↓reduceIte, Nat.reduceAdd, Nat.reduceLT, Nat.reduceEqDiff, Nat.reduceLeDiff, Nat.succ_ne_zero, Nat.zero_ne_one, Nat.one_ne_zero, ne_eq, not_false_eq_true, true_and, and_true, Nat.reduceMul, Nat.reduceSub, Int.reduceToNat, Int.toNat_zero, Int.toNat_one, Nat.zero_mul, Nat.one_mul, Int.reduceLT, Int.reduceLE, Int.le_refl, Int.zero_lt_one, Int.toNat_natCast, List.take_length, Int.cast_ofNat_Int, Int.reduceAdd, Int.reduceSub, Int.reduceBEq, Int.reduceBNe, ge_iff_le, gt_iff_lt, decide_true, decide_false, Int.lt_irrefl, Nat.zero_add, Nat.add_zero, q1, q2, w3, w4, w5, w6]
      refine take_w' m (by omega) ⟨1, ((i + f + 1 : Nat) : Int), [((i + 64 : Nat) : Int)]⟩ (by simp) ((i + (65 + f) : Nat) : Int) ⟨by omega, by omega⟩ _ ?_
      have hc := take_came (q := ((i + (65 + f) : Nat) : Int)) (hr4 (i + f + 1) (by omega) (by omega)) (by omega) (by omega) (by simp only; omega)
      have his : (takeS' ⟨1, ((i + f + 1 : Nat) : Int), [((i + 64 : Nat) : Int)]⟩ ((i + (65 + f) : Nat) : Int)).is = true := by
        rw [hc.2.1]
        simp only [came]
        rintro (h | h)
        · omega
        · simp at h
          omega
      have he := hc.1
      clear hc
      generalize takeS' ⟨1, ((i + f + 1 : Nat) : Int), [((i + 64 : Nat) : Int)]⟩ ((i + (65 + f) : Nat) : Int) = r at his he ⊢
      simp only [TakeR.av, sv, his, he]
      simp (maxSteps := 4000000) only [EV, EVF, XV, cond_true, cond_false, Bool.false_eq_true, Bool.true_eq_false, eq_self, normsOf, cutsOf, heapOf, quietOf, drawsOf, drawmOf, opnOf, shutOf, iceOf, extOf, extOverlaps_eq, overB_eq, extCmp_eq, shpOf, Try.f7, ↓reduceIte, Nat.reduceAdd, Nat.reduceLT, Nat.reduceEqDiff, Nat.reduceLeDiff, Nat.succ_ne_zero, Nat.zero_ne_one, Nat.one_ne_zero, ne_eq, not_false_eq_true, true_and, and_true, Nat.reduceMul, Nat.reduceSub, Int.reduceToNat, Int.toNat_zero, Int.toNat_one, Nat.zero_mul, Nat.one_mul, Int.reduceLT, Int.reduceLE, Int.le_refl, Int.zero_lt_one, Int.toNat_natCast, List.take_length, Int.cast_ofNat_Int, Int.reduceAdd, Int.reduceSub, Int.reduceBEq, Int.reduceBNe, ge_iff_le, gt_iff_lt, decide_true, decide_false, Int.lt_irrefl, Nat.zero_add, Nat.add_zero, q1, q2, w3, w4, w5, w6, bne_self_eq_false, beq_self_eq_true]
end Go.Ai

/- WireForth: the machine's word. -/
import Derived.Test.YtlklggododajiaaWire8
import Derived.Test.YtlklggododajiaaWireQ
set_option linter.unusedVariables false
set_option linter.unusedSimpArgs false
set_option maxRecDepth 100000
set_option maxHeartbeats 4000000
namespace Go.Ai
open Go.Proofs
theorem encM_len (v : Int) (x : Msg) : (encM v x).s.length ≤ 7113 := by
  unfold encM
  split
  · rename_i h
    obtain ⟨r1, r2, r3⟩ := fieldsM_right h
    simp only [List.length_cons]
    omega
  · split <;> simp
theorem wforth_law (m : Nat) (hm : 12 ≤ m) (s : List UInt8) (hs : s.length ≤ 140737488351232) (r : Raw5) (hr : r5ok r) (tx : List UInt8) (htx : tx.length ≤ 140737488351232) (at' : Int) (hat : i64ok at') (mo : List UInt8) (hmo : mo.length ≤ 140737488351232) : wpF C m 5 [.v (.string (mk s)), .agg (r5v r), .v (.string (mk tx)), .v (.int .i64 at'), .v (.string (mk mo))] [] fun r _ => r = .v (.bool true) := by
  obtain ⟨m, rfl⟩ : ∃ j, m = j + 1 := ⟨m - 1, by omega⟩; simp only [wpF, bodyA, fn_5, C_P, ok_5, C_prim, primOf, true_and]; simp (maxSteps := 4000000) only [EV, EVF, XV, cond_true, cond_false, Bool.false_eq_true, Bool.true_eq_false, eq_self, normsOf, cutsOf, heapOf, quietOf, drawsOf, shpOf, Try.f5, ↓reduceIte, Nat.reduceAdd, Nat.reduceLT, Nat.reduceEqDiff, Nat.reduceLeDiff, Nat.succ_ne_zero, Nat.zero_ne_one, Nat.one_ne_zero, ne_eq, not_false_eq_true, true_and, and_true, Nat.reduceMul, Nat.reduceSub, Int.reduceToNat, Int.toNat_zero, Int.toNat_one, Nat.zero_mul, Nat.one_mul, Int.reduceLT, Int.reduceLE, Int.le_refl, Int.zero_lt_one, Int.toNat_natCast, List.take_length, Int.cast_ofNat_Int, Int.reduceAdd, Int.reduceSub, Int.reduceBEq, Int.reduceBNe, ge_iff_le, gt_iff_lt, decide_true, decide_false, Int.lt_irrefl, Nat.zero_add, Nat.add_zero]
  refine awake8_w m (by omega) _ fun H => ?_
  simp (maxSteps := 4000000) only [EV, EVF, XV, cond_true, cond_false, Bool.false_eq_true, Bool.true_eq_false, eq_self, normsOf, cutsOf, heapOf, quietOf, drawsOf, shpOf, Try.f5, ↓reduceIte, Nat.reduceAdd, Nat.reduceLT, Nat.reduceEqDiff, Nat.reduceLeDiff, Nat.succ_ne_zero, Nat.zero_ne_one, Nat.one_ne_zero, ne_eq, not_false_eq_true, true_and, and_true, Nat.reduceMul, Nat.reduceSub, Int.reduceToNat, Int.toNat_zero, Int.toNat_one, Nat.zero_mul, Nat.one_mul, Int.reduceLT, Int.reduceLE, Int.le_refl, Int.zero_lt_one, Int.toNat_natCast, List.take_length, Int.cast_ofNat_Int, Int.reduceAdd, Int.reduceSub, Int.reduceBEq, Int.reduceBNe, ge_iff_le, gt_iff_lt, decide_true, decide_false, Int.lt_irrefl, Nat.zero_add, Nat.add_zero, r5v, mv]
  refine loop_at (fun v : Nat => ⟨[(0, .v (.string (mk s))), (2, .v (.string (mk tx))), (3, .v (.int .i64 at')), (4, .v (.string (mk mo))), (6, .ptr 0 0), (11, .v (.bool true)), (12, .v (.int .i64 v))], [some (.var 24 (r5v r))]⟩) (fun v => 1 ≤ v ∧ v ≤ 3) (fun v => 3 - v) 1 (by decide) rfl ?_
  rintro v ⟨hv1, hv3⟩
  by_cases hv : v = 3
  · subst hv
    simp (maxSteps := 4000000) only [EV, EVF, XV, cond_true, cond_false, Bool.false_eq_true, Bool.true_eq_false, eq_self, normsOf, cutsOf, heapOf, quietOf, drawsOf, shpOf, Try.f5, ↓reduceIte, Nat.reduceAdd, Nat.reduceLT, Nat.reduceEqDiff, Nat.reduceLeDiff, Nat.succ_ne_zero, Nat.zero_ne_one, Nat.one_ne_zero, ne_eq, not_false_eq_true, true_and, and_true, Nat.reduceMul, Nat.reduceSub, Int.reduceToNat, Int.toNat_zero, Int.toNat_one, Nat.zero_mul, Nat.one_mul, Int.reduceLT, Int.reduceLE, Int.le_refl, Int.zero_lt_one, Int.toNat_natCast, List.take_length, Int.cast_ofNat_Int, Int.reduceAdd, Int.reduceSub, Int.reduceBEq, Int.reduceBNe, ge_iff_le, gt_iff_lt, decide_true, decide_false, Int.lt_irrefl, Nat.zero_add, Nat.add_zero, r5v, mv]
  have q1 : ((v : Int) ≤ 2) = True := by simp; omega
  have w0 : IntKind.i64.wrap ((v : Int) + 1) = ((v + 1 : Nat) : Int) := by rw [wrap64 (by omega) (by omega)]; omega
  simp (maxSteps := 4000000) only [EV, EVF, XV, cond_true, cond_false, Bool.false_eq_true, Bool.true_eq_false, eq_self, normsOf, cutsOf, heapOf, quietOf, drawsOf, shpOf, Try.f5, ↓reduceIte, Nat.reduceAdd, Nat.reduceLT, Nat.reduceEqDiff, Nat.reduceLeDiff, Nat.succ_ne_zero, Nat.zero_ne_one, Nat.one_ne_zero, ne_eq, not_false_eq_true, true_and, and_true, Nat.reduceMul, Nat.reduceSub, Int.reduceToNat, Int.toNat_zero, Int.toNat_one, Nat.zero_mul, Nat.one_mul, Int.reduceLT, Int.reduceLE, Int.le_refl, Int.zero_lt_one, Int.toNat_natCast, List.take_length, Int.cast_ofNat_Int, Int.reduceAdd, Int.reduceSub, Int.reduceBEq, Int.reduceBNe, ge_iff_le, gt_iff_lt, decide_true, decide_false, Int.lt_irrefl, Nat.zero_add, Nat.add_zero, r5v, mv, q1]
  refine message_w m (by omega) v r hr tx (by omega) _ fun H => ?_
  have hmb : (messageS v r tx).body.length ≤ 300 := by
    unfold messageS
    split <;> simp <;> omega
  generalize messageS v r tx = x at hmb ⊢
  simp (maxSteps := 4000000) only [EV, EVF, XV, cond_true, cond_false, Bool.false_eq_true, Bool.true_eq_false, eq_self, normsOf, cutsOf, heapOf, quietOf, drawsOf, shpOf, Try.f5, ↓reduceIte, Nat.reduceAdd, Nat.reduceLT, Nat.reduceEqDiff, Nat.reduceLeDiff, Nat.succ_ne_zero, Nat.zero_ne_one, Nat.one_ne_zero, ne_eq, not_false_eq_true, true_and, and_true, Nat.reduceMul, Nat.reduceSub, Int.reduceToNat, Int.toNat_zero, Int.toNat_one, Nat.zero_mul, Nat.one_mul, Int.reduceLT, Int.reduceLE, Int.le_refl, Int.zero_lt_one, Int.toNat_natCast, List.take_length, Int.cast_ofNat_Int, Int.reduceAdd, Int.reduceSub, Int.reduceBEq, Int.reduceBNe, ge_iff_le, gt_iff_lt, decide_true, decide_false, Int.lt_irrefl, Nat.zero_add, Nat.add_zero, r5v, mv, q1]
  refine encode8_w m (by omega) v x (by omega) _ fun H => ?_
  have hB := encM_len v x
  generalize encM v x = be at hB ⊢
  obtain ⟨t, e⟩ := be
  replace hB : t.length ≤ 7113 := hB
  simp only [BE.av]
  have w1 : IntKind.i64.wrap ((t.length : Int) + 1) = (t.length : Int) + 1 := wrap64 (by omega) (by omega)
  simp (maxSteps := 4000000) only [EV, EVF, XV, cond_true, cond_false, Bool.false_eq_true, Bool.true_eq_false, eq_self, normsOf, cutsOf, heapOf, quietOf, drawsOf, shpOf, Try.f5, ↓reduceIte, Nat.reduceAdd, Nat.reduceLT, Nat.reduceEqDiff, Nat.reduceLeDiff, Nat.succ_ne_zero, Nat.zero_ne_one, Nat.one_ne_zero, ne_eq, not_false_eq_true, true_and, and_true, Nat.reduceMul, Nat.reduceSub, Int.reduceToNat, Int.toNat_zero, Int.toNat_one, Nat.zero_mul, Nat.one_mul, Int.reduceLT, Int.reduceLE, Int.le_refl, Int.zero_lt_one, Int.toNat_natCast, List.take_length, Int.cast_ofNat_Int, Int.reduceAdd, Int.reduceSub, Int.reduceBEq, Int.reduceBNe, ge_iff_le, gt_iff_lt, decide_true, decide_false, Int.lt_irrefl, Nat.zero_add, Nat.add_zero, r5v, mv, q1, w1]
  refine pick8_w m (by omega) _ _ (by omega) _ ?_
  have hk := pickN_bd (c := at') (n := (t.length : Int) + 1) hat.1 hat.2 (by omega)
  obtain ⟨k, hk2⟩ : ∃ k : Nat, pickN at' ((t.length : Int) + 1) = k := ⟨(pickN at' ((t.length : Int) + 1)).toNat, by omega⟩
  rw [hk2] at hk ⊢
  have hkl : k ≤ t.length := by omega
  have w2 : IntKind.i64.wrap ((k : Int) + mo.length) = ((k + mo.length : Nat) : Int) := by rw [wrap64 (by omega) (by omega)]; omega
  simp (maxSteps := 4000000) only [EV, EVF, XV, cond_true, cond_false, Bool.false_eq_true, Bool.true_eq_false, eq_self, normsOf, cutsOf, heapOf, quietOf, drawsOf, shpOf, Try.f5, ↓reduceIte, Nat.reduceAdd, Nat.reduceLT, Nat.reduceEqDiff, Nat.reduceLeDiff, Nat.succ_ne_zero, Nat.zero_ne_one, Nat.one_ne_zero, ne_eq, not_false_eq_true, true_and, and_true, Nat.reduceMul, Nat.reduceSub, Int.reduceToNat, Int.toNat_zero, Int.toNat_one, Nat.zero_mul, Nat.one_mul, Int.reduceLT, Int.reduceLE, Int.le_refl, Int.zero_lt_one, Int.toNat_natCast, List.take_length, Int.cast_ofNat_Int, Int.reduceAdd, Int.reduceSub, Int.reduceBEq, Int.reduceBNe, ge_iff_le, gt_iff_lt, decide_true, decide_false, Int.lt_irrefl, Nat.zero_add, Nat.add_zero, r5v, mv, q1, w2]
  obtain ⟨j, hj⟩ : ∃ j : Nat, (if (t.length : Int) < ((k + mo.length : Nat) : Int) then (t.length : Int) else ((k + mo.length : Nat) : Int)) = j := by
    split
    · exact ⟨_, rfl⟩
    · exact ⟨_, rfl⟩
  have hjt : j ≤ t.length := by
    split at hj <;> omega
  rw [hj]
  have hlen1 : (t.take k).length ≤ t.length := by simp; omega
  have hlen2 : (t.drop k).length ≤ t.length := by simp
  have hlen3 : (t.drop j).length ≤ t.length := by simp
  refine ⟨by omega, by omega, by omega, by omega, by simp only [Int.toNat_natCast]; omega, by omega, by omega, by omega, by omega, ?_⟩
  simp only [Int.toNat_natCast]
  generalize hX : t.take k ++ mo ++ t.drop j = X
  generalize hY : t.take k ++ mo ++ t.drop k = Y
  have hXl : X.length ≤ 9223372036854775807 := by rw [← hX]; simp only [List.length_append]; omega
  have hYl : Y.length ≤ 9223372036854775807 := by rw [← hY]; simp only [List.length_append]; omega
  refine loop_at (fun i : Nat => ⟨[(0, .v (.string (mk s))), (2, .v (.string (mk tx))), (3, .v (.int .i64 at')), (4, .v (.string (mk mo))), (6, .ptr 0 0), (11, .v (.bool true)), (12, .v (.int .i64 v)), (67, .row 1 1 0 3), (68, .v (.int .i64 3)), (69, .v (.int .i64 i))], [some (.var 24 (r5v r)), some (.row 9 1 [[.v (.string (mk s))], [.v (.string (mk X))], [.v (.string (mk Y))]])]⟩) (fun i => i ≤ 3) (fun i => 3 - i) 0 (by decide) rfl ?_
  intro i hi
  by_cases hi2 : i = 3
  · subst hi2
    simp (maxSteps := 4000000) only [EV, EVF, XV, cond_true, cond_false, Bool.false_eq_true, Bool.true_eq_false, eq_self, normsOf, cutsOf, heapOf, quietOf, drawsOf, shpOf, Try.f5, ↓reduceIte, Nat.reduceAdd, Nat.reduceLT, Nat.reduceEqDiff, Nat.reduceLeDiff, Nat.succ_ne_zero, Nat.zero_ne_one, Nat.one_ne_zero, ne_eq, not_false_eq_true, true_and, and_true, Nat.reduceMul, Nat.reduceSub, Int.reduceToNat, Int.toNat_zero, Int.toNat_one, Nat.zero_mul, Nat.one_mul, Int.reduceLT, Int.reduceLE, Int.le_refl, Int.zero_lt_one, Int.toNat_natCast, List.take_length, Int.cast_ofNat_Int, Int.reduceAdd, Int.reduceSub, Int.reduceBEq, Int.reduceBNe, ge_iff_le, gt_iff_lt, decide_true, decide_false, Int.lt_irrefl, Nat.zero_add, Nat.add_zero, r5v, mv, w0]
    exact ⟨v + 1, ⟨by omega, by omega⟩, by omega, rfl⟩
  obtain ⟨z, hz, hzl⟩ : ∃ x : List UInt8, ([[.v (.string (mk s))], [.v (.string (mk X))], [.v (.string (mk Y))]] : List (List AV))[i]? = some [.v (.string (mk x))] ∧ x.length ≤ 9223372036854775807 := by
    match i, hi, hi2 with
    | 0, _, _ => exact ⟨s, rfl, by omega⟩
    | 1, _, _ => exact ⟨X, rfl, by omega⟩
    | 2, _, _ => exact ⟨Y, rfl, by omega⟩
    | k + 3, h1, h2 => omega
  have hi' : ((i : Int) < 3) = True := by simp; omega
  have w : IntKind.i64.wrap ((i : Int) + 1) = ((i + 1 : Nat) : Int) := by rw [wrap64 (by omega) (by omega)]; omega
  simp (maxSteps := 4000000) only [EV, EVF, XV, cond_true, cond_false, Bool.false_eq_true, Bool.true_eq_false, eq_self, normsOf, cutsOf, heapOf, quietOf, drawsOf, shpOf, Try.f5, ↓reduceIte, Nat.reduceAdd, Nat.reduceLT, Nat.reduceEqDiff, Nat.reduceLeDiff, Nat.succ_ne_zero, Nat.zero_ne_one, Nat.one_ne_zero, ne_eq, not_false_eq_true, true_and, and_true, Nat.reduceMul, Nat.reduceSub, Int.reduceToNat, Int.toNat_zero, Int.toNat_one, Nat.zero_mul, Nat.one_mul, Int.reduceLT, Int.reduceLE, Int.le_refl, Int.zero_lt_one, Int.toNat_natCast, List.take_length, Int.cast_ofNat_Int, Int.reduceAdd, Int.reduceSub, Int.reduceBEq, Int.reduceBNe, ge_iff_le, gt_iff_lt, decide_true, decide_false, Int.lt_irrefl, Nat.zero_add, Nat.add_zero, r5v, mv, hz, hi']
  refine decode8_w m (by omega) z hzl _ fun H => ?_
  rcases dec_cases z with ⟨e', he, hd⟩ | ⟨v', y, hd, hR, hz'⟩
  · rw [hd]
    have he0 : (e' != 0) = true := by simpa using he
    simp only [DecR.av]
    simp (maxSteps := 4000000) only [EV, EVF, XV, cond_true, cond_false, Bool.false_eq_true, Bool.true_eq_false, eq_self, normsOf, cutsOf, heapOf, quietOf, drawsOf, shpOf, Try.f5, ↓reduceIte, Nat.reduceAdd, Nat.reduceLT, Nat.reduceEqDiff, Nat.reduceLeDiff, Nat.succ_ne_zero, Nat.zero_ne_one, Nat.one_ne_zero, ne_eq, not_false_eq_true, true_and, and_true, Nat.reduceMul, Nat.reduceSub, Int.reduceToNat, Int.toNat_zero, Int.toNat_one, Nat.zero_mul, Nat.one_mul, Int.reduceLT, Int.reduceLE, Int.le_refl, Int.zero_lt_one, Int.toNat_natCast, List.take_length, Int.cast_ofNat_Int, Int.reduceAdd, Int.reduceSub, Int.reduceBEq, Int.reduceBNe, ge_iff_le, gt_iff_lt, decide_true, decide_false, Int.lt_irrefl, Nat.zero_add, Nat.add_zero, r5v, mv, hz, hi', he0, w, msg0]
    exact ⟨i + 1, by omega, by omega, rfl⟩
  · rw [hd]
    simp only [DecR.av]
    simp (maxSteps := 4000000) only [EV, EVF, XV, cond_true, cond_false, Bool.false_eq_true, Bool.true_eq_false, eq_self, normsOf, cutsOf, heapOf, quietOf, drawsOf, shpOf, Try.f5, ↓reduceIte, Nat.reduceAdd, Nat.reduceLT, Nat.reduceEqDiff, Nat.reduceLeDiff, Nat.succ_ne_zero, Nat.zero_ne_one, Nat.one_ne_zero, ne_eq, not_false_eq_true, true_and, and_true, Nat.reduceMul, Nat.reduceSub, Int.reduceToNat, Int.toNat_zero, Int.toNat_one, Nat.zero_mul, Nat.one_mul, Int.reduceLT, Int.reduceLE, Int.le_refl, Int.zero_lt_one, Int.toNat_natCast, List.take_length, Int.cast_ofNat_Int, Int.reduceAdd, Int.reduceSub, Int.reduceBEq, Int.reduceBNe, ge_iff_le, gt_iff_lt, decide_true, decide_false, Int.lt_irrefl, Nat.zero_add, Nat.add_zero, r5v, mv, hz, hi', w, bne_self_eq_false, beq_self_eq_true]
    have hyb : y.body.length ≤ 9223372036854775807 := by have := hR.2.2.2.2.2.2.1; omega
    refine encode8_w m (by omega) v' y hyb _ fun H => ?_
    have he : encM v' y = ⟨z, 0⟩ := by rw [hz']; exact if_pos hR
    rw [he]
    simp only [BE.av]
    simp (maxSteps := 4000000) only [EV, EVF, XV, cond_true, cond_false, Bool.false_eq_true, Bool.true_eq_false, eq_self, normsOf, cutsOf, heapOf, quietOf, drawsOf, shpOf, Try.f5, ↓reduceIte, Nat.reduceAdd, Nat.reduceLT, Nat.reduceEqDiff, Nat.reduceLeDiff, Nat.succ_ne_zero, Nat.zero_ne_one, Nat.one_ne_zero, ne_eq, not_false_eq_true, true_and, and_true, Nat.reduceMul, Nat.reduceSub, Int.reduceToNat, Int.toNat_zero, Int.toNat_one, Nat.zero_mul, Nat.one_mul, Int.reduceLT, Int.reduceLE, Int.le_refl, Int.zero_lt_one, Int.toNat_natCast, List.take_length, Int.cast_ofNat_Int, Int.reduceAdd, Int.reduceSub, Int.reduceBEq, Int.reduceBNe, ge_iff_le, gt_iff_lt, decide_true, decide_false, Int.lt_irrefl, Nat.zero_add, Nat.add_zero, r5v, mv, hz, hi', w, bne_self_eq_false, beq_self_eq_true]
    refine right8_w m (by omega) v' y hyb _ fun H => ?_
    rw [decide_eq_true hR]
    simp (maxSteps := 4000000) only [EV, EVF, XV, cond_true, cond_false, Bool.false_eq_true, Bool.true_eq_false, eq_self, normsOf, cutsOf, heapOf, quietOf, drawsOf, shpOf, Try.f5, ↓reduceIte, Nat.reduceAdd, Nat.reduceLT, Nat.reduceEqDiff, Nat.reduceLeDiff, Nat.succ_ne_zero, Nat.zero_ne_one, Nat.one_ne_zero, ne_eq, not_false_eq_true, true_and, and_true, Nat.reduceMul, Nat.reduceSub, Int.reduceToNat, Int.toNat_zero, Int.toNat_one, Nat.zero_mul, Nat.one_mul, Int.reduceLT, Int.reduceLE, Int.le_refl, Int.zero_lt_one, Int.toNat_natCast, List.take_length, Int.cast_ofNat_Int, Int.reduceAdd, Int.reduceSub, Int.reduceBEq, Int.reduceBNe, ge_iff_le, gt_iff_lt, decide_true, decide_false, Int.lt_irrefl, Nat.zero_add, Nat.add_zero, r5v, mv, hz, hi', w, bne_self_eq_false, beq_self_eq_true]
    exact ⟨i + 1, by omega, by omega, rfl⟩
end Go.Ai

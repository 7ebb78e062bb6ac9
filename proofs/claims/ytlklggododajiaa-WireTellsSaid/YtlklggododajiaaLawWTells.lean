/- WireTells: the machine's word. -/
import Derived.Test.YtlklggododajiaaWire8
import Derived.Test.YtlklggododajiaaWireQ
set_option linter.unusedVariables false
set_option linter.unusedSimpArgs false
set_option maxRecDepth 100000
set_option maxHeartbeats 4000000
namespace Go.Ai
open Go.Proofs
theorem encM_len' (v : Int) (x : Msg) : (encM v x).s.length ≤ 7113 := by
  unfold encM
  split
  · rename_i h
    obtain ⟨r1, r2, r3⟩ := fieldsM_right h
    simp only [List.length_cons]
    omega
  · split <;> simp
theorem wtells_law (m : Nat) (hm : 12 ≤ m) (y : Msg) (hy : y.body.length ≤ 140737488351232) (v : Int) (hv : i64ok v) (r : Raw5) (hr : r5ok r) (tx : List UInt8) (htx : tx.length ≤ 140737488351232) (s : List UInt8) (hs : s.length ≤ 140737488351232) (at' : Int) (hat : i64ok at') (mo : List UInt8) (hmo : mo.length ≤ 140737488351232) : wpF C m 3 [.agg (mv y), .v (.int .i64 v), .agg (r5v r), .v (.string (mk tx)), .v (.string (mk s)), .v (.int .i64 at'), .v (.string (mk mo))] [] fun r _ => r = .v (.bool true) := by
  obtain ⟨m, rfl⟩ : ∃ j, m = j + 1 := ⟨m - 1, by omega⟩; simp only [wpF, bodyA, fn_3, C_P, ok_3, C_prim, primOf, true_and]; simp (maxSteps := 4000000) only [EV, EVF, XV, cond_true, cond_false, Bool.false_eq_true, Bool.true_eq_false, eq_self, normsOf, cutsOf, heapOf, quietOf, drawsOf, shpOf, Try.f3, ↓reduceIte, Nat.reduceAdd, Nat.reduceLT, Nat.reduceEqDiff, Nat.reduceLeDiff, Nat.succ_ne_zero, Nat.zero_ne_one, Nat.one_ne_zero, ne_eq, not_false_eq_true, true_and, and_true, Nat.reduceMul, Nat.reduceSub, Int.reduceToNat, Int.toNat_zero, Int.toNat_one, Nat.zero_mul, Nat.one_mul, Int.reduceLT, Int.reduceLE, Int.le_refl, Int.zero_lt_one, Int.toNat_natCast, List.take_length, Int.cast_ofNat_Int, Int.reduceAdd, Int.reduceSub, Int.reduceBEq, Int.reduceBNe, ge_iff_le, gt_iff_lt, decide_true, decide_false, Int.lt_irrefl, Nat.zero_add, Nat.add_zero]
  refine awake8_w m (by omega) _ fun H => ?_
  simp (maxSteps := 4000000) only [EV, EVF, XV, cond_true, cond_false, Bool.false_eq_true, Bool.true_eq_false, eq_self, normsOf, cutsOf, heapOf, quietOf, drawsOf, shpOf, Try.f3, ↓reduceIte, Nat.reduceAdd, Nat.reduceLT, Nat.reduceEqDiff, Nat.reduceLeDiff, Nat.succ_ne_zero, Nat.zero_ne_one, Nat.one_ne_zero, ne_eq, not_false_eq_true, true_and, and_true, Nat.reduceMul, Nat.reduceSub, Int.reduceToNat, Int.toNat_zero, Int.toNat_one, Nat.zero_mul, Nat.one_mul, Int.reduceLT, Int.reduceLE, Int.le_refl, Int.zero_lt_one, Int.toNat_natCast, List.take_length, Int.cast_ofNat_Int, Int.reduceAdd, Int.reduceSub, Int.reduceBEq, Int.reduceBNe, ge_iff_le, gt_iff_lt, decide_true, decide_false, Int.lt_irrefl, Nat.zero_add, Nat.add_zero, r5v, mv]
  refine loop_at (fun i : Nat => ⟨[(3, .v (.string (mk tx))), (4, .v (.string (mk s))), (5, .v (.int .i64 at')), (6, .v (.string (mk mo))), (7, .ptr 0 0), (9, .ptr 1 0), (15, .v (.bool true)), (38, .row 2 1 0 3), (39, .v (.int .i64 3)), (40, .v (.int .i64 i))], [some (.var 23 (mv y)), some (.var 24 (r5v r)), some (.row 3 1 [[.v (.int .i64 v)], [.v (.int .i64 1)], [.v (.int .i64 2)]])]⟩) (fun i => i ≤ 3) (fun i => 3 - i) 0 (by decide) rfl ?_
  intro i hi
  by_cases hi2 : i = 3
  · subst hi2
    simp (maxSteps := 4000000) only [EV, EVF, XV, cond_true, cond_false, Bool.false_eq_true, Bool.true_eq_false, eq_self, normsOf, cutsOf, heapOf, quietOf, drawsOf, shpOf, Try.f3, ↓reduceIte, Nat.reduceAdd, Nat.reduceLT, Nat.reduceEqDiff, Nat.reduceLeDiff, Nat.succ_ne_zero, Nat.zero_ne_one, Nat.one_ne_zero, ne_eq, not_false_eq_true, true_and, and_true, Nat.reduceMul, Nat.reduceSub, Int.reduceToNat, Int.toNat_zero, Int.toNat_one, Nat.zero_mul, Nat.one_mul, Int.reduceLT, Int.reduceLE, Int.le_refl, Int.zero_lt_one, Int.toNat_natCast, List.take_length, Int.cast_ofNat_Int, Int.reduceAdd, Int.reduceSub, Int.reduceBEq, Int.reduceBNe, ge_iff_le, gt_iff_lt, decide_true, decide_false, Int.lt_irrefl, Nat.zero_add, Nat.add_zero, r5v, mv]
  obtain ⟨u, hu, hu64⟩ : ∃ u : Int, ([[.v (.int .i64 v)], [.v (.int .i64 1)], [.v (.int .i64 2)]] : List (List AV))[i]? = some [.v (.int .i64 u)] ∧ i64ok u := by
    match i, hi, hi2 with
    | 0, _, _ => exact ⟨v, rfl, hv⟩
    | 1, _, _ => exact ⟨1, rfl, by constructor <;> decide⟩
    | 2, _, _ => exact ⟨2, rfl, by constructor <;> decide⟩
    | k + 3, h1, h2 => omega
  have hi' : ((i : Int) < 3) = True := by simp; omega
  have w : IntKind.i64.wrap ((i : Int) + 1) = ((i + 1 : Nat) : Int) := by rw [wrap64 (by omega) (by omega)]; omega
  simp (maxSteps := 4000000) only [EV, EVF, XV, cond_true, cond_false, Bool.false_eq_true, Bool.true_eq_false, eq_self, normsOf, cutsOf, heapOf, quietOf, drawsOf, shpOf, Try.f3, ↓reduceIte, Nat.reduceAdd, Nat.reduceLT, Nat.reduceEqDiff, Nat.reduceLeDiff, Nat.succ_ne_zero, Nat.zero_ne_one, Nat.one_ne_zero, ne_eq, not_false_eq_true, true_and, and_true, Nat.reduceMul, Nat.reduceSub, Int.reduceToNat, Int.toNat_zero, Int.toNat_one, Nat.zero_mul, Nat.one_mul, Int.reduceLT, Int.reduceLE, Int.le_refl, Int.zero_lt_one, Int.toNat_natCast, List.take_length, Int.cast_ofNat_Int, Int.reduceAdd, Int.reduceSub, Int.reduceBEq, Int.reduceBNe, ge_iff_le, gt_iff_lt, decide_true, decide_false, Int.lt_irrefl, Nat.zero_add, Nat.add_zero, r5v, mv, hu, hi']
  refine pick8_w m (by omega) _ _ (by omega) _ ?_
  simp (maxSteps := 4000000) only [EV, EVF, XV, cond_true, cond_false, Bool.false_eq_true, Bool.true_eq_false, eq_self, normsOf, cutsOf, heapOf, quietOf, drawsOf, shpOf, Try.f3, ↓reduceIte, Nat.reduceAdd, Nat.reduceLT, Nat.reduceEqDiff, Nat.reduceLeDiff, Nat.succ_ne_zero, Nat.zero_ne_one, Nat.one_ne_zero, ne_eq, not_false_eq_true, true_and, and_true, Nat.reduceMul, Nat.reduceSub, Int.reduceToNat, Int.toNat_zero, Int.toNat_one, Nat.zero_mul, Nat.one_mul, Int.reduceLT, Int.reduceLE, Int.le_refl, Int.zero_lt_one, Int.toNat_natCast, List.take_length, Int.cast_ofNat_Int, Int.reduceAdd, Int.reduceSub, Int.reduceBEq, Int.reduceBNe, ge_iff_le, gt_iff_lt, decide_true, decide_false, Int.lt_irrefl, Nat.zero_add, Nat.add_zero, r5v, mv, hu, hi']
  have hpk := pickN_bd hu64.1 hu64.2 (show (0:Int) < 2 by decide)
  have w3 : IntKind.i64.wrap (1 + pickN u 2) = 1 + pickN u 2 := wrap64 (by omega) (by omega)
  generalize hpp : pickN u 2 = pk at hpk w3 ⊢
  rw [w3]
  refine message_w m (by omega) (1 + pk) r hr tx (by omega) _ fun H => ?_
  have hmb : (messageS (1 + pk) r tx).body.length ≤ 300 := by
    unfold messageS
    split <;> simp <;> omega
  generalize messageS (1 + pk) r tx = x at hmb ⊢
  simp (maxSteps := 4000000) only [EV, EVF, XV, cond_true, cond_false, Bool.false_eq_true, Bool.true_eq_false, eq_self, normsOf, cutsOf, heapOf, quietOf, drawsOf, shpOf, Try.f3, ↓reduceIte, Nat.reduceAdd, Nat.reduceLT, Nat.reduceEqDiff, Nat.reduceLeDiff, Nat.succ_ne_zero, Nat.zero_ne_one, Nat.one_ne_zero, ne_eq, not_false_eq_true, true_and, and_true, Nat.reduceMul, Nat.reduceSub, Int.reduceToNat, Int.toNat_zero, Int.toNat_one, Nat.zero_mul, Nat.one_mul, Int.reduceLT, Int.reduceLE, Int.le_refl, Int.zero_lt_one, Int.toNat_natCast, List.take_length, Int.cast_ofNat_Int, Int.reduceAdd, Int.reduceSub, Int.reduceBEq, Int.reduceBNe, ge_iff_le, gt_iff_lt, decide_true, decide_false, Int.lt_irrefl, Nat.zero_add, Nat.add_zero, r5v, mv, hu, hi']
  refine loop_at (fun j : Nat => ⟨[(3, .v (.string (mk tx))), (4, .v (.string (mk s))), (5, .v (.int .i64 at')), (6, .v (.string (mk mo))), (7, .ptr 0 0), (9, .ptr 1 0), (15, .v (.bool true)), (17, .v (.int .i64 u)), (18, .ptr 2 0), (38, .row 3 1 0 3), (39, .v (.int .i64 3)), (40, .v (.int .i64 i)), (52, .row 4 6 0 2), (53, .v (.int .i64 2)), (54, .v (.int .i64 j))],
    [some (.var 23 (mv y)), some (.var 24 (r5v r)), some (.var 23 (mv x)), some (.row 3 1 [[.v (.int .i64 v)], [.v (.int .i64 1)], [.v (.int .i64 2)]]), some (.row 23 6 [mv y, mv x])]⟩) (fun j => j ≤ 2) (fun j => 2 - j) 0 (by decide) rfl ?_
  intro j hj
  by_cases hj2 : j = 2
  · subst hj2
    simp (maxSteps := 4000000) only [EV, EVF, XV, cond_true, cond_false, Bool.false_eq_true, Bool.true_eq_false, eq_self, normsOf, cutsOf, heapOf, quietOf, drawsOf, shpOf, Try.f3, ↓reduceIte, Nat.reduceAdd, Nat.reduceLT, Nat.reduceEqDiff, Nat.reduceLeDiff, Nat.succ_ne_zero, Nat.zero_ne_one, Nat.one_ne_zero, ne_eq, not_false_eq_true, true_and, and_true, Nat.reduceMul, Nat.reduceSub, Int.reduceToNat, Int.toNat_zero, Int.toNat_one, Nat.zero_mul, Nat.one_mul, Int.reduceLT, Int.reduceLE, Int.le_refl, Int.zero_lt_one, Int.toNat_natCast, List.take_length, Int.cast_ofNat_Int, Int.reduceAdd, Int.reduceSub, Int.reduceBEq, Int.reduceBNe, ge_iff_le, gt_iff_lt, decide_true, decide_false, Int.lt_irrefl, Nat.zero_add, Nat.add_zero, r5v, mv, hu]
    refine pick8_w m (by omega) _ _ (by omega) _ ?_
    rw [hpp]
    simp (maxSteps := 4000000) only [EV, EVF, XV, cond_true, cond_false, Bool.false_eq_true, Bool.true_eq_false, eq_self, normsOf, cutsOf, heapOf, quietOf, drawsOf, shpOf, Try.f3, ↓reduceIte, Nat.reduceAdd, Nat.reduceLT, Nat.reduceEqDiff, Nat.reduceLeDiff, Nat.succ_ne_zero, Nat.zero_ne_one, Nat.one_ne_zero, ne_eq, not_false_eq_true, true_and, and_true, Nat.reduceMul, Nat.reduceSub, Int.reduceToNat, Int.toNat_zero, Int.toNat_one, Nat.zero_mul, Nat.one_mul, Int.reduceLT, Int.reduceLE, Int.le_refl, Int.zero_lt_one, Int.toNat_natCast, List.take_length, Int.cast_ofNat_Int, Int.reduceAdd, Int.reduceSub, Int.reduceBEq, Int.reduceBNe, ge_iff_le, gt_iff_lt, decide_true, decide_false, Int.lt_irrefl, Nat.zero_add, Nat.add_zero, r5v, mv, hu, w3]
    refine rencode8_w m (by omega) (1 + pk) x (by omega) _ fun H => ?_
    have hB := encM_len' (1 + pk) x
    generalize encM (1 + pk) x = be at hB ⊢
    obtain ⟨t, e⟩ := be
    replace hB : t.length ≤ 7113 := hB
    simp only [BE.av]
    have w1 : IntKind.i64.wrap ((t.length : Int) + 1) = (t.length : Int) + 1 := wrap64 (by omega) (by omega)
    simp (maxSteps := 4000000) only [EV, EVF, XV, cond_true, cond_false, Bool.false_eq_true, Bool.true_eq_false, eq_self, normsOf, cutsOf, heapOf, quietOf, drawsOf, shpOf, Try.f3, ↓reduceIte, Nat.reduceAdd, Nat.reduceLT, Nat.reduceEqDiff, Nat.reduceLeDiff, Nat.succ_ne_zero, Nat.zero_ne_one, Nat.one_ne_zero, ne_eq, not_false_eq_true, true_and, and_true, Nat.reduceMul, Nat.reduceSub, Int.reduceToNat, Int.toNat_zero, Int.toNat_one, Nat.zero_mul, Nat.one_mul, Int.reduceLT, Int.reduceLE, Int.le_refl, Int.zero_lt_one, Int.toNat_natCast, List.take_length, Int.cast_ofNat_Int, Int.reduceAdd, Int.reduceSub, Int.reduceBEq, Int.reduceBNe, ge_iff_le, gt_iff_lt, decide_true, decide_false, Int.lt_irrefl, Nat.zero_add, Nat.add_zero, r5v, mv, hu, w1]
    refine pick8_w m (by omega) _ _ (by omega) _ ?_
    have hk := pickN_bd (c := at') (n := (t.length : Int) + 1) hat.1 hat.2 (by omega)
    obtain ⟨k, hk2⟩ : ∃ k : Nat, pickN at' ((t.length : Int) + 1) = k := ⟨(pickN at' ((t.length : Int) + 1)).toNat, by omega⟩
    rw [hk2] at hk ⊢
    have hkl : k ≤ t.length := by omega
    have w2 : IntKind.i64.wrap ((k : Int) + mo.length) = ((k + mo.length : Nat) : Int) := by rw [wrap64 (by omega) (by omega)]; omega
    simp (maxSteps := 4000000) only [EV, EVF, XV, cond_true, cond_false, Bool.false_eq_true, Bool.true_eq_false, eq_self, normsOf, cutsOf, heapOf, quietOf, drawsOf, shpOf, Try.f3, ↓reduceIte, Nat.reduceAdd, Nat.reduceLT, Nat.reduceEqDiff, Nat.reduceLeDiff, Nat.succ_ne_zero, Nat.zero_ne_one, Nat.one_ne_zero, ne_eq, not_false_eq_true, true_and, and_true, Nat.reduceMul, Nat.reduceSub, Int.reduceToNat, Int.toNat_zero, Int.toNat_one, Nat.zero_mul, Nat.one_mul, Int.reduceLT, Int.reduceLE, Int.le_refl, Int.zero_lt_one, Int.toNat_natCast, List.take_length, Int.cast_ofNat_Int, Int.reduceAdd, Int.reduceSub, Int.reduceBEq, Int.reduceBNe, ge_iff_le, gt_iff_lt, decide_true, decide_false, Int.lt_irrefl, Nat.zero_add, Nat.add_zero, r5v, mv, hu, w2]
    obtain ⟨j, hj⟩ : ∃ j : Nat, (if (t.length : Int) < ((k + mo.length : Nat) : Int) then (t.length : Int) else ((k + mo.length : Nat) : Int)) = j := by
      split
      · exact ⟨_, rfl⟩
      · exact ⟨_, rfl⟩
    have hjt : j ≤ t.length := by
      split at hj <;> omega
    rw [hj]
    have hlen1 : (t.take k).length ≤ t.length := by simp; omega
    have hlen2 : (t.drop k).length ≤ t.length := by simp
    have hlen3 : (t.drop j).length ≤ t.length := by simp
    refine ⟨by omega, by omega, by omega, by omega, by omega, by simp only [Int.toNat_natCast]; omega, by omega, by omega, by omega, by omega, ?_⟩
    simp only [Int.toNat_natCast]
    generalize hX : t.take k ++ mo ++ t.drop j = X
    generalize hY : t.take k ++ mo ++ t.drop k = Y
    generalize t.take k = Z at hlen1 hX hY ⊢
    have hXl : X.length ≤ 9223372036854775807 := by rw [← hX]; simp only [List.length_append]; omega
    have hYl : Y.length ≤ 9223372036854775807 := by rw [← hY]; simp only [List.length_append]; omega
    refine loop_at (fun j : Nat => ⟨[(3, .v (.string (mk tx))), (4, .v (.string (mk s))), (5, .v (.int .i64 at')), (6, .v (.string (mk mo))), (7, .ptr 0 0), (9, .ptr 1 0), (15, .v (.bool true)), (38, .row 2 1 0 3), (39, .v (.int .i64 3)), (40, .v (.int .i64 i)), (130, .row 3 1 0 5), (131, .v (.int .i64 5)), (132, .v (.int .i64 j))],
      [some (.var 23 (mv y)), some (.var 24 (r5v r)), some (.row 3 1 [[.v (.int .i64 v)], [.v (.int .i64 1)], [.v (.int .i64 2)]]), some (.row 9 1 [[.v (.string (mk s))], [.v (.string (mk t))], [.v (.string (mk Z))], [.v (.string (mk X))], [.v (.string (mk Y))]])]⟩) (fun j => j ≤ 5) (fun j => 5 - j) 0 (by decide) rfl ?_
    intro j hj
    by_cases hj2 : j = 5
    · subst hj2
      simp (maxSteps := 4000000) only [EV, EVF, XV, cond_true, cond_false, Bool.false_eq_true, Bool.true_eq_false, eq_self, normsOf, cutsOf, heapOf, quietOf, drawsOf, shpOf, Try.f3, ↓reduceIte, Nat.reduceAdd, Nat.reduceLT, Nat.reduceEqDiff, Nat.reduceLeDiff, Nat.succ_ne_zero, Nat.zero_ne_one, Nat.one_ne_zero, ne_eq, not_false_eq_true, true_and, and_true, Nat.reduceMul, Nat.reduceSub, Int.reduceToNat, Int.toNat_zero, Int.toNat_one, Nat.zero_mul, Nat.one_mul, Int.reduceLT, Int.reduceLE, Int.le_refl, Int.zero_lt_one, Int.toNat_natCast, List.take_length, Int.cast_ofNat_Int, Int.reduceAdd, Int.reduceSub, Int.reduceBEq, Int.reduceBNe, ge_iff_le, gt_iff_lt, decide_true, decide_false, Int.lt_irrefl, Nat.zero_add, Nat.add_zero, r5v, mv, w]
      exact ⟨i + 1, by omega, by omega, rfl⟩
    obtain ⟨x, hx, hxl⟩ : ∃ x : List UInt8, ([[.v (.string (mk s))], [.v (.string (mk t))], [.v (.string (mk Z))], [.v (.string (mk X))], [.v (.string (mk Y))]] : List (List AV))[j]? = some [.v (.string (mk x))] ∧ x.length ≤ 9223372036854775807 := by
      match j, hj, hj2 with
      | 0, _, _ => exact ⟨s, rfl, by omega⟩
      | 1, _, _ => exact ⟨t, rfl, by omega⟩
      | 2, _, _ => exact ⟨Z, rfl, by omega⟩
      | 3, _, _ => exact ⟨X, rfl, by omega⟩
      | 4, _, _ => exact ⟨Y, rfl, by omega⟩
      | k + 5, h1, h2 => omega
    have hj' : ((j : Int) < 5) = True := by simp; omega
    have wj : IntKind.i64.wrap ((j : Int) + 1) = ((j + 1 : Nat) : Int) := by rw [wrap64 (by omega) (by omega)]; omega
    simp (maxSteps := 4000000) only [EV, EVF, XV, cond_true, cond_false, Bool.false_eq_true, Bool.true_eq_false, eq_self, normsOf, cutsOf, heapOf, quietOf, drawsOf, shpOf, Try.f3, ↓reduceIte, Nat.reduceAdd, Nat.reduceLT, Nat.reduceEqDiff, Nat.reduceLeDiff, Nat.succ_ne_zero, Nat.zero_ne_one, Nat.one_ne_zero, ne_eq, not_false_eq_true, true_and, and_true, Nat.reduceMul, Nat.reduceSub, Int.reduceToNat, Int.toNat_zero, Int.toNat_one, Nat.zero_mul, Nat.one_mul, Int.reduceLT, Int.reduceLE, Int.le_refl, Int.zero_lt_one, Int.toNat_natCast, List.take_length, Int.cast_ofNat_Int, Int.reduceAdd, Int.reduceSub, Int.reduceBEq, Int.reduceBNe, ge_iff_le, gt_iff_lt, decide_true, decide_false, Int.lt_irrefl, Nat.zero_add, Nat.add_zero, r5v, mv, hx, hj']
    refine decode8_w m (by omega) x hxl _ fun H => ?_
    generalize hd : decM x = d
    simp only [DecR.av]
    simp (maxSteps := 4000000) only [EV, EVF, XV, cond_true, cond_false, Bool.false_eq_true, Bool.true_eq_false, eq_self, normsOf, cutsOf, heapOf, quietOf, drawsOf, shpOf, Try.f3, ↓reduceIte, Nat.reduceAdd, Nat.reduceLT, Nat.reduceEqDiff, Nat.reduceLeDiff, Nat.succ_ne_zero, Nat.zero_ne_one, Nat.one_ne_zero, ne_eq, not_false_eq_true, true_and, and_true, Nat.reduceMul, Nat.reduceSub, Int.reduceToNat, Int.toNat_zero, Int.toNat_one, Nat.zero_mul, Nat.one_mul, Int.reduceLT, Int.reduceLE, Int.le_refl, Int.zero_lt_one, Int.toNat_natCast, List.take_length, Int.cast_ofNat_Int, Int.reduceAdd, Int.reduceSub, Int.reduceBEq, Int.reduceBNe, ge_iff_le, gt_iff_lt, decide_true, decide_false, Int.lt_irrefl, Nat.zero_add, Nat.add_zero, r5v, mv, hx, hj']
    refine rdecode8_w m (by omega) x hxl _ fun H => ?_
    rw [hd]
    simp only [DecR.av]
    simp (maxSteps := 4000000) only [EV, EVF, XV, cond_true, cond_false, Bool.false_eq_true, Bool.true_eq_false, eq_self, normsOf, cutsOf, heapOf, quietOf, drawsOf, shpOf, Try.f3, ↓reduceIte, Nat.reduceAdd, Nat.reduceLT, Nat.reduceEqDiff, Nat.reduceLeDiff, Nat.succ_ne_zero, Nat.zero_ne_one, Nat.one_ne_zero, ne_eq, not_false_eq_true, true_and, and_true, Nat.reduceMul, Nat.reduceSub, Int.reduceToNat, Int.toNat_zero, Int.toNat_one, Nat.zero_mul, Nat.one_mul, Int.reduceLT, Int.reduceLE, Int.le_refl, Int.zero_lt_one, Int.toNat_natCast, List.take_length, Int.cast_ofNat_Int, Int.reduceAdd, Int.reduceSub, Int.reduceBEq, Int.reduceBNe, ge_iff_le, gt_iff_lt, decide_true, decide_false, Int.lt_irrefl, Nat.zero_add, Nat.add_zero, r5v, mv, hx, hj', bne_self_eq_false, beq_self_eq_true, wj]
    exact ⟨j + 1, by omega, by omega, rfl⟩
  obtain ⟨z, hz, hzl⟩ : ∃ z : Msg, ([mv y, mv x] : List (List AV))[j]? = some (mv z) ∧ z.body.length ≤ 9223372036854775807 := by
    match j, hj, hj2 with
    | 0, _, _ => exact ⟨y, rfl, by omega⟩
    | 1, _, _ => exact ⟨x, rfl, by omega⟩
    | k + 2, h1, h2 => omega
  simp only [mv] at hz
  have hj' : ((j : Int) < 2) = True := by simp; omega
  have wj : IntKind.i64.wrap ((j : Int) + 1) = ((j + 1 : Nat) : Int) := by rw [wrap64 (by omega) (by omega)]; omega
  simp (maxSteps := 4000000) only [EV, EVF, XV, cond_true, cond_false, Bool.false_eq_true, Bool.true_eq_false, eq_self, normsOf, cutsOf, heapOf, quietOf, drawsOf, shpOf, Try.f3, ↓reduceIte, Nat.reduceAdd, Nat.reduceLT, Nat.reduceEqDiff, Nat.reduceLeDiff, Nat.succ_ne_zero, Nat.zero_ne_one, Nat.one_ne_zero, ne_eq, not_false_eq_true, true_and, and_true, Nat.reduceMul, Nat.reduceSub, Int.reduceToNat, Int.toNat_zero, Int.toNat_one, Nat.zero_mul, Nat.one_mul, Int.reduceLT, Int.reduceLE, Int.le_refl, Int.zero_lt_one, Int.toNat_natCast, List.take_length, Int.cast_ofNat_Int, Int.reduceAdd, Int.reduceSub, Int.reduceBEq, Int.reduceBNe, ge_iff_le, gt_iff_lt, decide_true, decide_false, Int.lt_irrefl, Nat.zero_add, Nat.add_zero, r5v, mv, hz, hj']
  refine encode8_w m (by omega) u z hzl _ fun H => ?_
  generalize hbe : encM u z = be
  simp only [BE.av]
  simp (maxSteps := 4000000) only [EV, EVF, XV, cond_true, cond_false, Bool.false_eq_true, Bool.true_eq_false, eq_self, normsOf, cutsOf, heapOf, quietOf, drawsOf, shpOf, Try.f3, ↓reduceIte, Nat.reduceAdd, Nat.reduceLT, Nat.reduceEqDiff, Nat.reduceLeDiff, Nat.succ_ne_zero, Nat.zero_ne_one, Nat.one_ne_zero, ne_eq, not_false_eq_true, true_and, and_true, Nat.reduceMul, Nat.reduceSub, Int.reduceToNat, Int.toNat_zero, Int.toNat_one, Nat.zero_mul, Nat.one_mul, Int.reduceLT, Int.reduceLE, Int.le_refl, Int.zero_lt_one, Int.toNat_natCast, List.take_length, Int.cast_ofNat_Int, Int.reduceAdd, Int.reduceSub, Int.reduceBEq, Int.reduceBNe, ge_iff_le, gt_iff_lt, decide_true, decide_false, Int.lt_irrefl, Nat.zero_add, Nat.add_zero, r5v, mv, hz, hj']
  refine rencode8_w m (by omega) u z hzl _ fun H => ?_
  rw [hbe]
  simp only [BE.av]
  simp (maxSteps := 4000000) only [EV, EVF, XV, cond_true, cond_false, Bool.false_eq_true, Bool.true_eq_false, eq_self, normsOf, cutsOf, heapOf, quietOf, drawsOf, shpOf, Try.f3, ↓reduceIte, Nat.reduceAdd, Nat.reduceLT, Nat.reduceEqDiff, Nat.reduceLeDiff, Nat.succ_ne_zero, Nat.zero_ne_one, Nat.one_ne_zero, ne_eq, not_false_eq_true, true_and, and_true, Nat.reduceMul, Nat.reduceSub, Int.reduceToNat, Int.toNat_zero, Int.toNat_one, Nat.zero_mul, Nat.one_mul, Int.reduceLT, Int.reduceLE, Int.le_refl, Int.zero_lt_one, Int.toNat_natCast, List.take_length, Int.cast_ofNat_Int, Int.reduceAdd, Int.reduceSub, Int.reduceBEq, Int.reduceBNe, ge_iff_le, gt_iff_lt, decide_true, decide_false, Int.lt_irrefl, Nat.zero_add, Nat.add_zero, r5v, mv, hz, hj', bne_self_eq_false, beq_self_eq_true]
  refine right8_w m (by omega) u z hzl _ fun H => ?_
  simp (maxSteps := 4000000) only [EV, EVF, XV, cond_true, cond_false, Bool.false_eq_true, Bool.true_eq_false, eq_self, normsOf, cutsOf, heapOf, quietOf, drawsOf, shpOf, Try.f3, ↓reduceIte, Nat.reduceAdd, Nat.reduceLT, Nat.reduceEqDiff, Nat.reduceLeDiff, Nat.succ_ne_zero, Nat.zero_ne_one, Nat.one_ne_zero, ne_eq, not_false_eq_true, true_and, and_true, Nat.reduceMul, Nat.reduceSub, Int.reduceToNat, Int.toNat_zero, Int.toNat_one, Nat.zero_mul, Nat.one_mul, Int.reduceLT, Int.reduceLE, Int.le_refl, Int.zero_lt_one, Int.toNat_natCast, List.take_length, Int.cast_ofNat_Int, Int.reduceAdd, Int.reduceSub, Int.reduceBEq, Int.reduceBNe, ge_iff_le, gt_iff_lt, decide_true, decide_false, Int.lt_irrefl, Nat.zero_add, Nat.add_zero, r5v, mv, hz, hj', bne_self_eq_false, beq_self_eq_true]
  refine rright8_w m (by omega) u z hzl _ fun H => ?_
  simp (maxSteps := 4000000) only [EV, EVF, XV, cond_true, cond_false, Bool.false_eq_true, Bool.true_eq_false, eq_self, normsOf, cutsOf, heapOf, quietOf, drawsOf, shpOf, Try.f3, ↓reduceIte, Nat.reduceAdd, Nat.reduceLT, Nat.reduceEqDiff, Nat.reduceLeDiff, Nat.succ_ne_zero, Nat.zero_ne_one, Nat.one_ne_zero, ne_eq, not_false_eq_true, true_and, and_true, Nat.reduceMul, Nat.reduceSub, Int.reduceToNat, Int.toNat_zero, Int.toNat_one, Nat.zero_mul, Nat.one_mul, Int.reduceLT, Int.reduceLE, Int.le_refl, Int.zero_lt_one, Int.toNat_natCast, List.take_length, Int.cast_ofNat_Int, Int.reduceAdd, Int.reduceSub, Int.reduceBEq, Int.reduceBNe, ge_iff_le, gt_iff_lt, decide_true, decide_false, Int.lt_irrefl, Nat.zero_add, Nat.add_zero, r5v, mv, hz, hj', bne_self_eq_false, beq_self_eq_true, wj]
  exact ⟨j + 1, by omega, by omega, rfl⟩
end Go.Ai

/- FieldForth: the machine's word. -/
import Derived.Test.YtngedkiffapofaaField5
import Derived.Test.YtngedkiffapofaaFieldP
set_option linter.unusedVariables false
set_option linter.unusedSimpArgs false
set_option maxRecDepth 100000
set_option maxHeartbeats 4000000
namespace Go.Ai
open Go.Proofs
theorem decGo_err : ∀ (f : Nat) (s : List UInt8) (last : Int) (n : Nat) (e : Int), decGo f s last n = .no e → e ≠ 0
  | 0, _, _, _, _, h => by simp [decGo] at h
  | f + 1, s, last, n, e, h => by
    rw [decGo] at h
    split at h
    · simp at h
    · split at h
      · rename_i e' he
        simp only [Dec.no.injEq] at h
        subst h
        exact oneS_err he
      · split at h
        · simp only [Dec.no.injEq] at h
          omega
        · split at h
          · rename_i e' he
            simp only [Dec.no.injEq] at h
            subst h
            exact decGo_err f _ _ _ _ he
          · simp at h
theorem decodeS_err {s : List UInt8} {e : Int} (h : decodeS s = .no e) : e ≠ 0 := by
  unfold decodeS at h
  split at h
  · simp only [Dec.no.injEq] at h
    omega
  · exact decGo_err _ _ _ _ _ h
theorem forth_law (m : Nat) (hm : 10 ≤ m) (s : List UInt8) (hs : s.length ≤ 140737488351232) (r : List (Int × Int)) (hrl : r.length ≤ 140737488351232) (hr : ∀ p ∈ r, i64ok p.1 ∧ i64ok p.2) (ts : List (List UInt8)) (htl : ts.length ≤ 140737488351232) (htt : ∀ t ∈ ts, t.length ≤ 140737488351232) (at' : Int) (hat : i64ok at') (mo : List UInt8) (hmo : mo.length ≤ 140737488351232) : wpF C m 5 [.v (.string (mk s)), .lst 2 (r.map rv), .lst 1 (ts.map tv), .v (.int .i64 at'), .v (.string (mk mo))] [] fun r _ => r = .v (.bool true) := by
  obtain ⟨m, rfl⟩ : ∃ j, m = j + 1 := ⟨m - 1, by omega⟩; simp only [wpF, bodyA, fn_5, C_P, ok_5, C_prim, primOf, true_and]; simp (maxSteps := 4000000) only [EV, EVF, XV, cond_true, cond_false, Bool.false_eq_true, Bool.true_eq_false, eq_self, normsOf, heapOf, drawsOf, shpOf, Try.f5, ↓reduceIte, Nat.reduceAdd, Nat.reduceLT, Nat.reduceEqDiff, Nat.reduceLeDiff, Nat.succ_ne_zero, Nat.zero_ne_one, Nat.one_ne_zero, ne_eq, not_false_eq_true, true_and, and_true, Nat.reduceMul, Nat.reduceSub, Int.reduceToNat, Int.toNat_zero, Int.toNat_one, Nat.zero_mul, Nat.one_mul, Int.reduceLT, Int.reduceLE, Int.le_refl, Int.zero_lt_one, Int.toNat_natCast, List.take_length, Int.cast_ofNat_Int, Int.reduceAdd, Int.reduceSub, Int.reduceBEq, Int.reduceBNe, ge_iff_le, gt_iff_lt, decide_true, decide_false, Int.lt_irrefl, Nat.zero_add, Nat.add_zero]
  have hlow : 140737488351232 ≤ 9223372036854775807 := by decide
  refine awake_w m (by omega) _ fun H => ?_
  simp (maxSteps := 4000000) only [EV, EVF, XV, cond_true, cond_false, Bool.false_eq_true, Bool.true_eq_false, eq_self, normsOf, heapOf, drawsOf, shpOf, Try.f5, ↓reduceIte, Nat.reduceAdd, Nat.reduceLT, Nat.reduceEqDiff, Nat.reduceLeDiff, Nat.succ_ne_zero, Nat.zero_ne_one, Nat.one_ne_zero, ne_eq, not_false_eq_true, true_and, and_true, Nat.reduceMul, Nat.reduceSub, Int.reduceToNat, Int.toNat_zero, Int.toNat_one, Nat.zero_mul, Nat.one_mul, Int.reduceLT, Int.reduceLE, Int.le_refl, Int.zero_lt_one, Int.toNat_natCast, List.take_length, Int.cast_ofNat_Int, Int.reduceAdd, Int.reduceSub, Int.reduceBEq, Int.reduceBNe, ge_iff_le, gt_iff_lt, decide_true, decide_false, Int.lt_irrefl, Nat.zero_add, Nat.add_zero]
  refine fields_w m (by omega) r ts hr (by omega) _ ?_
  obtain ⟨hR, hL, hB⟩ := fieldsS_facts ts hr
  generalize fieldsS r ts = l at hR hL hB ⊢
  simp (maxSteps := 4000000) only [EV, EVF, XV, cond_true, cond_false, Bool.false_eq_true, Bool.true_eq_false, eq_self, normsOf, heapOf, drawsOf, shpOf, Try.f5, ↓reduceIte, Nat.reduceAdd, Nat.reduceLT, Nat.reduceEqDiff, Nat.reduceLeDiff, Nat.succ_ne_zero, Nat.zero_ne_one, Nat.one_ne_zero, ne_eq, not_false_eq_true, true_and, and_true, Nat.reduceMul, Nat.reduceSub, Int.reduceToNat, Int.toNat_zero, Int.toNat_one, Nat.zero_mul, Nat.one_mul, Int.reduceLT, Int.reduceLE, Int.le_refl, Int.zero_lt_one, Int.toNat_natCast, List.take_length, Int.cast_ofNat_Int, Int.reduceAdd, Int.reduceSub, Int.reduceBEq, Int.reduceBNe, ge_iff_le, gt_iff_lt, decide_true, decide_false, Int.lt_irrefl, Nat.zero_add, Nat.add_zero]
  refine encode_w m (by omega) l (by omega) _ fun H => ?_
  rw [encodeS_ok hR (by omega)]
  generalize encL l = t at hB ⊢
  simp only [BE.av]
  have w1 : IntKind.i64.wrap ((t.length : Int) + 1) = (t.length : Int) + 1 := wrap64 (by omega) (by omega)
  simp (maxSteps := 4000000) only [EV, EVF, XV, cond_true, cond_false, Bool.false_eq_true, Bool.true_eq_false, eq_self, normsOf, heapOf, drawsOf, shpOf, Try.f5, ↓reduceIte, Nat.reduceAdd, Nat.reduceLT, Nat.reduceEqDiff, Nat.reduceLeDiff, Nat.succ_ne_zero, Nat.zero_ne_one, Nat.one_ne_zero, ne_eq, not_false_eq_true, true_and, and_true, Nat.reduceMul, Nat.reduceSub, Int.reduceToNat, Int.toNat_zero, Int.toNat_one, Nat.zero_mul, Nat.one_mul, Int.reduceLT, Int.reduceLE, Int.le_refl, Int.zero_lt_one, Int.toNat_natCast, List.take_length, Int.cast_ofNat_Int, Int.reduceAdd, Int.reduceSub, Int.reduceBEq, Int.reduceBNe, ge_iff_le, gt_iff_lt, decide_true, decide_false, Int.lt_irrefl, Nat.zero_add, Nat.add_zero, w1]
  refine pick_w m (by omega) _ _ (by omega) _ ?_
  have hk := pickN_bd (c := at') (n := (t.length : Int) + 1) hat.1 hat.2 (by omega)
  obtain ⟨k, hk2⟩ : ∃ k : Nat, pickN at' ((t.length : Int) + 1) = k := ⟨(pickN at' ((t.length : Int) + 1)).toNat, by omega⟩
  rw [hk2] at hk ⊢
  have hkl : k ≤ t.length := by omega
  have w2 : IntKind.i64.wrap ((k : Int) + mo.length) = ((k + mo.length : Nat) : Int) := by rw [wrap64 (by omega) (by omega)]; omega
  simp (maxSteps := 4000000) only [EV, EVF, XV, cond_true, cond_false, Bool.false_eq_true, Bool.true_eq_false, eq_self, normsOf, heapOf, drawsOf, shpOf, Try.f5, ↓reduceIte, Nat.reduceAdd, Nat.reduceLT, Nat.reduceEqDiff, Nat.reduceLeDiff, Nat.succ_ne_zero, Nat.zero_ne_one, Nat.one_ne_zero, ne_eq, not_false_eq_true, true_and, and_true, Nat.reduceMul, Nat.reduceSub, Int.reduceToNat, Int.toNat_zero, Int.toNat_one, Nat.zero_mul, Nat.one_mul, Int.reduceLT, Int.reduceLE, Int.le_refl, Int.zero_lt_one, Int.toNat_natCast, List.take_length, Int.cast_ofNat_Int, Int.reduceAdd, Int.reduceSub, Int.reduceBEq, Int.reduceBNe, ge_iff_le, gt_iff_lt, decide_true, decide_false, Int.lt_irrefl, Nat.zero_add, Nat.add_zero, w2]
  obtain ⟨j, hj⟩ : ∃ j : Nat, (if (t.length : Int) < ((k + mo.length : Nat) : Int) then (t.length : Int) else ((k + mo.length : Nat) : Int)) = j := by
    split
    · exact ⟨_, rfl⟩
    · exact ⟨_, rfl⟩
  have hjt : j ≤ t.length := by
    split at hj <;> omega
  rw [hj]
  have hlen1 : (t.take k).length ≤ t.length := by simp; omega
  have hlen2 : (t.drop k).length ≤ t.length := by simp
  have hlen3 : (t.drop j).length ≤ t.length := by simp
  refine ⟨by omega, by omega, by omega, by omega, by simp only [Int.toNat_natCast]; omega, by omega, by omega, by omega, by omega, ?_⟩
  simp only [Int.toNat_natCast]
  generalize hX : t.take k ++ mo ++ t.drop j = X
  generalize hY : t.take k ++ mo ++ t.drop k = Y
  have hXl : X.length ≤ 9223372036854775807 := by rw [← hX]; simp only [List.length_append]; omega
  have hYl : Y.length ≤ 9223372036854775807 := by rw [← hY]; simp only [List.length_append]; omega
  refine loop_at (fun i : Nat => ⟨[(11, .v (.bool true)), (59, .row 0 1 0 3), (60, .v (.int .i64 3)), (61, .v (.int .i64 i))], [some (.row 9 1 [[.v (.string (mk s))], [.v (.string (mk X))], [.v (.string (mk Y))]])]⟩) (fun i => i ≤ 3) (fun i => 3 - i) 0 (by decide) rfl ?_
  intro i hi
  by_cases hi2 : i = 3
  · subst hi2
    simp (maxSteps := 4000000) only [EV, EVF, XV, cond_true, cond_false, Bool.false_eq_true, Bool.true_eq_false, eq_self, normsOf, heapOf, drawsOf, shpOf, Try.f5, ↓reduceIte, Nat.reduceAdd, Nat.reduceLT, Nat.reduceEqDiff, Nat.reduceLeDiff, Nat.succ_ne_zero, Nat.zero_ne_one, Nat.one_ne_zero, ne_eq, not_false_eq_true, true_and, and_true, Nat.reduceMul, Nat.reduceSub, Int.reduceToNat, Int.toNat_zero, Int.toNat_one, Nat.zero_mul, Nat.one_mul, Int.reduceLT, Int.reduceLE, Int.le_refl, Int.zero_lt_one, Int.toNat_natCast, List.take_length, Int.cast_ofNat_Int, Int.reduceAdd, Int.reduceSub, Int.reduceBEq, Int.reduceBNe, ge_iff_le, gt_iff_lt, decide_true, decide_false, Int.lt_irrefl, Nat.zero_add, Nat.add_zero]
  obtain ⟨x, hx, hxl⟩ : ∃ x : List UInt8, ([[.v (.string (mk s))], [.v (.string (mk X))], [.v (.string (mk Y))]] : List (List AV))[i]? = some [.v (.string (mk x))] ∧ x.length ≤ 9223372036854775807 := by
    match i, hi, hi2 with
    | 0, _, _ => exact ⟨s, rfl, by omega⟩
    | 1, _, _ => exact ⟨X, rfl, by omega⟩
    | 2, _, _ => exact ⟨Y, rfl, by omega⟩
    | k + 3, h1, h2 => omega
  have hi' : ((i : Int) < 3) = True := by simp; omega
  have w : IntKind.i64.wrap ((i : Int) + 1) = ((i + 1 : Nat) : Int) := by rw [wrap64 (by omega) (by omega)]; omega
  simp (maxSteps := 4000000) only [EV, EVF, XV, cond_true, cond_false, Bool.false_eq_true, Bool.true_eq_false, eq_self, normsOf, heapOf, drawsOf, shpOf, Try.f5, ↓reduceIte, Nat.reduceAdd, Nat.reduceLT, Nat.reduceEqDiff, Nat.reduceLeDiff, Nat.succ_ne_zero, Nat.zero_ne_one, Nat.one_ne_zero, ne_eq, not_false_eq_true, true_and, and_true, Nat.reduceMul, Nat.reduceSub, Int.reduceToNat, Int.toNat_zero, Int.toNat_one, Nat.zero_mul, Nat.one_mul, Int.reduceLT, Int.reduceLE, Int.le_refl, Int.zero_lt_one, Int.toNat_natCast, List.take_length, Int.cast_ofNat_Int, Int.reduceAdd, Int.reduceSub, Int.reduceBEq, Int.reduceBNe, ge_iff_le, gt_iff_lt, decide_true, decide_false, Int.lt_irrefl, Nat.zero_add, Nat.add_zero, hx, hi']
  refine decode_w m (by omega) x hxl _ (fun e H he => ?_) (fun l' he => ?_)
  · have he0 : (e != 0) = true := by simpa using decodeS_err he
    simp (maxSteps := 4000000) only [EV, EVF, XV, cond_true, cond_false, Bool.false_eq_true, Bool.true_eq_false, eq_self, normsOf, heapOf, drawsOf, shpOf, Try.f5, ↓reduceIte, Nat.reduceAdd, Nat.reduceLT, Nat.reduceEqDiff, Nat.reduceLeDiff, Nat.succ_ne_zero, Nat.zero_ne_one, Nat.one_ne_zero, ne_eq, not_false_eq_true, true_and, and_true, Nat.reduceMul, Nat.reduceSub, Int.reduceToNat, Int.toNat_zero, Int.toNat_one, Nat.zero_mul, Nat.one_mul, Int.reduceLT, Int.reduceLE, Int.le_refl, Int.zero_lt_one, Int.toNat_natCast, List.take_length, Int.cast_ofNat_Int, Int.reduceAdd, Int.reduceSub, Int.reduceBEq, Int.reduceBNe, ge_iff_le, gt_iff_lt, decide_true, decide_false, Int.lt_irrefl, Nat.zero_add, Nat.add_zero, hx, hi', he0, w]
    exact ⟨i + 1, by omega, by omega, rfl⟩
  · obtain ⟨h1, h2, h3⟩ := encode_decode he
    have h4 := (right_bd h2).1
    simp (maxSteps := 4000000) only [EV, EVF, XV, cond_true, cond_false, Bool.false_eq_true, Bool.true_eq_false, eq_self, normsOf, heapOf, drawsOf, shpOf, Try.f5, ↓reduceIte, Nat.reduceAdd, Nat.reduceLT, Nat.reduceEqDiff, Nat.reduceLeDiff, Nat.succ_ne_zero, Nat.zero_ne_one, Nat.one_ne_zero, ne_eq, not_false_eq_true, true_and, and_true, Nat.reduceMul, Nat.reduceSub, Int.reduceToNat, Int.toNat_zero, Int.toNat_one, Nat.zero_mul, Nat.one_mul, Int.reduceLT, Int.reduceLE, Int.le_refl, Int.zero_lt_one, Int.toNat_natCast, List.take_length, Int.cast_ofNat_Int, Int.reduceAdd, Int.reduceSub, Int.reduceBEq, Int.reduceBNe, ge_iff_le, gt_iff_lt, decide_true, decide_false, Int.lt_irrefl, Nat.zero_add, Nat.add_zero, hx, hi', w]
    refine encode_w m (by omega) l' (by omega) _ fun H => ?_
    rw [encodeS_ok h2 (by rw [h1]; exact h3), h1]
    simp only [BE.av]
    simp (maxSteps := 4000000) only [EV, EVF, XV, cond_true, cond_false, Bool.false_eq_true, Bool.true_eq_false, eq_self, normsOf, heapOf, drawsOf, shpOf, Try.f5, ↓reduceIte, Nat.reduceAdd, Nat.reduceLT, Nat.reduceEqDiff, Nat.reduceLeDiff, Nat.succ_ne_zero, Nat.zero_ne_one, Nat.one_ne_zero, ne_eq, not_false_eq_true, true_and, and_true, Nat.reduceMul, Nat.reduceSub, Int.reduceToNat, Int.toNat_zero, Int.toNat_one, Nat.zero_mul, Nat.one_mul, Int.reduceLT, Int.reduceLE, Int.le_refl, Int.zero_lt_one, Int.toNat_natCast, List.take_length, Int.cast_ofNat_Int, Int.reduceAdd, Int.reduceSub, Int.reduceBEq, Int.reduceBNe, ge_iff_le, gt_iff_lt, decide_true, decide_false, Int.lt_irrefl, Nat.zero_add, Nat.add_zero, hx, hi', w]
    refine right_w m (by omega) l' (by omega) _ ?_
    rw [h2]
    simp (maxSteps := 4000000) only [EV, EVF, XV, cond_true, cond_false, Bool.false_eq_true, Bool.true_eq_false, eq_self, normsOf, heapOf, drawsOf, shpOf, Try.f5, ↓reduceIte, Nat.reduceAdd, Nat.reduceLT, Nat.reduceEqDiff, Nat.reduceLeDiff, Nat.succ_ne_zero, Nat.zero_ne_one, Nat.one_ne_zero, ne_eq, not_false_eq_true, true_and, and_true, Nat.reduceMul, Nat.reduceSub, Int.reduceToNat, Int.toNat_zero, Int.toNat_one, Nat.zero_mul, Nat.one_mul, Int.reduceLT, Int.reduceLE, Int.le_refl, Int.zero_lt_one, Int.toNat_natCast, List.take_length, Int.cast_ofNat_Int, Int.reduceAdd, Int.reduceSub, Int.reduceBEq, Int.reduceBNe, ge_iff_le, gt_iff_lt, decide_true, decide_false, Int.lt_irrefl, Nat.zero_add, Nat.add_zero, hx, hi', w]
    exact ⟨i + 1, by omega, by omega, rfl⟩
end Go.Ai

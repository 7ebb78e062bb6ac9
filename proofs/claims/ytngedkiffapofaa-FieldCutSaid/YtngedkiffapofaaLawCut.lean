/- FieldCut: the machine's word. -/
import Derived.Test.YtngedkiffapofaaField5
import Derived.Test.YtngedkiffapofaaFieldP
set_option linter.unusedVariables false
set_option linter.unusedSimpArgs false
set_option maxRecDepth 100000
set_option maxHeartbeats 4000000
namespace Go.Ai
open Go.Proofs
theorem rightGo_of {l : List Fld} (h : rightS l = true) : rightGo 0 l = true := by
  simp only [rightS, Bool.and_eq_true] at h
  exact h.1
theorem decode_cut {l : List Fld} (h : rightS l = true) (hl : (encL l).length ≤ 10000) {k : Nat} (hk : k ≤ (encL l).length) :
    (∃ i, i ≤ l.length ∧ (encL (l.take i)).length = k ∧ decodeS ((encL l).take k) = .ok (l.take i)) ∨ ((∀ i, i ≤ l.length → (encL (l.take i)).length ≠ k) ∧ decodeS ((encL l).take k) = .no 10) := by
  have hln := (right_bd h).1
  have hlen : ((encL l).take k).length = k := by simp; omega
  have e : decodeS ((encL l).take k) = decGo k ((encL l).take k) 0 0 := by
    unfold decodeS
    rw [hlen, if_neg (by omega)]
  rw [e]
  exact decGo_cut l k 0 0 k (Int.le_refl _) (rightGo_of h) (by omega) hk (by omega)
theorem enc_inj {l : List Fld} : ∀ {i j : Nat}, i ≤ l.length → j ≤ l.length → (encL (l.take i)).length = (encL (l.take j)).length → i = j := by
  have key : ∀ {i j : Nat}, i < j → j ≤ l.length → (encL (l.take i)).length < (encL (l.take j)).length := by
    intro i j hij hj
    have e : l.take j = l.take i ++ (l.take j).drop i := by
      have := (List.take_append_drop i (l.take j)).symm
      rwa [List.take_take, Nat.min_eq_left (by omega)] at this
    rw [e, encL_append, List.length_append]
    obtain ⟨x, r, hx⟩ : ∃ x r, (l.take j).drop i = x :: r := by
      cases h : (l.take j).drop i with
      | nil =>
        have := congrArg List.length h
        simp at this
        omega
      | cons x r => exact ⟨x, r, rfl⟩
    rw [hx, encL_cons, List.length_append]
    have := encF_ne x
    omega
  intro i j hi hj h
  rcases Nat.lt_trichotomy i j with h1 | h1 | h1
  · have := key h1 hj; omega
  · exact h1
  · have := key h1 hi; omega
theorem cut_law (m : Nat) (hm : 10 ≤ m) (r : List (Int × Int)) (hrl : r.length ≤ 9223372036854775807) (hr : ∀ p ∈ r, i64ok p.1 ∧ i64ok p.2) (ts : List (List UInt8)) (htl : ts.length ≤ 9223372036854775807) (htt : ∀ t ∈ ts, t.length ≤ 9223372036854775807) (at' : Int) (hat : i64ok at') : wpF C m 6 [.lst 2 (r.map rv), .lst 1 (ts.map tv), .v (.int .i64 at')] [] fun r _ => r = .v (.bool true) := by
  obtain ⟨m, rfl⟩ : ∃ j, m = j + 1 := ⟨m - 1, by omega⟩; simp only [wpF, bodyA, fn_6, C_P, ok_6, C_prim, primOf, true_and]; simp (maxSteps := 4000000) only [EV, EVF, XV, cond_true, cond_false, Bool.false_eq_true, Bool.true_eq_false, eq_self, normsOf, heapOf, drawsOf, shpOf, Try.f6, ↓reduceIte, Nat.reduceAdd, Nat.reduceLT, Nat.reduceEqDiff, Nat.reduceLeDiff, Nat.succ_ne_zero, Nat.zero_ne_one, Nat.one_ne_zero, ne_eq, not_false_eq_true, true_and, and_true, Nat.reduceMul, Nat.reduceSub, Int.reduceToNat, Int.toNat_zero, Int.toNat_one, Nat.zero_mul, Nat.one_mul, Int.reduceLT, Int.reduceLE, Int.le_refl, Int.zero_lt_one, Int.toNat_natCast, List.take_length, Int.cast_ofNat_Int, Int.reduceAdd, Int.reduceSub, Int.reduceBEq, Int.reduceBNe, ge_iff_le, gt_iff_lt, decide_true, decide_false, Int.lt_irrefl, Nat.zero_add, Nat.add_zero]
  refine awake_w m (by omega) _ fun H => ?_
  simp (maxSteps := 4000000) only [EV, EVF, XV, cond_true, cond_false, Bool.false_eq_true, Bool.true_eq_false, eq_self, normsOf, heapOf, drawsOf, shpOf, Try.f6, ↓reduceIte, Nat.reduceAdd, Nat.reduceLT, Nat.reduceEqDiff, Nat.reduceLeDiff, Nat.succ_ne_zero, Nat.zero_ne_one, Nat.one_ne_zero, ne_eq, not_false_eq_true, true_and, and_true, Nat.reduceMul, Nat.reduceSub, Int.reduceToNat, Int.toNat_zero, Int.toNat_one, Nat.zero_mul, Nat.one_mul, Int.reduceLT, Int.reduceLE, Int.le_refl, Int.zero_lt_one, Int.toNat_natCast, List.take_length, Int.cast_ofNat_Int, Int.reduceAdd, Int.reduceSub, Int.reduceBEq, Int.reduceBNe, ge_iff_le, gt_iff_lt, decide_true, decide_false, Int.lt_irrefl, Nat.zero_add, Nat.add_zero]
  refine fields_w m (by omega) r ts hr htl _ ?_
  obtain ⟨hR, hL, hB⟩ := fieldsS_facts ts hr
  generalize fieldsS r ts = l at hR hL hB ⊢
  simp (maxSteps := 4000000) only [EV, EVF, XV, cond_true, cond_false, Bool.false_eq_true, Bool.true_eq_false, eq_self, normsOf, heapOf, drawsOf, shpOf, Try.f6, ↓reduceIte, Nat.reduceAdd, Nat.reduceLT, Nat.reduceEqDiff, Nat.reduceLeDiff, Nat.succ_ne_zero, Nat.zero_ne_one, Nat.one_ne_zero, ne_eq, not_false_eq_true, true_and, and_true, Nat.reduceMul, Nat.reduceSub, Int.reduceToNat, Int.toNat_zero, Int.toNat_one, Nat.zero_mul, Nat.one_mul, Int.reduceLT, Int.reduceLE, Int.le_refl, Int.zero_lt_one, Int.toNat_natCast, List.take_length, Int.cast_ofNat_Int, Int.reduceAdd, Int.reduceSub, Int.reduceBEq, Int.reduceBNe, ge_iff_le, gt_iff_lt, decide_true, decide_false, Int.lt_irrefl, Nat.zero_add, Nat.add_zero]
  refine encode_w m (by omega) l (by omega) _ fun H => ?_
  rw [encodeS_ok hR (by omega)]
  simp only [BE.av]
  have w1 : IntKind.i64.wrap (((encL l).length : Int) + 1) = ((encL l).length : Int) + 1 := wrap64 (by omega) (by omega)
  simp (maxSteps := 4000000) only [EV, EVF, XV, cond_true, cond_false, Bool.false_eq_true, Bool.true_eq_false, eq_self, normsOf, heapOf, drawsOf, shpOf, Try.f6, ↓reduceIte, Nat.reduceAdd, Nat.reduceLT, Nat.reduceEqDiff, Nat.reduceLeDiff, Nat.succ_ne_zero, Nat.zero_ne_one, Nat.one_ne_zero, ne_eq, not_false_eq_true, true_and, and_true, Nat.reduceMul, Nat.reduceSub, Int.reduceToNat, Int.toNat_zero, Int.toNat_one, Nat.zero_mul, Nat.one_mul, Int.reduceLT, Int.reduceLE, Int.le_refl, Int.zero_lt_one, Int.toNat_natCast, List.take_length, Int.cast_ofNat_Int, Int.reduceAdd, Int.reduceSub, Int.reduceBEq, Int.reduceBNe, ge_iff_le, gt_iff_lt, decide_true, decide_false, Int.lt_irrefl, Nat.zero_add, Nat.add_zero, w1]
  refine pick_w m (by omega) _ _ (by omega) _ ?_
  have hk := pickN_bd (c := at') (n := ((encL l).length : Int) + 1) hat.1 hat.2 (by omega)
  obtain ⟨k, hk2⟩ : ∃ k : Nat, pickN at' (((encL l).length : Int) + 1) = k := ⟨(pickN at' (((encL l).length : Int) + 1)).toNat, by omega⟩
  rw [hk2] at hk ⊢
  have hkl : k ≤ (encL l).length := by omega
  simp (maxSteps := 4000000) only [EV, EVF, XV, cond_true, cond_false, Bool.false_eq_true, Bool.true_eq_false, eq_self, normsOf, heapOf, drawsOf, shpOf, Try.f6, ↓reduceIte, Nat.reduceAdd, Nat.reduceLT, Nat.reduceEqDiff, Nat.reduceLeDiff, Nat.succ_ne_zero, Nat.zero_ne_one, Nat.one_ne_zero, ne_eq, not_false_eq_true, true_and, and_true, Nat.reduceMul, Nat.reduceSub, Int.reduceToNat, Int.toNat_zero, Int.toNat_one, Nat.zero_mul, Nat.one_mul, Int.reduceLT, Int.reduceLE, Int.le_refl, Int.zero_lt_one, Int.toNat_natCast, List.take_length, Int.cast_ofNat_Int, Int.reduceAdd, Int.reduceSub, Int.reduceBEq, Int.reduceBNe, ge_iff_le, gt_iff_lt, decide_true, decide_false, Int.lt_irrefl, Nat.zero_add, Nat.add_zero]
  refine ⟨by omega, ?_⟩
  refine decode_w m (by omega) ((encL l).take k) (by simp; omega) _ ?_ ?_
  · intro e H he
    have hno : e = 10 ∧ ∀ i, i ≤ l.length → (encL (l.take i)).length ≠ k := by
      rcases decode_cut hR (by omega) hkl with ⟨i, _, _, h⟩ | ⟨h1, h⟩
      · rw [h] at he; cases he
      · rw [h] at he; cases he; exact ⟨rfl, h1⟩
    obtain ⟨rfl, hno⟩ := hno
    simp (maxSteps := 4000000) only [EV, EVF, XV, cond_true, cond_false, Bool.false_eq_true, Bool.true_eq_false, eq_self, normsOf, heapOf, drawsOf, shpOf, Try.f6, ↓reduceIte, Nat.reduceAdd, Nat.reduceLT, Nat.reduceEqDiff, Nat.reduceLeDiff, Nat.succ_ne_zero, Nat.zero_ne_one, Nat.one_ne_zero, ne_eq, not_false_eq_true, true_and, and_true, Nat.reduceMul, Nat.reduceSub, Int.reduceToNat, Int.toNat_zero, Int.toNat_one, Nat.zero_mul, Nat.one_mul, Int.reduceLT, Int.reduceLE, Int.le_refl, Int.zero_lt_one, Int.toNat_natCast, List.take_length, Int.cast_ofNat_Int, Int.reduceAdd, Int.reduceSub, Int.reduceBEq, Int.reduceBNe, ge_iff_le, gt_iff_lt, decide_true, decide_false, Int.lt_irrefl, Nat.zero_add, Nat.add_zero]
    refine loop_at (fun i : Nat => ⟨[(7, .v (.bool true)), (8, .row 0 2 0 l.length), (11, .v (.int .i64 k)), (12, .v (.slice none 0 0)), (13, .v (.int .i64 10)), (14, .v (.int .i64 i))], [some (.row 43 2 (l.map fv))]⟩) (fun i => i ≤ l.length + 1) (fun i => l.length + 1 - i) 0 (by omega) rfl ?_
    intro i hi
    by_cases hil : i ≤ l.length
    · have h1 : ((i : Int) ≤ l.length) = True := by simp; omega
      have w : IntKind.i64.wrap ((i : Int) + 1) = ((i + 1 : Nat) : Int) := by rw [wrap64 (by omega) (by omega)]; omega
      simp (maxSteps := 4000000) only [EV, EVF, XV, cond_true, cond_false, Bool.false_eq_true, Bool.true_eq_false, eq_self, normsOf, heapOf, drawsOf, shpOf, Try.f6, ↓reduceIte, Nat.reduceAdd, Nat.reduceLT, Nat.reduceEqDiff, Nat.reduceLeDiff, Nat.succ_ne_zero, Nat.zero_ne_one, Nat.one_ne_zero, ne_eq, not_false_eq_true, true_and, and_true, Nat.reduceMul, Nat.reduceSub, Int.reduceToNat, Int.toNat_zero, Int.toNat_one, Nat.zero_mul, Nat.one_mul, Int.reduceLT, Int.reduceLE, Int.le_refl, Int.zero_lt_one, Int.toNat_natCast, List.take_length, Int.cast_ofNat_Int, Int.reduceAdd, Int.reduceSub, Int.reduceBEq, Int.reduceBNe, ge_iff_le, gt_iff_lt, decide_true, decide_false, Int.lt_irrefl, Nat.zero_add, Nat.add_zero, h1]
      refine encode_w m (by omega) (l.take i) (by simp; omega) _ fun H => ?_
      rw [encodeS_ok (rightS_take i hR) (by have := congrArg List.length (encL_split l i); rw [List.length_append] at this; omega)]
      simp only [BE.av]
      have hne : ((((encL (l.take i)).length : Int) == k)) = false := by simp; have := hno i hil; omega
      simp (maxSteps := 4000000) only [EV, EVF, XV, cond_true, cond_false, Bool.false_eq_true, Bool.true_eq_false, eq_self, normsOf, heapOf, drawsOf, shpOf, Try.f6, ↓reduceIte, Nat.reduceAdd, Nat.reduceLT, Nat.reduceEqDiff, Nat.reduceLeDiff, Nat.succ_ne_zero, Nat.zero_ne_one, Nat.one_ne_zero, ne_eq, not_false_eq_true, true_and, and_true, Nat.reduceMul, Nat.reduceSub, Int.reduceToNat, Int.toNat_zero, Int.toNat_one, Nat.zero_mul, Nat.one_mul, Int.reduceLT, Int.reduceLE, Int.le_refl, Int.zero_lt_one, Int.toNat_natCast, List.take_length, Int.cast_ofNat_Int, Int.reduceAdd, Int.reduceSub, Int.reduceBEq, Int.reduceBNe, ge_iff_le, gt_iff_lt, decide_true, decide_false, Int.lt_irrefl, Nat.zero_add, Nat.add_zero, h1, hne, w]
      exact ⟨i + 1, by omega, by omega, rfl⟩
    · have h1 : ((i : Int) ≤ l.length) = False := by simp; omega
      simp (maxSteps := 4000000) only [EV, EVF, XV, cond_true, cond_false, Bool.false_eq_true, Bool.true_eq_false, eq_self, normsOf, heapOf, drawsOf, shpOf, Try.f6, ↓reduceIte, Nat.reduceAdd, Nat.reduceLT, Nat.reduceEqDiff, Nat.reduceLeDiff, Nat.succ_ne_zero, Nat.zero_ne_one, Nat.one_ne_zero, ne_eq, not_false_eq_true, true_and, and_true, Nat.reduceMul, Nat.reduceSub, Int.reduceToNat, Int.toNat_zero, Int.toNat_one, Nat.zero_mul, Nat.one_mul, Int.reduceLT, Int.reduceLE, Int.le_refl, Int.zero_lt_one, Int.toNat_natCast, List.take_length, Int.cast_ofNat_Int, Int.reduceAdd, Int.reduceSub, Int.reduceBEq, Int.reduceBNe, ge_iff_le, gt_iff_lt, decide_true, decide_false, Int.lt_irrefl, Nat.zero_add, Nat.add_zero, h1]
  · intro l' he
    obtain ⟨i0, hi0, hk0, rfl⟩ : ∃ i, i ≤ l.length ∧ (encL (l.take i)).length = k ∧ l' = l.take i := by
      rcases decode_cut hR (by omega) hkl with ⟨i, h1, h2, h⟩ | ⟨h1, h⟩
      · rw [h] at he; cases he; exact ⟨i, h1, h2, rfl⟩
      · rw [h] at he; cases he
    simp (maxSteps := 4000000) only [EV, EVF, XV, cond_true, cond_false, Bool.false_eq_true, Bool.true_eq_false, eq_self, normsOf, heapOf, drawsOf, shpOf, Try.f6, ↓reduceIte, Nat.reduceAdd, Nat.reduceLT, Nat.reduceEqDiff, Nat.reduceLeDiff, Nat.succ_ne_zero, Nat.zero_ne_one, Nat.one_ne_zero, ne_eq, not_false_eq_true, true_and, and_true, Nat.reduceMul, Nat.reduceSub, Int.reduceToNat, Int.toNat_zero, Int.toNat_one, Nat.zero_mul, Nat.one_mul, Int.reduceLT, Int.reduceLE, Int.le_refl, Int.zero_lt_one, Int.toNat_natCast, List.take_length, Int.cast_ofNat_Int, Int.reduceAdd, Int.reduceSub, Int.reduceBEq, Int.reduceBNe, ge_iff_le, gt_iff_lt, decide_true, decide_false, Int.lt_irrefl, Nat.zero_add, Nat.add_zero]
    refine loop_at (fun i : Nat => ⟨[(7, .v (.bool true)), (8, .row 0 2 0 l.length), (11, .v (.int .i64 k)), (12, .row 1 2 0 (l.take i0).length), (13, .v (.int .i64 0)), (14, .v (.int .i64 i))], [some (.row 43 2 (l.map fv)), some (.row 43 2 ((l.take i0).map fv))]⟩) (fun i => i ≤ i0) (fun i => l.length + 1 - i) 0 (by omega) rfl ?_
    intro i hi
    have hil : i ≤ l.length := by omega
    have h1 : ((i : Int) ≤ l.length) = True := by simp; omega
    have w : IntKind.i64.wrap ((i : Int) + 1) = ((i + 1 : Nat) : Int) := by rw [wrap64 (by omega) (by omega)]; omega
    simp (maxSteps := 4000000) only [EV, EVF, XV, cond_true, cond_false, Bool.false_eq_true, Bool.true_eq_false, eq_self, normsOf, heapOf, drawsOf, shpOf, Try.f6, ↓reduceIte, Nat.reduceAdd, Nat.reduceLT, Nat.reduceEqDiff, Nat.reduceLeDiff, Nat.succ_ne_zero, Nat.zero_ne_one, Nat.one_ne_zero, ne_eq, not_false_eq_true, true_and, and_true, Nat.reduceMul, Nat.reduceSub, Int.reduceToNat, Int.toNat_zero, Int.toNat_one, Nat.zero_mul, Nat.one_mul, Int.reduceLT, Int.reduceLE, Int.le_refl, Int.zero_lt_one, Int.toNat_natCast, List.take_length, Int.cast_ofNat_Int, Int.reduceAdd, Int.reduceSub, Int.reduceBEq, Int.reduceBNe, ge_iff_le, gt_iff_lt, decide_true, decide_false, Int.lt_irrefl, Nat.zero_add, Nat.add_zero, h1]
    refine encode_w m (by omega) (l.take i) (by simp; omega) _ fun H => ?_
    rw [encodeS_ok (rightS_take i hR) (by have := congrArg List.length (encL_split l i); rw [List.length_append] at this; omega)]
    simp only [BE.av]
    by_cases hii : i = i0
    · subst hii
      have hne : ((((encL (l.take i)).length : Int) == k)) = true := by simp; omega
      simp (maxSteps := 4000000) only [EV, EVF, XV, cond_true, cond_false, Bool.false_eq_true, Bool.true_eq_false, eq_self, normsOf, heapOf, drawsOf, shpOf, Try.f6, ↓reduceIte, Nat.reduceAdd, Nat.reduceLT, Nat.reduceEqDiff, Nat.reduceLeDiff, Nat.succ_ne_zero, Nat.zero_ne_one, Nat.one_ne_zero, ne_eq, not_false_eq_true, true_and, and_true, Nat.reduceMul, Nat.reduceSub, Int.reduceToNat, Int.toNat_zero, Int.toNat_one, Nat.zero_mul, Nat.one_mul, Int.reduceLT, Int.reduceLE, Int.le_refl, Int.zero_lt_one, Int.toNat_natCast, List.take_length, Int.cast_ofNat_Int, Int.reduceAdd, Int.reduceSub, Int.reduceBEq, Int.reduceBNe, ge_iff_le, gt_iff_lt, decide_true, decide_false, Int.lt_irrefl, Nat.zero_add, Nat.add_zero, h1, hne]
      rw [Nat.sub_zero]
      refine same_w m (by omega) _ _ (by simp; omega) _ ?_
      simp only [decide_true]
      simp (maxSteps := 4000000) only [EV, EVF, XV, cond_true, cond_false, Bool.false_eq_true, Bool.true_eq_false, eq_self, normsOf, heapOf, drawsOf, shpOf, Try.f6, ↓reduceIte, Nat.reduceAdd, Nat.reduceLT, Nat.reduceEqDiff, Nat.reduceLeDiff, Nat.succ_ne_zero, Nat.zero_ne_one, Nat.one_ne_zero, ne_eq, not_false_eq_true, true_and, and_true, Nat.reduceMul, Nat.reduceSub, Int.reduceToNat, Int.toNat_zero, Int.toNat_one, Nat.zero_mul, Nat.one_mul, Int.reduceLT, Int.reduceLE, Int.le_refl, Int.zero_lt_one, Int.toNat_natCast, List.take_length, Int.cast_ofNat_Int, Int.reduceAdd, Int.reduceSub, Int.reduceBEq, Int.reduceBNe, ge_iff_le, gt_iff_lt, decide_true, decide_false, Int.lt_irrefl, Nat.zero_add, Nat.add_zero]
    · have hne : ((((encL (l.take i)).length : Int) == k)) = false := by
        simp
        intro h
        exact hii (enc_inj hil hi0 (by omega))
      simp (maxSteps := 4000000) only [EV, EVF, XV, cond_true, cond_false, Bool.false_eq_true, Bool.true_eq_false, eq_self, normsOf, heapOf, drawsOf, shpOf, Try.f6, ↓reduceIte, Nat.reduceAdd, Nat.reduceLT, Nat.reduceEqDiff, Nat.reduceLeDiff, Nat.succ_ne_zero, Nat.zero_ne_one, Nat.one_ne_zero, ne_eq, not_false_eq_true, true_and, and_true, Nat.reduceMul, Nat.reduceSub, Int.reduceToNat, Int.toNat_zero, Int.toNat_one, Nat.zero_mul, Nat.one_mul, Int.reduceLT, Int.reduceLE, Int.le_refl, Int.zero_lt_one, Int.toNat_natCast, List.take_length, Int.cast_ofNat_Int, Int.reduceAdd, Int.reduceSub, Int.reduceBEq, Int.reduceBNe, ge_iff_le, gt_iff_lt, decide_true, decide_false, Int.lt_irrefl, Nat.zero_add, Nat.add_zero, h1, hne, w]
      exact ⟨i + 1, by show i + 1 ≤ i0; omega, by show l.length + 1 - (i + 1) < _; omega, rfl⟩
end Go.Ai

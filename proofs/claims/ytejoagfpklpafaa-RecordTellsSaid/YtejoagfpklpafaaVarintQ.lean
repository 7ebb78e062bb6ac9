/- varint and careenref01, walked. -/
import Derived.Test.YtejoagfpklpafaaVarintS
import Derived.Test.YtejoagfpklpafaaAiFacts
set_option linter.unusedVariables false
set_option linter.unusedSimpArgs false
set_option maxRecDepth 100000
set_option maxHeartbeats 4000000
namespace Go.Ai
open Go.Proofs
theorem rput_w (m : Nat) (hm : 1 ≤ m) (n : Int) (K : AV → Hp → Prop) (hK : ∀ H, K (putA n) H) : wpF C m 51 [.v (.int .i64 n)] [] K := by
  obtain ⟨m, rfl⟩ : ∃ j, m = j + 1 := ⟨m - 1, by omega⟩; simp only [wpF, bodyA, fn_51, C_P, ok_51, C_prim, primOf, true_and]; simp (maxSteps := 4000000) only [EV, EVF, XV, cond_true, cond_false, Bool.false_eq_true, Bool.true_eq_false, eq_self, normsOf, cutsOf, heapOf, quietOf, drawsOf, drawmOf, drawfOf, opnOf, coldOf, shutOf, iceOf, extOf, extOverlaps_eq, overB_eq, extCmp_eq, shpOf, Try.f51, ↓reduceIte, Nat.reduceAdd, Nat.reduceLT, Nat.reduceEqDiff, Nat.reduceLeDiff, Nat.succ_ne_zero, Nat.zero_ne_one, Nat.one_ne_zero, ne_eq, not_false_eq_true, true_and, and_true, Nat.reduceMul, Nat.reduceSub, Int.reduceToNat, Int.toNat_zero, Int.toNat_one, Nat.zero_mul, Nat.one_mul, Int.reduceLT, Int.reduceLE, Int.le_refl, Int.zero_lt_one, Int.toNat_natCast, List.take_length, Int.cast_ofNat_Int, Int.reduceAdd, Int.reduceSub, Int.reduceBEq, Int.reduceBNe, ge_iff_le, gt_iff_lt, decide_true, decide_false, Int.lt_irrefl, Nat.zero_add, Nat.add_zero]
  unfold putA at hK
  by_cases hn : 0 ≤ n ∧ n ≤ 9007199254740992
  case neg =>
    rw [if_neg hn] at hK
    repeat' ((first | refine IF_dec (fun h => ?_) (fun h => ?_) | refine IF_beq (fun h => ?_) (fun h => ?_) | refine IF_bne (fun h => ?_) (fun h => ?_) | refine IF_of (fun h => ?_) (fun h => ?_)) <;> (try (simp (maxSteps := 4000000) only [EV, EVF, XV, cond_true, cond_false, Bool.false_eq_true, Bool.true_eq_false, eq_self, normsOf, cutsOf, heapOf, quietOf, drawsOf, drawmOf, drawfOf, opnOf, coldOf, shutOf, iceOf, extOf, extOverlaps_eq, overB_eq, extCmp_eq, shpOf, Try.f51, ↓reduceIte, Nat.reduceAdd, Nat.reduceLT, Nat.reduceEqDiff, Nat.reduceLeDiff, Nat.succ_ne_zero, Nat.zero_ne_one, Nat.one_ne_zero, ne_eq, not_false_eq_true, true_and, and_true, Nat.reduceMul, Nat.reduceSub, Int.reduceToNat, Int.toNat_zero, Int.toNat_one, Nat.zero_mul, Nat.one_mul, Int.reduceLT, Int.reduceLE, Int.le_refl, Int.zero_lt_one, Int.toNat_natCast, List.take_length, Int.cast_ofNat_Int, Int.reduceAdd, Int.reduceSub, Int.reduceBEq, Int.reduceBNe, ge_iff_le, gt_iff_lt, decide_true, decide_false, Int.lt_irrefl, Nat.zero_add, Nat.add_zero])))
    · exact hK _
    · exact hK _
    · exfalso; omega
  have e1 : (n < 0) = False := by simp; omega
  have e2 : (9007199254740992 < n) = False := by simp; omega
  rw [if_pos hn] at hK
  simp (maxSteps := 4000000) only [EV, EVF, XV, cond_true, cond_false, Bool.false_eq_true, Bool.true_eq_false, eq_self, normsOf, cutsOf, heapOf, quietOf, drawsOf, drawmOf, drawfOf, opnOf, coldOf, shutOf, iceOf, extOf, extOverlaps_eq, overB_eq, extCmp_eq, shpOf, Try.f51, ↓reduceIte, Nat.reduceAdd, Nat.reduceLT, Nat.reduceEqDiff, Nat.reduceLeDiff, Nat.succ_ne_zero, Nat.zero_ne_one, Nat.one_ne_zero, ne_eq, not_false_eq_true, true_and, and_true, Nat.reduceMul, Nat.reduceSub, Int.reduceToNat, Int.toNat_zero, Int.toNat_one, Nat.zero_mul, Nat.one_mul, Int.reduceLT, Int.reduceLE, Int.le_refl, Int.zero_lt_one, Int.toNat_natCast, List.take_length, Int.cast_ofNat_Int, Int.reduceAdd, Int.reduceSub, Int.reduceBEq, Int.reduceBNe, ge_iff_le, gt_iff_lt, decide_true, decide_false, Int.lt_irrefl, Nat.zero_add, Nat.add_zero, e1, e2, decide_false]
  obtain ⟨n, rfl⟩ : ∃ k : Nat, n = k := ⟨n.toNat, by omega⟩
  rw [Int.toNat_natCast] at hK
  refine loop_at (fun p : Nat × Nat × List UInt8 => ⟨[(0, .v (.int .i64 p.1)), (4, .v (.string (mk p.2.2)))], []⟩) (fun p => p.2.2 ++ putF (p.2.1 + 1) p.1 = putF 8 n ∧ p.1 < 128 ^ (p.2.1 + 1) ∧ p.2.1 ≤ 7 ∧ p.2.2.length + p.2.1 = 7 ∧ p.1 ≤ 9007199254740992) (fun p => p.1) (n, 7, []) ⟨rfl, by simp; omega, by simp, rfl, by omega⟩ rfl ?_
  rintro ⟨n', k, l⟩ ⟨h1, h2, h3, h4, h5⟩
  simp only at h1 h2 h3 h4 h5
  by_cases hb : 128 ≤ n'
  · have e1 : IntKind.u8.wrap (IntKind.i64.wrap (((n' : Int).tmod 128) + 128)) = ((UInt8.ofNat (n' % 128 + 128)).toNat : Int) := by
      rw [Int.tmod_eq_emod_of_nonneg (by omega), wrap64 (by omega) (by omega), wrapU8 (by omega) (by omega)]
      simp
      omega
    have e2 : putF (k + 1) n' = UInt8.ofNat (n' % 128 + 128) :: putF k (n' / 128) := by rw [putF, if_neg (by omega)]
    have e3 : (128 ≤ (n' : Int)) = True := by simp; omega
    have h128 : ((128 : Int) = 0) = False := by simp
    simp (maxSteps := 4000000) only [EV, EVF, XV, cond_true, cond_false, Bool.false_eq_true, Bool.true_eq_false, eq_self, normsOf, cutsOf, heapOf, quietOf, drawsOf, drawmOf, drawfOf, opnOf, coldOf, shutOf, iceOf, extOf, extOverlaps_eq, overB_eq, extCmp_eq, shpOf, Try.f51, ↓reduceIte, Nat.reduceAdd, Nat.reduceLT, Nat.reduceEqDiff, Nat.reduceLeDiff, Nat.succ_ne_zero, Nat.zero_ne_one, Nat.one_ne_zero, ne_eq, not_false_eq_true, true_and, and_true, Nat.reduceMul, Nat.reduceSub, Int.reduceToNat, Int.toNat_zero, Int.toNat_one, Nat.zero_mul, Nat.one_mul, Int.reduceLT, Int.reduceLE, Int.le_refl, Int.zero_lt_one, Int.toNat_natCast, List.take_length, Int.cast_ofNat_Int, Int.reduceAdd, Int.reduceSub, Int.reduceBEq, Int.reduceBNe, ge_iff_le, gt_iff_lt, decide_true, decide_false, Int.lt_irrefl, Nat.zero_add, Nat.add_zero, e3, decide_true, h128]
    refine ⟨mk [UInt8.ofNat (n' % 128 + 128)], by rw [e1]; rfl, by rw [mk_size]; simp; omega, ?_⟩
    cases k with
    | zero => simp at h2; omega
    | succ k =>
      refine ⟨(n' / 128, k, l ++ [UInt8.ofNat (n' % 128 + 128)]), ⟨by rw [← h1, e2]; simp, ?_, by show k ≤ 7; omega, by simp; omega, by show n' / 128 ≤ _; omega⟩, by show n' / 128 < n'; omega, ?_⟩
      · show n' / 128 < 128 ^ (k + 1)
        rw [Nat.pow_succ 128 (k + 1)] at h2
        omega
      · rw [Int.tdiv_eq_ediv_of_nonneg (by omega), wrap64 (by omega) (by omega), mk_append]
        rfl
  · have e1 : IntKind.u8.wrap (n' : Int) = ((UInt8.ofNat n').toNat : Int) := by
      rw [wrapU8 (by omega) (by omega)]
      simp
      omega
    have e2 : putF (k + 1) n' = [UInt8.ofNat n'] := by rw [putF, if_pos (by omega)]
    have e3 : (128 ≤ (n' : Int)) = False := by simp; omega
    simp (maxSteps := 4000000) only [EV, EVF, XV, cond_true, cond_false, Bool.false_eq_true, Bool.true_eq_false, eq_self, normsOf, cutsOf, heapOf, quietOf, drawsOf, drawmOf, drawfOf, opnOf, coldOf, shutOf, iceOf, extOf, extOverlaps_eq, overB_eq, extCmp_eq, shpOf, Try.f51, ↓reduceIte, Nat.reduceAdd, Nat.reduceLT, Nat.reduceEqDiff, Nat.reduceLeDiff, Nat.succ_ne_zero, Nat.zero_ne_one, Nat.one_ne_zero, ne_eq, not_false_eq_true, true_and, and_true, Nat.reduceMul, Nat.reduceSub, Int.reduceToNat, Int.toNat_zero, Int.toNat_one, Nat.zero_mul, Nat.one_mul, Int.reduceLT, Int.reduceLE, Int.le_refl, Int.zero_lt_one, Int.toNat_natCast, List.take_length, Int.cast_ofNat_Int, Int.reduceAdd, Int.reduceSub, Int.reduceBEq, Int.reduceBNe, ge_iff_le, gt_iff_lt, decide_true, decide_false, Int.lt_irrefl, Nat.zero_add, Nat.add_zero, e3, decide_false]
    refine ⟨mk [UInt8.ofNat n'], by rw [e1]; rfl, by rw [mk_size]; simp; omega, ?_⟩
    rw [mk_append, ← e2, h1]
    exact hK _
end Go.Ai

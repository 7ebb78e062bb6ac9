/- careenlaw12.awake, walked. -/
import Derived.Test.YtmebpmghmghhkaaTab6
import Derived.Test.YtmebpmghmghhkaaTab8
set_option linter.unusedVariables false
set_option linter.unusedSimpArgs false
set_option maxRecDepth 100000
set_option maxHeartbeats 4000000
namespace Go.Ai
open Go.Proofs
def opPut (key value : List UInt8) : Opr := ⟨2, key, value, 0, [], 0, []⟩
def opCas (key value : List UInt8) (rev : Int) : Opr := ⟨4, key, value, rev, [], 0, []⟩
def opGet (key : List UInt8) : Opr := ⟨1, key, [], 0, [], 0, []⟩
def opDel (key : List UInt8) : Opr := ⟨3, key, [], 0, [], 0, []⟩
def opScan (key : List UInt8) : Opr := ⟨6, key, [], 0, [], 0, []⟩
def opMark (key : List UInt8) (life : Int) (note : List UInt8) : Opr := ⟨5, key, [], 0, [], life, note⟩
def tA : List Rec := [⟨[97], [120], 1, 0, [], []⟩]
def tB : List Rec := [⟨[97], [121], 2, 0, [], []⟩]
theorem awake12_w (m : Nat) (hm : 13 ≤ m) (K : AV → Hp → Prop) (hK : ∀ H, K (.v (.bool true)) H) : wpF C m 11 [] [] K := by
  have okA : okT tA := ⟨by decide, by decide⟩
  have okB : okT tB := ⟨by decide, by decide⟩
  have d1 := fun (m : Nat) (hm : 12 ≤ m) K => do_w m hm [] ⟨by simp, by simp⟩ (opPut [97] [120]) K
  have d2 := fun (m : Nat) (hm : 12 ≤ m) K => do_w m hm tA okA (opCas [97] [121] 1) K
  have d3 := fun (m : Nat) (hm : 12 ≤ m) K => do_w m hm tB okB (opCas [97] [122] 1) K
  have d4 := fun (m : Nat) (hm : 12 ≤ m) K => do_w m hm tB okB (opScan []) K
  have d5 := fun (m : Nat) (hm : 12 ≤ m) K => do_w m hm tB okB (opGet [98]) K
  have c1 := fun (m : Nat) (hm : 2 ≤ m) K => check_w m hm 1 (opMark [97] 0 []) K
  have c2 := fun (m : Nat) (hm : 2 ≤ m) K => check_w m hm 2 ⟨0, [], [], 0, [], 0, []⟩ K
  have w1 := fun (m : Nat) (hm : 3 ≤ m) K => writes_w m hm (opCas [] [] 0) K
  have r1 := fun (m : Nat) (hm : 5 ≤ m) K => rightt_w m hm tB okB K
  have r2 := fun (m : Nat) (hm : 5 ≤ m) K => rightt_w m hm [rec0] ⟨by decide, by decide⟩ K
  have s1 := fun (m : Nat) (hm : 4 ≤ m) K => same12_w m hm tB tB okB K
  have s2 := fun (m : Nat) (hm : 4 ≤ m) K => same12_w m hm tB tA okB K
  rw [show (doS [] (opPut [97] [120])) = ⟨tA, ⟨0, 1, [], []⟩⟩ by decide +kernel] at d1
  rw [show (doS tA (opCas [97] [121] 1)) = ⟨tB, ⟨0, 2, [], []⟩⟩ by decide +kernel] at d2
  rw [show (doS tB (opCas [97] [122] 1)) = ⟨tB, ⟨71, 2, [], []⟩⟩ by decide +kernel] at d3
  rw [show (doS tB (opScan [])) = ⟨tB, ⟨0, 0, [], [[97]]⟩⟩ by decide +kernel] at d4
  rw [show (doS tB (opGet [98])) = ⟨tB, ⟨70, 0, [], []⟩⟩ by decide +kernel] at d5
  rw [show checkS 1 (opMark [97] 0 []) = 22 by decide +kernel] at c1
  rw [show checkS 2 ⟨0, [], [], 0, [], 0, []⟩ = 1 by decide +kernel] at c2
  rw [show writesS (opCas [] [] 0) = true by decide +kernel] at w1
  rw [show tabR tB = true by decide +kernel] at r1
  rw [show tabR [rec0] = false by decide +kernel] at r2
  rw [decide_eq_true rfl] at s1
  rw [decide_eq_false (by decide)] at s2
  unfold DoR.av at d1 d2 d3 d4 d5
  simp only [opPut, opCas, opScan, opGet, opMark, tA, tB, rec0, opv, rpv, rcv, tv, List.map_cons, List.map_nil] at d1 d2 d3 d4 d5 c1 c2 w1 r1 r2 s1 s2
  obtain ⟨f, hf⟩ : ∃ f, Try.f11 = f := ⟨_, rfl⟩
  have hfn : Try.prog.funcs[11]? = some f := by rw [← hf]; exact fn_11
  have hok : okF C 11 f = true := by rw [← hf]; exact ok_11
  simp only [Try.f11, List.append_eq, List.cons_append, List.nil_append] at hf
  obtain ⟨m, rfl⟩ : ∃ j, m = j + 1 := ⟨m - 1, by omega⟩
  simp only [wpF, bodyA, hfn, C_P, hok, C_prim, primOf, true_and]
  subst hf
  simp (maxSteps := 4000000) only [EV, EVF, XV, cond_true, cond_false, Bool.false_eq_true, Bool.true_eq_false, eq_self, normsOf, cutsOf, heapOf, quietOf, drawsOf, drawmOf, drawfOf, opnOf, coldOf, shutOf, iceOf, extOf, extOverlaps_eq, overB_eq, extCmp_eq, shpOf, ↓reduceIte, Nat.reduceAdd, Nat.reduceLT, Nat.reduceEqDiff, Nat.reduceLeDiff, Nat.succ_ne_zero, Nat.zero_ne_one, Nat.one_ne_zero, ne_eq, not_false_eq_true, true_and, and_true, Nat.reduceMul, Nat.reduceSub, Int.reduceToNat, Int.toNat_zero, Int.toNat_one, Nat.zero_mul, Nat.one_mul, Int.reduceLT, Int.reduceLE, Int.le_refl, Int.zero_lt_one, Int.toNat_natCast, List.take_length, Int.cast_ofNat_Int, Int.reduceAdd, Int.reduceSub, Int.reduceBEq, Int.reduceBNe, ge_iff_le, gt_iff_lt, decide_true, decide_false, Int.lt_irrefl, Nat.zero_add, Nat.add_zero]
  refine d1 m (by omega) _ fun H => ?_
  simp (maxSteps := 4000000) only [EV, EVF, XV, cond_true, cond_false, Bool.false_eq_true, Bool.true_eq_false, eq_self, normsOf, cutsOf, heapOf, quietOf, drawsOf, drawmOf, drawfOf, opnOf, coldOf, shutOf, iceOf, extOf, extOverlaps_eq, overB_eq, extCmp_eq, shpOf, ↓reduceIte, Nat.reduceAdd, Nat.reduceLT, Nat.reduceEqDiff, Nat.reduceLeDiff, Nat.succ_ne_zero, Nat.zero_ne_one, Nat.one_ne_zero, ne_eq, not_false_eq_true, true_and, and_true, Nat.reduceMul, Nat.reduceSub, Int.reduceToNat, Int.toNat_zero, Int.toNat_one, Nat.zero_mul, Nat.one_mul, Int.reduceLT, Int.reduceLE, Int.le_refl, Int.zero_lt_one, Int.toNat_natCast, List.take_length, Int.cast_ofNat_Int, Int.reduceAdd, Int.reduceSub, Int.reduceBEq, Int.reduceBNe, ge_iff_le, gt_iff_lt, decide_true, decide_false, Int.lt_irrefl, Nat.zero_add, Nat.add_zero]
  refine d2 m (by omega) _ fun H => ?_
  simp (maxSteps := 4000000) only [EV, EVF, XV, cond_true, cond_false, Bool.false_eq_true, Bool.true_eq_false, eq_self, normsOf, cutsOf, heapOf, quietOf, drawsOf, drawmOf, drawfOf, opnOf, coldOf, shutOf, iceOf, extOf, extOverlaps_eq, overB_eq, extCmp_eq, shpOf, ↓reduceIte, Nat.reduceAdd, Nat.reduceLT, Nat.reduceEqDiff, Nat.reduceLeDiff, Nat.succ_ne_zero, Nat.zero_ne_one, Nat.one_ne_zero, ne_eq, not_false_eq_true, true_and, and_true, Nat.reduceMul, Nat.reduceSub, Int.reduceToNat, Int.toNat_zero, Int.toNat_one, Nat.zero_mul, Nat.one_mul, Int.reduceLT, Int.reduceLE, Int.le_refl, Int.zero_lt_one, Int.toNat_natCast, List.take_length, Int.cast_ofNat_Int, Int.reduceAdd, Int.reduceSub, Int.reduceBEq, Int.reduceBNe, ge_iff_le, gt_iff_lt, decide_true, decide_false, Int.lt_irrefl, Nat.zero_add, Nat.add_zero]
  refine d3 m (by omega) _ fun H => ?_
  simp (maxSteps := 4000000) only [EV, EVF, XV, cond_true, cond_false, Bool.false_eq_true, Bool.true_eq_false, eq_self, normsOf, cutsOf, heapOf, quietOf, drawsOf, drawmOf, drawfOf, opnOf, coldOf, shutOf, iceOf, extOf, extOverlaps_eq, overB_eq, extCmp_eq, shpOf, ↓reduceIte, Nat.reduceAdd, Nat.reduceLT, Nat.reduceEqDiff, Nat.reduceLeDiff, Nat.succ_ne_zero, Nat.zero_ne_one, Nat.one_ne_zero, ne_eq, not_false_eq_true, true_and, and_true, Nat.reduceMul, Nat.reduceSub, Int.reduceToNat, Int.toNat_zero, Int.toNat_one, Nat.zero_mul, Nat.one_mul, Int.reduceLT, Int.reduceLE, Int.le_refl, Int.zero_lt_one, Int.toNat_natCast, List.take_length, Int.cast_ofNat_Int, Int.reduceAdd, Int.reduceSub, Int.reduceBEq, Int.reduceBNe, ge_iff_le, gt_iff_lt, decide_true, decide_false, Int.lt_irrefl, Nat.zero_add, Nat.add_zero]
  refine d4 m (by omega) _ fun H => ?_
  simp (maxSteps := 4000000) only [EV, EVF, XV, cond_true, cond_false, Bool.false_eq_true, Bool.true_eq_false, eq_self, normsOf, cutsOf, heapOf, quietOf, drawsOf, drawmOf, drawfOf, opnOf, coldOf, shutOf, iceOf, extOf, extOverlaps_eq, overB_eq, extCmp_eq, shpOf, ↓reduceIte, Nat.reduceAdd, Nat.reduceLT, Nat.reduceEqDiff, Nat.reduceLeDiff, Nat.succ_ne_zero, Nat.zero_ne_one, Nat.one_ne_zero, ne_eq, not_false_eq_true, true_and, and_true, Nat.reduceMul, Nat.reduceSub, Int.reduceToNat, Int.toNat_zero, Int.toNat_one, Nat.zero_mul, Nat.one_mul, Int.reduceLT, Int.reduceLE, Int.le_refl, Int.zero_lt_one, Int.toNat_natCast, List.take_length, Int.cast_ofNat_Int, Int.reduceAdd, Int.reduceSub, Int.reduceBEq, Int.reduceBNe, ge_iff_le, gt_iff_lt, decide_true, decide_false, Int.lt_irrefl, Nat.zero_add, Nat.add_zero]
  refine d5 m (by omega) _ fun H => ?_
  simp (maxSteps := 4000000) only [EV, EVF, XV, cond_true, cond_false, Bool.false_eq_true, Bool.true_eq_false, eq_self, normsOf, cutsOf, heapOf, quietOf, drawsOf, drawmOf, drawfOf, opnOf, coldOf, shutOf, iceOf, extOf, extOverlaps_eq, overB_eq, extCmp_eq, shpOf, ↓reduceIte, Nat.reduceAdd, Nat.reduceLT, Nat.reduceEqDiff, Nat.reduceLeDiff, Nat.succ_ne_zero, Nat.zero_ne_one, Nat.one_ne_zero, ne_eq, not_false_eq_true, true_and, and_true, Nat.reduceMul, Nat.reduceSub, Int.reduceToNat, Int.toNat_zero, Int.toNat_one, Nat.zero_mul, Nat.one_mul, Int.reduceLT, Int.reduceLE, Int.le_refl, Int.zero_lt_one, Int.toNat_natCast, List.take_length, Int.cast_ofNat_Int, Int.reduceAdd, Int.reduceSub, Int.reduceBEq, Int.reduceBNe, ge_iff_le, gt_iff_lt, decide_true, decide_false, Int.lt_irrefl, Nat.zero_add, Nat.add_zero]
  refine c1 m (by omega) _ fun H => ?_
  simp (maxSteps := 4000000) only [EV, EVF, XV, cond_true, cond_false, Bool.false_eq_true, Bool.true_eq_false, eq_self, normsOf, cutsOf, heapOf, quietOf, drawsOf, drawmOf, drawfOf, opnOf, coldOf, shutOf, iceOf, extOf, extOverlaps_eq, overB_eq, extCmp_eq, shpOf, ↓reduceIte, Nat.reduceAdd, Nat.reduceLT, Nat.reduceEqDiff, Nat.reduceLeDiff, Nat.succ_ne_zero, Nat.zero_ne_one, Nat.one_ne_zero, ne_eq, not_false_eq_true, true_and, and_true, Nat.reduceMul, Nat.reduceSub, Int.reduceToNat, Int.toNat_zero, Int.toNat_one, Nat.zero_mul, Nat.one_mul, Int.reduceLT, Int.reduceLE, Int.le_refl, Int.zero_lt_one, Int.toNat_natCast, List.take_length, Int.cast_ofNat_Int, Int.reduceAdd, Int.reduceSub, Int.reduceBEq, Int.reduceBNe, ge_iff_le, gt_iff_lt, decide_true, decide_false, Int.lt_irrefl, Nat.zero_add, Nat.add_zero]
  refine c2 m (by omega) _ fun H => ?_
  simp (maxSteps := 4000000) only [EV, EVF, XV, cond_true, cond_false, Bool.false_eq_true, Bool.true_eq_false, eq_self, normsOf, cutsOf, heapOf, quietOf, drawsOf, drawmOf, drawfOf, opnOf, coldOf, shutOf, iceOf, extOf, extOverlaps_eq, overB_eq, extCmp_eq, shpOf, ↓reduceIte, Nat.reduceAdd, Nat.reduceLT, Nat.reduceEqDiff, Nat.reduceLeDiff, Nat.succ_ne_zero, Nat.zero_ne_one, Nat.one_ne_zero, ne_eq, not_false_eq_true, true_and, and_true, Nat.reduceMul, Nat.reduceSub, Int.reduceToNat, Int.toNat_zero, Int.toNat_one, Nat.zero_mul, Nat.one_mul, Int.reduceLT, Int.reduceLE, Int.le_refl, Int.zero_lt_one, Int.toNat_natCast, List.take_length, Int.cast_ofNat_Int, Int.reduceAdd, Int.reduceSub, Int.reduceBEq, Int.reduceBNe, ge_iff_le, gt_iff_lt, decide_true, decide_false, Int.lt_irrefl, Nat.zero_add, Nat.add_zero]
  refine w1 m (by omega) _ fun H => ?_
  simp (maxSteps := 4000000) only [EV, EVF, XV, cond_true, cond_false, Bool.false_eq_true, Bool.true_eq_false, eq_self, normsOf, cutsOf, heapOf, quietOf, drawsOf, drawmOf, drawfOf, opnOf, coldOf, shutOf, iceOf, extOf, extOverlaps_eq, overB_eq, extCmp_eq, shpOf, ↓reduceIte, Nat.reduceAdd, Nat.reduceLT, Nat.reduceEqDiff, Nat.reduceLeDiff, Nat.succ_ne_zero, Nat.zero_ne_one, Nat.one_ne_zero, ne_eq, not_false_eq_true, true_and, and_true, Nat.reduceMul, Nat.reduceSub, Int.reduceToNat, Int.toNat_zero, Int.toNat_one, Nat.zero_mul, Nat.one_mul, Int.reduceLT, Int.reduceLE, Int.le_refl, Int.zero_lt_one, Int.toNat_natCast, List.take_length, Int.cast_ofNat_Int, Int.reduceAdd, Int.reduceSub, Int.reduceBEq, Int.reduceBNe, ge_iff_le, gt_iff_lt, decide_true, decide_false, Int.lt_irrefl, Nat.zero_add, Nat.add_zero]
  refine r1 m (by omega) _ fun H => ?_
  simp (maxSteps := 4000000) only [EV, EVF, XV, cond_true, cond_false, Bool.false_eq_true, Bool.true_eq_false, eq_self, normsOf, cutsOf, heapOf, quietOf, drawsOf, drawmOf, drawfOf, opnOf, coldOf, shutOf, iceOf, extOf, extOverlaps_eq, overB_eq, extCmp_eq, shpOf, ↓reduceIte, Nat.reduceAdd, Nat.reduceLT, Nat.reduceEqDiff, Nat.reduceLeDiff, Nat.succ_ne_zero, Nat.zero_ne_one, Nat.one_ne_zero, ne_eq, not_false_eq_true, true_and, and_true, Nat.reduceMul, Nat.reduceSub, Int.reduceToNat, Int.toNat_zero, Int.toNat_one, Nat.zero_mul, Nat.one_mul, Int.reduceLT, Int.reduceLE, Int.le_refl, Int.zero_lt_one, Int.toNat_natCast, List.take_length, Int.cast_ofNat_Int, Int.reduceAdd, Int.reduceSub, Int.reduceBEq, Int.reduceBNe, ge_iff_le, gt_iff_lt, decide_true, decide_false, Int.lt_irrefl, Nat.zero_add, Nat.add_zero]
  refine r2 m (by omega) _ fun H => ?_
  simp (maxSteps := 4000000) only [EV, EVF, XV, cond_true, cond_false, Bool.false_eq_true, Bool.true_eq_false, eq_self, normsOf, cutsOf, heapOf, quietOf, drawsOf, drawmOf, drawfOf, opnOf, coldOf, shutOf, iceOf, extOf, extOverlaps_eq, overB_eq, extCmp_eq, shpOf, ↓reduceIte, Nat.reduceAdd, Nat.reduceLT, Nat.reduceEqDiff, Nat.reduceLeDiff, Nat.succ_ne_zero, Nat.zero_ne_one, Nat.one_ne_zero, ne_eq, not_false_eq_true, true_and, and_true, Nat.reduceMul, Nat.reduceSub, Int.reduceToNat, Int.toNat_zero, Int.toNat_one, Nat.zero_mul, Nat.one_mul, Int.reduceLT, Int.reduceLE, Int.le_refl, Int.zero_lt_one, Int.toNat_natCast, List.take_length, Int.cast_ofNat_Int, Int.reduceAdd, Int.reduceSub, Int.reduceBEq, Int.reduceBNe, ge_iff_le, gt_iff_lt, decide_true, decide_false, Int.lt_irrefl, Nat.zero_add, Nat.add_zero, Bool.not_false]
  refine s1 m (by omega) _ fun H => ?_
  simp (maxSteps := 4000000) only [EV, EVF, XV, cond_true, cond_false, Bool.false_eq_true, Bool.true_eq_false, eq_self, normsOf, cutsOf, heapOf, quietOf, drawsOf, drawmOf, drawfOf, opnOf, coldOf, shutOf, iceOf, extOf, extOverlaps_eq, overB_eq, extCmp_eq, shpOf, ↓reduceIte, Nat.reduceAdd, Nat.reduceLT, Nat.reduceEqDiff, Nat.reduceLeDiff, Nat.succ_ne_zero, Nat.zero_ne_one, Nat.one_ne_zero, ne_eq, not_false_eq_true, true_and, and_true, Nat.reduceMul, Nat.reduceSub, Int.reduceToNat, Int.toNat_zero, Int.toNat_one, Nat.zero_mul, Nat.one_mul, Int.reduceLT, Int.reduceLE, Int.le_refl, Int.zero_lt_one, Int.toNat_natCast, List.take_length, Int.cast_ofNat_Int, Int.reduceAdd, Int.reduceSub, Int.reduceBEq, Int.reduceBNe, ge_iff_le, gt_iff_lt, decide_true, decide_false, Int.lt_irrefl, Nat.zero_add, Nat.add_zero]
  refine s2 m (by omega) _ fun H => ?_
  simp (maxSteps := 4000000) only [EV, EVF, XV, cond_true, cond_false, Bool.false_eq_true, Bool.true_eq_false, eq_self, normsOf, cutsOf, heapOf, quietOf, drawsOf, drawmOf, drawfOf, opnOf, coldOf, shutOf, iceOf, extOf, extOverlaps_eq, overB_eq, extCmp_eq, shpOf, ↓reduceIte, Nat.reduceAdd, Nat.reduceLT, Nat.reduceEqDiff, Nat.reduceLeDiff, Nat.succ_ne_zero, Nat.zero_ne_one, Nat.one_ne_zero, ne_eq, not_false_eq_true, true_and, and_true, Nat.reduceMul, Nat.reduceSub, Int.reduceToNat, Int.toNat_zero, Int.toNat_one, Nat.zero_mul, Nat.one_mul, Int.reduceLT, Int.reduceLE, Int.le_refl, Int.zero_lt_one, Int.toNat_natCast, List.take_length, Int.cast_ofNat_Int, Int.reduceAdd, Int.reduceSub, Int.reduceBEq, Int.reduceBNe, ge_iff_le, gt_iff_lt, decide_true, decide_false, Int.lt_irrefl, Nat.zero_add, Nat.add_zero, Bool.not_false]
  exact hK _
end Go.Ai

/- careenlaw13: Answer, Cache, walked. -/
import Derived.Test.YtinklhniabhaiaaRep9
import Derived.Test.YtinklhniabhaiaaRepFit
set_option linter.unusedVariables false
set_option linter.unusedSimpArgs false
set_option maxRecDepth 100000
set_option maxHeartbeats 4000000
namespace Go.Ai
open Go.Proofs
/-- A reply that may be, of raw numbers. -/
def answerS (w : R3) : Rep := ⟨if pickN w.a 4 = 2 then 70 else if pickN w.a 4 = 3 then 71 else 0, pickN w.b 300,
  if pickN w.c 3 = 1 then [120] else if pickN w.c 3 = 2 then [121, 121] else [],
  if pickN w.a 5 = 4 then [[97], [98, 111, 98]].take (pickN w.c 3).toNat else []⟩
theorem answer_may {w : R3} (hw : r3k w) : MayP (answerS w) := by
  obtain ⟨⟨a0, a1⟩, ⟨b0, b1⟩, ⟨c0, c1⟩⟩ := hw
  have hb := pickN_bd b0 b1 (show (0:Int) < 300 by decide)
  have hk : ∀ k ∈ (answerS w).keys, k = [97] ∨ k = [98, 111, 98] := fun k hk => by
    unfold answerS at hk
    simp only at hk
    split at hk
    · have := List.mem_of_mem_take hk
      simpa using this
    · simp at hk
  have hkl : (answerS w).keys.length ≤ 2 := by
    unfold answerS
    simp only
    split
    · rw [List.length_take]
      simp
      omega
    · simp
  refine ⟨?_, ?_, ?_, ?_, ?_, by omega, fun k hk2 => ?_⟩
  · exact hb.1
  · have := hb.2
    unfold answerS
    simp only
    omega
  · unfold answerS
    simp only
    split
    · simp
    · split <;> simp
  · unfold answerS
    simp only
    split
    · simp
    · split <;> simp
  · unfold answerS
    simp only
    split
    · simp
    · split <;> simp
  · rcases hk k hk2 with rfl | rfl <;> simp
def errF (n : Int) : Int := if n = 2 then 70 else if n = 3 then 71 else 0
def strF (n : Int) : List UInt8 := if n = 1 then [120] else if n = 2 then [121, 121] else []
theorem err_at {n : Int} (h0 : 0 ≤ n) (h1 : n < 4) : ([[.v (.int .i64 0)], [.v (.int .i64 0)], [.v (.int .i64 70)], [.v (.int .i64 71)]] : List (List AV))[n.toNat]? = some [.v (.int .i64 (errF n))] := by
  have : n = 0 ∨ n = 1 ∨ n = 2 ∨ n = 3 := by omega
  rcases this with rfl | rfl | rfl | rfl <;> rfl
theorem str_at {n : Int} (h0 : 0 ≤ n) (h1 : n < 3) : ([[.v (.string (mk []))], [.v (.string (mk [120]))], [.v (.string (mk [121, 121]))]] : List (List AV))[n.toNat]? = some [.v (.string (mk (strF n)))] := by
  have : n = 0 ∨ n = 1 ∨ n = 2 := by omega
  rcases this with rfl | rfl | rfl <;> rfl
theorem answer_w (m : Nat) (hm : 2 ≤ m) (w : R3) (hw : r3k w) (K : AV → Hp → Prop) (hK : ∀ H, K (.agg (repv (answerS w))) H) : wpF C m 10 [.agg (r3w w)] [] K := by
  obtain ⟨⟨a0, a1⟩, ⟨b0, b1⟩, ⟨c0, c1⟩⟩ := hw
  have p1 := pickN_bd a0 a1 (show (0:Int) < 4 by decide)
  have p4 := pickN_bd c0 c1 (show (0:Int) < 3 by decide)
  have e1 : (0 ≤ pickN w.a 4) = True := eq_true p1.1
  have e2 : (pickN w.a 4 < 4) = True := eq_true p1.2
  have e3 := err_at p1.1 p1.2
  have e4 : (0 ≤ pickN w.c 3) = True := eq_true p4.1
  have e5 : (pickN w.c 3 < 3) = True := eq_true p4.2
  have e6 := str_at p4.1 p4.2
  have hK2 : ∀ H, K (.agg [.v (.int .i64 (errF (pickN w.a 4))), .v (.int .i64 (pickN w.b 300)), .v (.string (mk (strF (pickN w.c 3)))), .lst 1 ((answerS w).keys.map tv)]) H := hK
  unfold r3w
  obtain ⟨m, rfl⟩ : ∃ j, m = j + 1 := ⟨m - 1, by omega⟩; simp only [wpF, bodyA, fn_10, C_P, ok_10, C_prim, primOf, true_and]; simp (maxSteps := 4000000) only [EV, EVF, XV, cond_true, cond_false, Bool.false_eq_true, Bool.true_eq_false, eq_self, normsOf, cutsOf, heapOf, quietOf, drawsOf, drawmOf, drawfOf, opnOf, coldOf, shutOf, iceOf, extOf, extOverlaps_eq, overB_eq, extCmp_eq, shpOf, Try.f10, ↓reduceIte, Nat.reduceAdd, Nat.reduceLT, Nat.reduceEqDiff, Nat.reduceLeDiff, Nat.succ_ne_zero, Nat.zero_ne_one, Nat.one_ne_zero, ne_eq, not_false_eq_true, true_and, and_true, Nat.reduceMul, Nat.reduceSub, Int.reduceToNat, Int.toNat_zero, Int.toNat_one, Nat.zero_mul, Nat.one_mul, Int.reduceLT, Int.reduceLE, Int.le_refl, Int.zero_lt_one, Int.toNat_natCast, List.take_length, Int.cast_ofNat_Int, Int.reduceAdd, Int.reduceSub, Int.reduceBEq, Int.reduceBNe, ge_iff_le, gt_iff_lt, decide_true, decide_false, Int.lt_irrefl, Nat.zero_add, Nat.add_zero]
  refine cut_at (fun _ : Unit => ⟨[(1, .ptr 0 0), (2, .ptr 1 0), (3, .ptr 2 0)], [some (.var 23 [.v (.int .i64 w.a), .v (.int .i64 w.b), .v (.int .i64 w.c)]), some (.var 31 [.v (.int .i64 0), .v (.int .i64 0), .v (.string (mk [])), .v (.slice none 0 0)]), some (.var 31 [.v (.int .i64 (errF (pickN w.a 4))), .v (.int .i64 (pickN w.b 300)), .v (.string (mk (strF (pickN w.c 3)))), .v (.slice none 0 0)])]⟩) (fun _ => True) ?_ ?_
  · simp (maxSteps := 4000000) only [EV, EVF, XV, cond_true, cond_false, Bool.false_eq_true, Bool.true_eq_false, eq_self, normsOf, cutsOf, heapOf, quietOf, drawsOf, drawmOf, drawfOf, opnOf, coldOf, shutOf, iceOf, extOf, extOverlaps_eq, overB_eq, extCmp_eq, shpOf, Try.f10, ↓reduceIte, Nat.reduceAdd, Nat.reduceLT, Nat.reduceEqDiff, Nat.reduceLeDiff, Nat.succ_ne_zero, Nat.zero_ne_one, Nat.one_ne_zero, ne_eq, not_false_eq_true, true_and, and_true, Nat.reduceMul, Nat.reduceSub, Int.reduceToNat, Int.toNat_zero, Int.toNat_one, Nat.zero_mul, Nat.one_mul, Int.reduceLT, Int.reduceLE, Int.le_refl, Int.zero_lt_one, Int.toNat_natCast, List.take_length, Int.cast_ofNat_Int, Int.reduceAdd, Int.reduceSub, Int.reduceBEq, Int.reduceBNe, ge_iff_le, gt_iff_lt, decide_true, decide_false, Int.lt_irrefl, Nat.zero_add, Nat.add_zero]
    repeat' (first | (refine pick13_w m (by omega) _ _ (by omega) _ ?_; simp (maxSteps := 4000000) only [EV, EVF, XV, cond_true, cond_false, Bool.false_eq_true, Bool.true_eq_false, eq_self, normsOf, cutsOf, heapOf, quietOf, drawsOf, drawmOf, drawfOf, opnOf, coldOf, shutOf, iceOf, extOf, extOverlaps_eq, overB_eq, extCmp_eq, shpOf, Try.f10, ↓reduceIte, Nat.reduceAdd, Nat.reduceLT, Nat.reduceEqDiff, Nat.reduceLeDiff, Nat.succ_ne_zero, Nat.zero_ne_one, Nat.one_ne_zero, ne_eq, not_false_eq_true, true_and, and_true, Nat.reduceMul, Nat.reduceSub, Int.reduceToNat, Int.toNat_zero, Int.toNat_one, Nat.zero_mul, Nat.one_mul, Int.reduceLT, Int.reduceLE, Int.le_refl, Int.zero_lt_one, Int.toNat_natCast, List.take_length, Int.cast_ofNat_Int, Int.reduceAdd, Int.reduceSub, Int.reduceBEq, Int.reduceBNe, ge_iff_le, gt_iff_lt, decide_true, decide_false, Int.lt_irrefl, Nat.zero_add, Nat.add_zero, e1, e2, e3, e4, e5, e6]) | apply And.intro)
    all_goals (first | exact ⟨(), trivial⟩ | exact ⟨(), rfl⟩)
  rintro - -
  simp (maxSteps := 4000000) only [EV, EVF, XV, cond_true, cond_false, Bool.false_eq_true, Bool.true_eq_false, eq_self, normsOf, cutsOf, heapOf, quietOf, drawsOf, drawmOf, drawfOf, opnOf, coldOf, shutOf, iceOf, extOf, extOverlaps_eq, overB_eq, extCmp_eq, shpOf, Try.f10, ↓reduceIte, Nat.reduceAdd, Nat.reduceLT, Nat.reduceEqDiff, Nat.reduceLeDiff, Nat.succ_ne_zero, Nat.zero_ne_one, Nat.one_ne_zero, ne_eq, not_false_eq_true, true_and, and_true, Nat.reduceMul, Nat.reduceSub, Int.reduceToNat, Int.toNat_zero, Int.toNat_one, Nat.zero_mul, Nat.one_mul, Int.reduceLT, Int.reduceLE, Int.le_refl, Int.zero_lt_one, Int.toNat_natCast, List.take_length, Int.cast_ofNat_Int, Int.reduceAdd, Int.reduceSub, Int.reduceBEq, Int.reduceBNe, ge_iff_le, gt_iff_lt, decide_true, decide_false, Int.lt_irrefl, Nat.zero_add, Nat.add_zero]
  refine pick13_w m (by omega) _ _ (by omega) _ ?_
  simp (maxSteps := 4000000) only [EV, EVF, XV, cond_true, cond_false, Bool.false_eq_true, Bool.true_eq_false, eq_self, normsOf, cutsOf, heapOf, quietOf, drawsOf, drawmOf, drawfOf, opnOf, coldOf, shutOf, iceOf, extOf, extOverlaps_eq, overB_eq, extCmp_eq, shpOf, Try.f10, ↓reduceIte, Nat.reduceAdd, Nat.reduceLT, Nat.reduceEqDiff, Nat.reduceLeDiff, Nat.succ_ne_zero, Nat.zero_ne_one, Nat.one_ne_zero, ne_eq, not_false_eq_true, true_and, and_true, Nat.reduceMul, Nat.reduceSub, Int.reduceToNat, Int.toNat_zero, Int.toNat_one, Nat.zero_mul, Nat.one_mul, Int.reduceLT, Int.reduceLE, Int.le_refl, Int.zero_lt_one, Int.toNat_natCast, List.take_length, Int.cast_ofNat_Int, Int.reduceAdd, Int.reduceSub, Int.reduceBEq, Int.reduceBNe, ge_iff_le, gt_iff_lt, decide_true, decide_false, Int.lt_irrefl, Nat.zero_add, Nat.add_zero]
  refine IF_beq (fun h => ?_) (fun h => ?_)
  · simp (maxSteps := 4000000) only [EV, EVF, XV, cond_true, cond_false, Bool.false_eq_true, Bool.true_eq_false, eq_self, normsOf, cutsOf, heapOf, quietOf, drawsOf, drawmOf, drawfOf, opnOf, coldOf, shutOf, iceOf, extOf, extOverlaps_eq, overB_eq, extCmp_eq, shpOf, Try.f10, ↓reduceIte, Nat.reduceAdd, Nat.reduceLT, Nat.reduceEqDiff, Nat.reduceLeDiff, Nat.succ_ne_zero, Nat.zero_ne_one, Nat.one_ne_zero, ne_eq, not_false_eq_true, true_and, and_true, Nat.reduceMul, Nat.reduceSub, Int.reduceToNat, Int.toNat_zero, Int.toNat_one, Nat.zero_mul, Nat.one_mul, Int.reduceLT, Int.reduceLE, Int.le_refl, Int.zero_lt_one, Int.toNat_natCast, List.take_length, Int.cast_ofNat_Int, Int.reduceAdd, Int.reduceSub, Int.reduceBEq, Int.reduceBNe, ge_iff_le, gt_iff_lt, decide_true, decide_false, Int.lt_irrefl, Nat.zero_add, Nat.add_zero]
    refine pick13_w m (by omega) _ _ (by omega) _ ?_
    simp (maxSteps := 4000000) only [EV, EVF, XV, cond_true, cond_false, Bool.false_eq_true, Bool.true_eq_false, eq_self, normsOf, cutsOf, heapOf, quietOf, drawsOf, drawmOf, drawfOf, opnOf, coldOf, shutOf, iceOf, extOf, extOverlaps_eq, overB_eq, extCmp_eq, shpOf, Try.f10, ↓reduceIte, Nat.reduceAdd, Nat.reduceLT, Nat.reduceEqDiff, Nat.reduceLeDiff, Nat.succ_ne_zero, Nat.zero_ne_one, Nat.one_ne_zero, ne_eq, not_false_eq_true, true_and, and_true, Nat.reduceMul, Nat.reduceSub, Int.reduceToNat, Int.toNat_zero, Int.toNat_one, Nat.zero_mul, Nat.one_mul, Int.reduceLT, Int.reduceLE, Int.le_refl, Int.zero_lt_one, Int.toNat_natCast, List.take_length, Int.cast_ofNat_Int, Int.reduceAdd, Int.reduceSub, Int.reduceBEq, Int.reduceBNe, ge_iff_le, gt_iff_lt, decide_true, decide_false, Int.lt_irrefl, Nat.zero_add, Nat.add_zero, e4]
    refine ⟨by omega, ?_⟩
    unfold answerS at hK2
    simp only [if_pos h, List.map_take] at hK2
    exact hK2 _
  · simp (maxSteps := 4000000) only [EV, EVF, XV, cond_true, cond_false, Bool.false_eq_true, Bool.true_eq_false, eq_self, normsOf, cutsOf, heapOf, quietOf, drawsOf, drawmOf, drawfOf, opnOf, coldOf, shutOf, iceOf, extOf, extOverlaps_eq, overB_eq, extCmp_eq, shpOf, Try.f10, ↓reduceIte, Nat.reduceAdd, Nat.reduceLT, Nat.reduceEqDiff, Nat.reduceLeDiff, Nat.succ_ne_zero, Nat.zero_ne_one, Nat.one_ne_zero, ne_eq, not_false_eq_true, true_and, and_true, Nat.reduceMul, Nat.reduceSub, Int.reduceToNat, Int.toNat_zero, Int.toNat_one, Nat.zero_mul, Nat.one_mul, Int.reduceLT, Int.reduceLE, Int.le_refl, Int.zero_lt_one, Int.toNat_natCast, List.take_length, Int.cast_ofNat_Int, Int.reduceAdd, Int.reduceSub, Int.reduceBEq, Int.reduceBNe, ge_iff_le, gt_iff_lt, decide_true, decide_false, Int.lt_irrefl, Nat.zero_add, Nat.add_zero]
    unfold answerS at hK2
    simp only [if_neg h, List.map_nil] at hK2
    exact hK2 _
end Go.Ai

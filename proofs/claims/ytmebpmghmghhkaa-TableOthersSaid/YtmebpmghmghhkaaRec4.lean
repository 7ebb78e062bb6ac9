/- The document's Decode of records, walked. -/
import Derived.Test.YtmebpmghmghhkaaRec1
import Derived.Test.YtmebpmghmghhkaaFieldP
set_option linter.unusedVariables false
set_option linter.unusedSimpArgs false
set_option maxRecDepth 100000
set_option maxHeartbeats 4000000
namespace Go.Ai
open Go.Proofs
theorem samer_w (m : Nat) (hm : 2 ≤ m) (a b : Rec) (ha : a.extra.length ≤ 9223372036854775807) (K : AV → Hp → Prop) (hK : ∀ H, K (.v (.bool (decide (a = b)))) H) : wpF C m 25 [.agg (rcv a), .agg (rcv b)] [] K := by
  unfold rcv
  obtain ⟨m, rfl⟩ : ∃ j, m = j + 1 := ⟨m - 1, by omega⟩; simp only [wpF, bodyA, fn_25, C_P, ok_25, C_prim, primOf, true_and]; simp (maxSteps := 4000000) only [EV, EVF, XV, cond_true, cond_false, Bool.false_eq_true, Bool.true_eq_false, eq_self, normsOf, cutsOf, heapOf, quietOf, drawsOf, drawmOf, drawfOf, opnOf, coldOf, shutOf, iceOf, extOf, extOverlaps_eq, overB_eq, extCmp_eq, shpOf, Try.f25, ↓reduceIte, Nat.reduceAdd, Nat.reduceLT, Nat.reduceEqDiff, Nat.reduceLeDiff, Nat.succ_ne_zero, Nat.zero_ne_one, Nat.one_ne_zero, ne_eq, not_false_eq_true, true_and, and_true, Nat.reduceMul, Nat.reduceSub, Int.reduceToNat, Int.toNat_zero, Int.toNat_one, Nat.zero_mul, Nat.one_mul, Int.reduceLT, Int.reduceLE, Int.le_refl, Int.zero_lt_one, Int.toNat_natCast, List.take_length, Int.cast_ofNat_Int, Int.reduceAdd, Int.reduceSub, Int.reduceBEq, Int.reduceBNe, ge_iff_le, gt_iff_lt, decide_true, decide_false, Int.lt_irrefl, Nat.zero_add, Nat.add_zero]
  have no : ¬ a = b → ∀ H, K (.v (.bool false)) H := fun h H => by
    have := hK H
    rwa [decide_eq_false h] at this
  repeat' ((first | refine IF_dec (fun h => ?_) (fun h => ?_) | refine IF_beq (fun h => ?_) (fun h => ?_) | refine IF_bne (fun h => ?_) (fun h => ?_) | refine IF_of (fun h => ?_) (fun h => ?_)) <;> (try (simp (maxSteps := 4000000) only [EV, EVF, XV, cond_true, cond_false, Bool.false_eq_true, Bool.true_eq_false, eq_self, normsOf, cutsOf, heapOf, quietOf, drawsOf, drawmOf, drawfOf, opnOf, coldOf, shutOf, iceOf, extOf, extOverlaps_eq, overB_eq, extCmp_eq, shpOf, Try.f25, ↓reduceIte, Nat.reduceAdd, Nat.reduceLT, Nat.reduceEqDiff, Nat.reduceLeDiff, Nat.succ_ne_zero, Nat.zero_ne_one, Nat.one_ne_zero, ne_eq, not_false_eq_true, true_and, and_true, Nat.reduceMul, Nat.reduceSub, Int.reduceToNat, Int.toNat_zero, Int.toNat_one, Nat.zero_mul, Nat.one_mul, Int.reduceLT, Int.reduceLE, Int.le_refl, Int.zero_lt_one, Int.toNat_natCast, List.take_length, Int.cast_ofNat_Int, Int.reduceAdd, Int.reduceSub, Int.reduceBEq, Int.reduceBNe, ge_iff_le, gt_iff_lt, decide_true, decide_false, Int.lt_irrefl, Nat.zero_add, Nat.add_zero])))
  all_goals (try (refine no (fun he => ?_) _; subst he; exact absurd rfl (by assumption)))
  refine same_w m (by omega) a.extra b.extra ha _ ?_
  simp (maxSteps := 4000000) only [EV, EVF, XV, cond_true, cond_false, Bool.false_eq_true, Bool.true_eq_false, eq_self, normsOf, cutsOf, heapOf, quietOf, drawsOf, drawmOf, drawfOf, opnOf, coldOf, shutOf, iceOf, extOf, extOverlaps_eq, overB_eq, extCmp_eq, shpOf, Try.f25, ↓reduceIte, Nat.reduceAdd, Nat.reduceLT, Nat.reduceEqDiff, Nat.reduceLeDiff, Nat.succ_ne_zero, Nat.zero_ne_one, Nat.one_ne_zero, ne_eq, not_false_eq_true, true_and, and_true, Nat.reduceMul, Nat.reduceSub, Int.reduceToNat, Int.toNat_zero, Int.toNat_one, Nat.zero_mul, Nat.one_mul, Int.reduceLT, Int.reduceLE, Int.le_refl, Int.zero_lt_one, Int.toNat_natCast, List.take_length, Int.cast_ofNat_Int, Int.reduceAdd, Int.reduceSub, Int.reduceBEq, Int.reduceBNe, ge_iff_le, gt_iff_lt, decide_true, decide_false, Int.lt_irrefl, Nat.zero_add, Nat.add_zero]
  have e1 : decide (a.extra = b.extra) = decide (a = b) := by
    rw [decide_eq_decide]
    refine ⟨fun h => ?_, fun h => by rw [h]⟩
    obtain ⟨a1, a2, a3, a4, a5, a6⟩ := a
    obtain ⟨b1, b2, b3, b4, b5, b6⟩ := b
    simp only at *
    subst_vars
    rfl
  rw [e1]
  exact hK _
end Go.Ai

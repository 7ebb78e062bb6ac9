/- RecordParts: the machine's word. -/
import Derived.Test.YtejoagfpklpafaaLawR0
import Derived.Test.YtejoagfpklpafaaRecP
import Derived.Test.YtejoagfpklpafaaConvFit
set_option linter.unusedVariables false
set_option linter.unusedSimpArgs false
set_option maxRecDepth 100000
set_option maxHeartbeats 4000000
namespace Go.Ai
open Go.Proofs
theorem parts_find {r : Rec} (h : RightP 2 r) : findS (knownF r ++ r.extra) 1 = some r.key ∧ findS (knownF r ++ r.extra) 2 = (if r.value = [] then none else some r.value) ∧ findS (knownF r ++ r.extra) 5 = (if r.note = [] then none else some r.note) ∧
    (findS (knownF r ++ r.extra) 3).isSome = decide (0 < r.rev) ∧ (findS (knownF r ++ r.extra) 4).isSome = decide (0 < r.life) ∧ 1 + r.extra.length ≤ (knownF r ++ r.extra).length := by
  have hk : ¬ r.key = [] := fun hc => by
    have := h.2.1
    rw [hc] at this
    simp at this
  have hx : ∀ k : Int, k ≤ 5 → r.extra.find? (fun f => f.1 == k) = none := fun k hk => by
    rw [List.find?_eq_none]
    intro f hf
    have : 5 < f.1 := (extra_tags h).2.2.2 f hf
    simp only [beq_iff_eq]
    omega
  have h1 := hx 1 (by omega); have h2 := hx 2 (by omega); have h3 := hx 3 (by omega); have h4 := hx 4 (by omega); have h5 := hx 5 (by omega)
  have n3 : numS r.rev = [] ↔ r.rev = 0 := numS_nil h.2.2.2.2.1
  have n4 : numS r.life = [] ↔ r.life = 0 := numS_nil h.2.2.2.2.2.2.2.1
  have p3 := h.2.2.2.2.1
  have p4 := h.2.2.2.2.2.2.2.1
  have q3 : (0 < r.rev) ↔ ¬ r.rev = 0 := by omega
  have q4 : (0 < r.life) ↔ ¬ r.life = 0 := by omega
  rw [kf_eq, if_neg hk]
  unfold findS
  by_cases c2 : r.value = [] <;> by_cases c3 : r.rev = 0 <;> by_cases c4 : r.life = 0 <;> by_cases c5 : r.note = []
  all_goals
    simp [show numS 0 = [] from rfl, c2, n3, n4, q3, q4, c3, c4, c5, h1, h2, h3, h4, h5, List.find?_append, List.find?_cons]
  all_goals (first | omega | trace_state)
theorem rparts_law (m : Nat) (hm : 12 ≤ m) (x : R5) (hx : r5k x) (raw : List (Int × Int)) (hrl : raw.length ≤ 140737488351232) (hr : ∀ p ∈ raw, i64ok p.1 ∧ i64ok p.2) (ts : List (List UInt8)) (htl : ts.length ≤ 140737488351232) (ht : ∀ t ∈ ts, t.length ≤ 140737488351232) : wpF C m 8 [.agg (r5w x), .lst 2 (raw.map rv), .lst 1 (ts.map tv)] [] fun r _ => r = .v (.bool true) := by
  obtain ⟨x0, x1, x2, x3, x4⟩ := hx
  have hright := record_right ts (a1 := x.b) (.inr rfl) x0 x2 x3 x4 (fun p hp => (hr p hp).1)
  have hlen := record_len ts hright
  have hrec := fun (m : Nat) (hm : 3 ≤ m) K => rec_w m hm 2 x.a x.b x.c x.d x.e raw ts x0 x1 x2 x3 x4 hr (by omega) (.inr rfl) K
  generalize recordS 2 x.a x.b x.c x.d x.e raw ts = r at hright hlen hrec
  unfold rcv at hrec
  unfold r5w
  have hl : r.extra.length ≤ 64 := (right_bd (extra_tags hright).2.1).1
  have hall := all_right hright
  have hll := (right_bd hall).1
  have he := fun (m : Nat) (hm : 7 ≤ m) K => encoder_w m hm 2 r (by omega) K
  have hdec := fun (m : Nat) (hm : 6 ≤ m) K => decode_w m hm (encL (knownF r ++ r.extra)) (by omega) K
  have hds := decode_encode hall (by omega)
  obtain ⟨f1, f2, f5, f3, f4, f6⟩ := parts_find hright
  rw [enc_ok hright (by omega)] at he
  unfold BE.av rcv at he
  simp only at he
  generalize encL (knownF r ++ r.extra) = s at he hdec hds
  generalize knownF r ++ r.extra = l at hds hll f1 f2 f3 f4 f5 f6
  have hfind := fun (m : Nat) (hm : 3 ≤ m) (t : Int) K => find_w m hm l (by omega) t K
  unfold findAV at hfind
  have g1 := fun (m : Nat) (hm : 3 ≤ m) K => hfind m hm 1 K
  have g2 := fun (m : Nat) (hm : 3 ≤ m) K => hfind m hm 2 K
  have g3 := fun (m : Nat) (hm : 3 ≤ m) K => hfind m hm 3 K
  have g4 := fun (m : Nat) (hm : 3 ≤ m) K => hfind m hm 4 K
  have g5 := fun (m : Nat) (hm : 3 ≤ m) K => hfind m hm 5 K
  have k2 : (findS l 2).getD [] = r.value ∧ (findS l 2).isSome = !decide (r.value = []) := by
    rw [f2]
    by_cases h : r.value = [] <;> simp [h]
  have k5 : (findS l 5).getD [] = r.note ∧ (findS l 5).isSome = !decide (r.note = []) := by
    rw [f5]
    by_cases h : r.note = [] <;> simp [h]
  rw [f1] at g1
  rw [k2.1, k2.2] at g2
  rw [k5.1, k5.2] at g5
  rw [f3] at g3
  rw [f4] at g4
  simp only [Option.getD_some, Option.isSome_some] at g1
  have wl : IntKind.i64.wrap (1 + (r.extra.length : Int)) = 1 + (r.extra.length : Int) := wrap64 (by omega) (by omega)
  have ql : (1 + (r.extra.length : Int) ≤ (l.length : Int)) = True := eq_true (by omega)
  obtain ⟨m, rfl⟩ : ∃ j, m = j + 1 := ⟨m - 1, by omega⟩; simp only [wpF, bodyA, fn_8, C_P, ok_8, C_prim, primOf, true_and]; simp (maxSteps := 4000000) only [EV, EVF, XV, cond_true, cond_false, Bool.false_eq_true, Bool.true_eq_false, eq_self, normsOf, cutsOf, heapOf, quietOf, drawsOf, drawmOf, drawfOf, opnOf, coldOf, shutOf, iceOf, extOf, extOverlaps_eq, overB_eq, extCmp_eq, shpOf, Try.f8, ↓reduceIte, Nat.reduceAdd, Nat.reduceLT, Nat.reduceEqDiff, Nat.reduceLeDiff, Nat.succ_ne_zero, Nat.zero_ne_one, Nat.one_ne_zero, ne_eq, not_false_eq_true, true_and, and_true, Nat.reduceMul, Nat.reduceSub, Int.reduceToNat, Int.toNat_zero, Int.toNat_one, Nat.zero_mul, Nat.one_mul, Int.reduceLT, Int.reduceLE, Int.le_refl, Int.zero_lt_one, Int.toNat_natCast, List.take_length, Int.cast_ofNat_Int, Int.reduceAdd, Int.reduceSub, Int.reduceBEq, Int.reduceBNe, ge_iff_le, gt_iff_lt, decide_true, decide_false, Int.lt_irrefl, Nat.zero_add, Nat.add_zero]
  refine awake3_w m (by omega) _ fun H => ?_
  simp (maxSteps := 4000000) only [EV, EVF, XV, cond_true, cond_false, Bool.false_eq_true, Bool.true_eq_false, eq_self, normsOf, cutsOf, heapOf, quietOf, drawsOf, drawmOf, drawfOf, opnOf, coldOf, shutOf, iceOf, extOf, extOverlaps_eq, overB_eq, extCmp_eq, shpOf, Try.f8, ↓reduceIte, Nat.reduceAdd, Nat.reduceLT, Nat.reduceEqDiff, Nat.reduceLeDiff, Nat.succ_ne_zero, Nat.zero_ne_one, Nat.one_ne_zero, ne_eq, not_false_eq_true, true_and, and_true, Nat.reduceMul, Nat.reduceSub, Int.reduceToNat, Int.toNat_zero, Int.toNat_one, Nat.zero_mul, Nat.one_mul, Int.reduceLT, Int.reduceLE, Int.le_refl, Int.zero_lt_one, Int.toNat_natCast, List.take_length, Int.cast_ofNat_Int, Int.reduceAdd, Int.reduceSub, Int.reduceBEq, Int.reduceBNe, ge_iff_le, gt_iff_lt, decide_true, decide_false, Int.lt_irrefl, Nat.zero_add, Nat.add_zero]
  refine hrec m (by omega) _ fun H => ?_
  simp (maxSteps := 4000000) only [EV, EVF, XV, cond_true, cond_false, Bool.false_eq_true, Bool.true_eq_false, eq_self, normsOf, cutsOf, heapOf, quietOf, drawsOf, drawmOf, drawfOf, opnOf, coldOf, shutOf, iceOf, extOf, extOverlaps_eq, overB_eq, extCmp_eq, shpOf, Try.f8, ↓reduceIte, Nat.reduceAdd, Nat.reduceLT, Nat.reduceEqDiff, Nat.reduceLeDiff, Nat.succ_ne_zero, Nat.zero_ne_one, Nat.one_ne_zero, ne_eq, not_false_eq_true, true_and, and_true, Nat.reduceMul, Nat.reduceSub, Int.reduceToNat, Int.toNat_zero, Int.toNat_one, Nat.zero_mul, Nat.one_mul, Int.reduceLT, Int.reduceLE, Int.le_refl, Int.zero_lt_one, Int.toNat_natCast, List.take_length, Int.cast_ofNat_Int, Int.reduceAdd, Int.reduceSub, Int.reduceBEq, Int.reduceBNe, ge_iff_le, gt_iff_lt, decide_true, decide_false, Int.lt_irrefl, Nat.zero_add, Nat.add_zero]
  refine he m (by omega) _ fun H => ?_
  simp (maxSteps := 4000000) only [EV, EVF, XV, cond_true, cond_false, Bool.false_eq_true, Bool.true_eq_false, eq_self, normsOf, cutsOf, heapOf, quietOf, drawsOf, drawmOf, drawfOf, opnOf, coldOf, shutOf, iceOf, extOf, extOverlaps_eq, overB_eq, extCmp_eq, shpOf, Try.f8, ↓reduceIte, Nat.reduceAdd, Nat.reduceLT, Nat.reduceEqDiff, Nat.reduceLeDiff, Nat.succ_ne_zero, Nat.zero_ne_one, Nat.one_ne_zero, ne_eq, not_false_eq_true, true_and, and_true, Nat.reduceMul, Nat.reduceSub, Int.reduceToNat, Int.toNat_zero, Int.toNat_one, Nat.zero_mul, Nat.one_mul, Int.reduceLT, Int.reduceLE, Int.le_refl, Int.zero_lt_one, Int.toNat_natCast, List.take_length, Int.cast_ofNat_Int, Int.reduceAdd, Int.reduceSub, Int.reduceBEq, Int.reduceBNe, ge_iff_le, gt_iff_lt, decide_true, decide_false, Int.lt_irrefl, Nat.zero_add, Nat.add_zero]
  refine hdec m (by omega) _ (fun e H he' => ?_) (fun l' he' => ?_)
  · rw [hds] at he'
    simp at he'
  obtain rfl : l = l' := by
    rw [hds] at he'
    simpa using he'
  simp (maxSteps := 4000000) only [EV, EVF, XV, cond_true, cond_false, Bool.false_eq_true, Bool.true_eq_false, eq_self, normsOf, cutsOf, heapOf, quietOf, drawsOf, drawmOf, drawfOf, opnOf, coldOf, shutOf, iceOf, extOf, extOverlaps_eq, overB_eq, extCmp_eq, shpOf, Try.f8, ↓reduceIte, Nat.reduceAdd, Nat.reduceLT, Nat.reduceEqDiff, Nat.reduceLeDiff, Nat.succ_ne_zero, Nat.zero_ne_one, Nat.one_ne_zero, ne_eq, not_false_eq_true, true_and, and_true, Nat.reduceMul, Nat.reduceSub, Int.reduceToNat, Int.toNat_zero, Int.toNat_one, Nat.zero_mul, Nat.one_mul, Int.reduceLT, Int.reduceLE, Int.le_refl, Int.zero_lt_one, Int.toNat_natCast, List.take_length, Int.cast_ofNat_Int, Int.reduceAdd, Int.reduceSub, Int.reduceBEq, Int.reduceBNe, ge_iff_le, gt_iff_lt, decide_true, decide_false, Int.lt_irrefl, Nat.zero_add, Nat.add_zero]
  refine g1 m (by omega) _ fun H => ?_
  simp (maxSteps := 4000000) only [EV, EVF, XV, cond_true, cond_false, Bool.false_eq_true, Bool.true_eq_false, eq_self, normsOf, cutsOf, heapOf, quietOf, drawsOf, drawmOf, drawfOf, opnOf, coldOf, shutOf, iceOf, extOf, extOverlaps_eq, overB_eq, extCmp_eq, shpOf, Try.f8, ↓reduceIte, Nat.reduceAdd, Nat.reduceLT, Nat.reduceEqDiff, Nat.reduceLeDiff, Nat.succ_ne_zero, Nat.zero_ne_one, Nat.one_ne_zero, ne_eq, not_false_eq_true, true_and, and_true, Nat.reduceMul, Nat.reduceSub, Int.reduceToNat, Int.toNat_zero, Int.toNat_one, Nat.zero_mul, Nat.one_mul, Int.reduceLT, Int.reduceLE, Int.le_refl, Int.zero_lt_one, Int.toNat_natCast, List.take_length, Int.cast_ofNat_Int, Int.reduceAdd, Int.reduceSub, Int.reduceBEq, Int.reduceBNe, ge_iff_le, gt_iff_lt, decide_true, decide_false, Int.lt_irrefl, Nat.zero_add, Nat.add_zero]
  refine g2 m (by omega) _ fun H => ?_
  simp (maxSteps := 4000000) only [EV, EVF, XV, cond_true, cond_false, Bool.false_eq_true, Bool.true_eq_false, eq_self, normsOf, cutsOf, heapOf, quietOf, drawsOf, drawmOf, drawfOf, opnOf, coldOf, shutOf, iceOf, extOf, extOverlaps_eq, overB_eq, extCmp_eq, shpOf, Try.f8, ↓reduceIte, Nat.reduceAdd, Nat.reduceLT, Nat.reduceEqDiff, Nat.reduceLeDiff, Nat.succ_ne_zero, Nat.zero_ne_one, Nat.one_ne_zero, ne_eq, not_false_eq_true, true_and, and_true, Nat.reduceMul, Nat.reduceSub, Int.reduceToNat, Int.toNat_zero, Int.toNat_one, Nat.zero_mul, Nat.one_mul, Int.reduceLT, Int.reduceLE, Int.le_refl, Int.zero_lt_one, Int.toNat_natCast, List.take_length, Int.cast_ofNat_Int, Int.reduceAdd, Int.reduceSub, Int.reduceBEq, Int.reduceBNe, ge_iff_le, gt_iff_lt, decide_true, decide_false, Int.lt_irrefl, Nat.zero_add, Nat.add_zero]
  refine g5 m (by omega) _ fun H => ?_
  simp (maxSteps := 4000000) only [EV, EVF, XV, cond_true, cond_false, Bool.false_eq_true, Bool.true_eq_false, eq_self, normsOf, cutsOf, heapOf, quietOf, drawsOf, drawmOf, drawfOf, opnOf, coldOf, shutOf, iceOf, extOf, extOverlaps_eq, overB_eq, extCmp_eq, shpOf, Try.f8, ↓reduceIte, Nat.reduceAdd, Nat.reduceLT, Nat.reduceEqDiff, Nat.reduceLeDiff, Nat.succ_ne_zero, Nat.zero_ne_one, Nat.one_ne_zero, ne_eq, not_false_eq_true, true_and, and_true, Nat.reduceMul, Nat.reduceSub, Int.reduceToNat, Int.toNat_zero, Int.toNat_one, Nat.zero_mul, Nat.one_mul, Int.reduceLT, Int.reduceLE, Int.le_refl, Int.zero_lt_one, Int.toNat_natCast, List.take_length, Int.cast_ofNat_Int, Int.reduceAdd, Int.reduceSub, Int.reduceBEq, Int.reduceBNe, ge_iff_le, gt_iff_lt, decide_true, decide_false, Int.lt_irrefl, Nat.zero_add, Nat.add_zero]
  refine g3 m (by omega) _ fun H => ?_
  simp (maxSteps := 4000000) only [EV, EVF, XV, cond_true, cond_false, Bool.false_eq_true, Bool.true_eq_false, eq_self, normsOf, cutsOf, heapOf, quietOf, drawsOf, drawmOf, drawfOf, opnOf, coldOf, shutOf, iceOf, extOf, extOverlaps_eq, overB_eq, extCmp_eq, shpOf, Try.f8, ↓reduceIte, Nat.reduceAdd, Nat.reduceLT, Nat.reduceEqDiff, Nat.reduceLeDiff, Nat.succ_ne_zero, Nat.zero_ne_one, Nat.one_ne_zero, ne_eq, not_false_eq_true, true_and, and_true, Nat.reduceMul, Nat.reduceSub, Int.reduceToNat, Int.toNat_zero, Int.toNat_one, Nat.zero_mul, Nat.one_mul, Int.reduceLT, Int.reduceLE, Int.le_refl, Int.zero_lt_one, Int.toNat_natCast, List.take_length, Int.cast_ofNat_Int, Int.reduceAdd, Int.reduceSub, Int.reduceBEq, Int.reduceBNe, ge_iff_le, gt_iff_lt, decide_true, decide_false, Int.lt_irrefl, Nat.zero_add, Nat.add_zero]
  refine g4 m (by omega) _ fun H => ?_
  simp (maxSteps := 4000000) only [EV, EVF, XV, cond_true, cond_false, Bool.false_eq_true, Bool.true_eq_false, eq_self, normsOf, cutsOf, heapOf, quietOf, drawsOf, drawmOf, drawfOf, opnOf, coldOf, shutOf, iceOf, extOf, extOverlaps_eq, overB_eq, extCmp_eq, shpOf, Try.f8, ↓reduceIte, Nat.reduceAdd, Nat.reduceLT, Nat.reduceEqDiff, Nat.reduceLeDiff, Nat.succ_ne_zero, Nat.zero_ne_one, Nat.one_ne_zero, ne_eq, not_false_eq_true, true_and, and_true, Nat.reduceMul, Nat.reduceSub, Int.reduceToNat, Int.toNat_zero, Int.toNat_one, Nat.zero_mul, Nat.one_mul, Int.reduceLT, Int.reduceLE, Int.le_refl, Int.zero_lt_one, Int.toNat_natCast, List.take_length, Int.cast_ofNat_Int, Int.reduceAdd, Int.reduceSub, Int.reduceBEq, Int.reduceBNe, ge_iff_le, gt_iff_lt, decide_true, decide_false, Int.lt_irrefl, Nat.zero_add, Nat.add_zero, beq_self_eq_true, wl, ql, decide_true]
end Go.Ai

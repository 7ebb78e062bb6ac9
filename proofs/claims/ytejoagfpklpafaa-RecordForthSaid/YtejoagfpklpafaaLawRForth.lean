/- RecordForth: the machine's word. -/
import Derived.Test.YtejoagfpklpafaaLawR0
import Derived.Test.YtejoagfpklpafaaRecP
import Derived.Test.YtejoagfpklpafaaConvFit
set_option linter.unusedVariables false
set_option linter.unusedSimpArgs false
set_option maxRecDepth 100000
set_option maxHeartbeats 4000000
namespace Go.Ai
open Go.Proofs
theorem min_len {a b : Int} : (if b < a then b else a) ≤ b ∧ (if b < a then b else a) ≤ a ∧ ((if b < a then b else a) = a ∨ (if b < a then b else a) = b) := by
  split
  · exact ⟨by omega, by omega, .inr rfl⟩
  · exact ⟨by omega, by omega, .inl rfl⟩
theorem rforth_law (m : Nat) (hm : 12 ≤ m) (s : List UInt8) (hsl : s.length ≤ 140737488351232) (x : R5) (hx : r5k x) (raw : List (Int × Int)) (hrl : raw.length ≤ 140737488351232) (hr : ∀ p ∈ raw, i64ok p.1 ∧ i64ok p.2) (ts : List (List UInt8)) (htl : ts.length ≤ 140737488351232) (ht : ∀ t ∈ ts, t.length ≤ 140737488351232) (at' : Int) (hat : i64ok at') (more : List UInt8) (hml : more.length ≤ 140737488351232) : wpF C m 5 [.v (.string (mk s)), .agg (r5w x), .lst 2 (raw.map rv), .lst 1 (ts.map tv), .v (.int .i64 at'), .v (.string (mk more))] [] fun r _ => r = .v (.bool true) := by
  obtain ⟨x0, x1, x2, x3, x4⟩ := hx
  have hright := fun (v : Int) (hv : v = 1 ∨ v = 2) => record_right ts (a1 := x.b) hv x0 x2 x3 x4 (fun p hp => (hr p hp).1)
  have hlen := fun (v : Int) (hv : v = 1 ∨ v = 2) => record_len ts (hright v hv)
  have hrec := fun (m : Nat) (hm : 3 ≤ m) (v : Int) (hv : v = 1 ∨ v = 2) K => rec_w m hm v x.a x.b x.c x.d x.e raw ts x0 x1 x2 x3 x4 hr (by omega) hv K
  unfold rcv at hrec
  unfold r5w
  obtain ⟨m, rfl⟩ : ∃ j, m = j + 1 := ⟨m - 1, by omega⟩; simp only [wpF, bodyA, fn_5, C_P, ok_5, C_prim, primOf, true_and]; simp (maxSteps := 4000000) only [EV, EVF, XV, cond_true, cond_false, Bool.false_eq_true, Bool.true_eq_false, eq_self, normsOf, cutsOf, heapOf, quietOf, drawsOf, drawmOf, drawfOf, opnOf, coldOf, shutOf, iceOf, extOf, extOverlaps_eq, overB_eq, extCmp_eq, shpOf, Try.f5, ↓reduceIte, Nat.reduceAdd, Nat.reduceLT, Nat.reduceEqDiff, Nat.reduceLeDiff, Nat.succ_ne_zero, Nat.zero_ne_one, Nat.one_ne_zero, ne_eq, not_false_eq_true, true_and, and_true, Nat.reduceMul, Nat.reduceSub, Int.reduceToNat, Int.toNat_zero, Int.toNat_one, Nat.zero_mul, Nat.one_mul, Int.reduceLT, Int.reduceLE, Int.le_refl, Int.zero_lt_one, Int.toNat_natCast, List.take_length, Int.cast_ofNat_Int, Int.reduceAdd, Int.reduceSub, Int.reduceBEq, Int.reduceBNe, ge_iff_le, gt_iff_lt, decide_true, decide_false, Int.lt_irrefl, Nat.zero_add, Nat.add_zero]
  refine awake3_w m (by omega) _ fun H => ?_
  simp (maxSteps := 4000000) only [EV, EVF, XV, cond_true, cond_false, Bool.false_eq_true, Bool.true_eq_false, eq_self, normsOf, cutsOf, heapOf, quietOf, drawsOf, drawmOf, drawfOf, opnOf, coldOf, shutOf, iceOf, extOf, extOverlaps_eq, overB_eq, extCmp_eq, shpOf, Try.f5, ↓reduceIte, Nat.reduceAdd, Nat.reduceLT, Nat.reduceEqDiff, Nat.reduceLeDiff, Nat.succ_ne_zero, Nat.zero_ne_one, Nat.one_ne_zero, ne_eq, not_false_eq_true, true_and, and_true, Nat.reduceMul, Nat.reduceSub, Int.reduceToNat, Int.toNat_zero, Int.toNat_one, Nat.zero_mul, Nat.one_mul, Int.reduceLT, Int.reduceLE, Int.le_refl, Int.zero_lt_one, Int.toNat_natCast, List.take_length, Int.cast_ofNat_Int, Int.reduceAdd, Int.reduceSub, Int.reduceBEq, Int.reduceBNe, ge_iff_le, gt_iff_lt, decide_true, decide_false, Int.lt_irrefl, Nat.zero_add, Nat.add_zero]
  refine loop_at (fun n : Nat => ⟨[(0, .v (.string (mk s))), (2, .lst 2 (raw.map rv)), (3, .lst 1 (ts.map tv)), (4, .v (.int .i64 at')), (5, .v (.string (mk more))), (7, .ptr 0 0), (13, .v (.bool true)), (14, .v (.int .i64 ((n : Int) + 1)))], [some (.var 25 (r5w x))]⟩) (fun n => n ≤ 2) (fun n => 2 - n) 0 (by decide) rfl ?_
  intro n hn
  by_cases hn2 : n = 2
  · subst hn2
    simp (maxSteps := 4000000) only [EV, EVF, XV, cond_true, cond_false, Bool.false_eq_true, Bool.true_eq_false, eq_self, normsOf, cutsOf, heapOf, quietOf, drawsOf, drawmOf, drawfOf, opnOf, coldOf, shutOf, iceOf, extOf, extOverlaps_eq, overB_eq, extCmp_eq, shpOf, Try.f5, ↓reduceIte, Nat.reduceAdd, Nat.reduceLT, Nat.reduceEqDiff, Nat.reduceLeDiff, Nat.succ_ne_zero, Nat.zero_ne_one, Nat.one_ne_zero, ne_eq, not_false_eq_true, true_and, and_true, Nat.reduceMul, Nat.reduceSub, Int.reduceToNat, Int.toNat_zero, Int.toNat_one, Nat.zero_mul, Nat.one_mul, Int.reduceLT, Int.reduceLE, Int.le_refl, Int.zero_lt_one, Int.toNat_natCast, List.take_length, Int.cast_ofNat_Int, Int.reduceAdd, Int.reduceSub, Int.reduceBEq, Int.reduceBNe, ge_iff_le, gt_iff_lt, decide_true, decide_false, Int.lt_irrefl, Nat.zero_add, Nat.add_zero, r5w]
  have hv : (n : Int) + 1 = 1 ∨ (n : Int) + 1 = 2 := by omega
  have wn : IntKind.i64.wrap ((n : Int) + 1 + 1) = ((n + 1 : Nat) : Int) + 1 := by rw [wrap64 (by omega) (by omega)]; omega
  have hright := hright _ hv
  have hlen := hlen _ hv
  have hrec := fun (m : Nat) (hm : 3 ≤ m) K => hrec m hm _ hv K
  have next : ∀ (S : St) (v : Int), (n : Int) + 1 = v → S = ⟨[(0, .v (.string (mk s))), (2, .lst 2 (raw.map rv)), (3, .lst 1 (ts.map tv)), (4, .v (.int .i64 at')), (5, .v (.string (mk more))), (7, .ptr 0 0), (13, .v (.bool true)), (14, .v (.int .i64 (((n + 1 : Nat) : Int) + 1)))], [some (.var 25 (r5w x))]⟩ → ∃ a' : Nat, a' ≤ 2 ∧ 2 - a' < 2 - n ∧ S = ⟨[(0, .v (.string (mk s))), (2, .lst 2 (raw.map rv)), (3, .lst 1 (ts.map tv)), (4, .v (.int .i64 at')), (5, .v (.string (mk more))), (7, .ptr 0 0), (13, .v (.bool true)), (14, .v (.int .i64 ((a' : Int) + 1)))], [some (.var 25 (r5w x))]⟩ := fun S v _ hS => ⟨n + 1, by omega, by omega, hS⟩
  generalize hveq : (n : Int) + 1 = v at hv hright hlen hrec wn
  have q0 : (v ≤ 2) = True := eq_true (by omega)
  generalize recordS v x.a x.b x.c x.d x.e raw ts = r at hright hlen hrec
  have hl : r.extra.length ≤ 64 := (right_bd (extra_tags hright).2.1).1
  have he := fun (m : Nat) (hm : 7 ≤ m) K => encoder_w m hm v r (by omega) K
  rw [enc_ok hright (by omega)] at he
  unfold BE.av rcv at he
  simp only at he
  generalize encL (knownF r ++ r.extra) = t at he hlen
  simp (maxSteps := 4000000) only [EV, EVF, XV, cond_true, cond_false, Bool.false_eq_true, Bool.true_eq_false, eq_self, normsOf, cutsOf, heapOf, quietOf, drawsOf, drawmOf, drawfOf, opnOf, coldOf, shutOf, iceOf, extOf, extOverlaps_eq, overB_eq, extCmp_eq, shpOf, Try.f5, ↓reduceIte, Nat.reduceAdd, Nat.reduceLT, Nat.reduceEqDiff, Nat.reduceLeDiff, Nat.succ_ne_zero, Nat.zero_ne_one, Nat.one_ne_zero, ne_eq, not_false_eq_true, true_and, and_true, Nat.reduceMul, Nat.reduceSub, Int.reduceToNat, Int.toNat_zero, Int.toNat_one, Nat.zero_mul, Nat.one_mul, Int.reduceLT, Int.reduceLE, Int.le_refl, Int.zero_lt_one, Int.toNat_natCast, List.take_length, Int.cast_ofNat_Int, Int.reduceAdd, Int.reduceSub, Int.reduceBEq, Int.reduceBNe, ge_iff_le, gt_iff_lt, decide_true, decide_false, Int.lt_irrefl, Nat.zero_add, Nat.add_zero, q0, r5w]
  refine hrec m (by omega) _ fun H => ?_
  simp (maxSteps := 4000000) only [EV, EVF, XV, cond_true, cond_false, Bool.false_eq_true, Bool.true_eq_false, eq_self, normsOf, cutsOf, heapOf, quietOf, drawsOf, drawmOf, drawfOf, opnOf, coldOf, shutOf, iceOf, extOf, extOverlaps_eq, overB_eq, extCmp_eq, shpOf, Try.f5, ↓reduceIte, Nat.reduceAdd, Nat.reduceLT, Nat.reduceEqDiff, Nat.reduceLeDiff, Nat.succ_ne_zero, Nat.zero_ne_one, Nat.one_ne_zero, ne_eq, not_false_eq_true, true_and, and_true, Nat.reduceMul, Nat.reduceSub, Int.reduceToNat, Int.toNat_zero, Int.toNat_one, Nat.zero_mul, Nat.one_mul, Int.reduceLT, Int.reduceLE, Int.le_refl, Int.zero_lt_one, Int.toNat_natCast, List.take_length, Int.cast_ofNat_Int, Int.reduceAdd, Int.reduceSub, Int.reduceBEq, Int.reduceBNe, ge_iff_le, gt_iff_lt, decide_true, decide_false, Int.lt_irrefl, Nat.zero_add, Nat.add_zero]
  refine he m (by omega) _ fun H => ?_
  have wl : IntKind.i64.wrap ((t.length : Int) + 1) = (t.length : Int) + 1 := wrap64 (by omega) (by omega)
  simp (maxSteps := 4000000) only [EV, EVF, XV, cond_true, cond_false, Bool.false_eq_true, Bool.true_eq_false, eq_self, normsOf, cutsOf, heapOf, quietOf, drawsOf, drawmOf, drawfOf, opnOf, coldOf, shutOf, iceOf, extOf, extOverlaps_eq, overB_eq, extCmp_eq, shpOf, Try.f5, ↓reduceIte, Nat.reduceAdd, Nat.reduceLT, Nat.reduceEqDiff, Nat.reduceLeDiff, Nat.succ_ne_zero, Nat.zero_ne_one, Nat.one_ne_zero, ne_eq, not_false_eq_true, true_and, and_true, Nat.reduceMul, Nat.reduceSub, Int.reduceToNat, Int.toNat_zero, Int.toNat_one, Nat.zero_mul, Nat.one_mul, Int.reduceLT, Int.reduceLE, Int.le_refl, Int.zero_lt_one, Int.toNat_natCast, List.take_length, Int.cast_ofNat_Int, Int.reduceAdd, Int.reduceSub, Int.reduceBEq, Int.reduceBNe, ge_iff_le, gt_iff_lt, decide_true, decide_false, Int.lt_irrefl, Nat.zero_add, Nat.add_zero, wl]
  refine pick3_w m (by omega) _ _ (by omega) _ ?_
  have hp := pickN_bd hat.1 hat.2 (show (0 : Int) < (t.length : Int) + 1 by omega)
  generalize pickN at' ((t.length : Int) + 1) = k at hp ⊢
  obtain ⟨k, rfl⟩ : ∃ k' : Nat, k = k' := ⟨k.toNat, by omega⟩
  have wk : IntKind.i64.wrap ((k : Int) + (more.length : Int)) = ((k + more.length : Nat) : Int) := by rw [wrap64 (by omega) (by omega)]; omega
  simp (maxSteps := 4000000) only [EV, EVF, XV, cond_true, cond_false, Bool.false_eq_true, Bool.true_eq_false, eq_self, normsOf, cutsOf, heapOf, quietOf, drawsOf, drawmOf, drawfOf, opnOf, coldOf, shutOf, iceOf, extOf, extOverlaps_eq, overB_eq, extCmp_eq, shpOf, Try.f5, ↓reduceIte, Nat.reduceAdd, Nat.reduceLT, Nat.reduceEqDiff, Nat.reduceLeDiff, Nat.succ_ne_zero, Nat.zero_ne_one, Nat.one_ne_zero, ne_eq, not_false_eq_true, true_and, and_true, Nat.reduceMul, Nat.reduceSub, Int.reduceToNat, Int.toNat_zero, Int.toNat_one, Nat.zero_mul, Nat.one_mul, Int.reduceLT, Int.reduceLE, Int.le_refl, Int.zero_lt_one, Int.toNat_natCast, List.take_length, Int.cast_ofNat_Int, Int.reduceAdd, Int.reduceSub, Int.reduceBEq, Int.reduceBNe, ge_iff_le, gt_iff_lt, decide_true, decide_false, Int.lt_irrefl, Nat.zero_add, Nat.add_zero, wk]
  refine ⟨by omega, by simp; omega, by split <;> omega, by split <;> omega, by simp only [List.length_take, List.length_drop]; omega, by omega, by simp; omega, by omega, by simp only [List.length_take, List.length_drop]; omega, ?_⟩
  have hy2 : (List.take k t ++ more ++ List.drop (if (t.length : Int) < ((k + more.length : Nat) : Int) then (t.length : Int) else ((k + more.length : Nat) : Int)).toNat t).length ≤ 9223372036854775807 := by
    simp only [List.length_append, List.length_take, List.length_drop]
    omega
  have hy3 : (List.take k t ++ more ++ List.drop k t).length ≤ 9223372036854775807 := by
    simp only [List.length_append, List.length_take, List.length_drop]
    omega
  generalize List.take k t ++ more ++ List.drop (if (t.length : Int) < ((k + more.length : Nat) : Int) then (t.length : Int) else ((k + more.length : Nat) : Int)).toNat t = y2 at hy2 ⊢
  generalize List.take k t ++ more ++ List.drop k t = y3 at hy3 ⊢
  refine loop_at (fun j : Nat => ⟨[(0, .v (.string (mk s))), (2, .lst 2 (raw.map rv)), (3, .lst 1 (ts.map tv)), (4, .v (.int .i64 at')), (5, .v (.string (mk more))), (7, .ptr 0 0), (13, .v (.bool true)), (14, .v (.int .i64 v)), (69, .row 1 1 0 3), (70, .v (.int .i64 3)), (71, .v (.int .i64 j))], [some (.var 25 (r5w x)), some (.row 9 1 [tv s, tv y2, tv y3])]⟩) (fun j => j ≤ 3) (fun j => 3 - j) 0 (by decide) rfl ?_
  intro j hj
  by_cases hj2 : j = 3
  · subst hj2
    simp (maxSteps := 4000000) only [EV, EVF, XV, cond_true, cond_false, Bool.false_eq_true, Bool.true_eq_false, eq_self, normsOf, cutsOf, heapOf, quietOf, drawsOf, drawmOf, drawfOf, opnOf, coldOf, shutOf, iceOf, extOf, extOverlaps_eq, overB_eq, extCmp_eq, shpOf, Try.f5, ↓reduceIte, Nat.reduceAdd, Nat.reduceLT, Nat.reduceEqDiff, Nat.reduceLeDiff, Nat.succ_ne_zero, Nat.zero_ne_one, Nat.one_ne_zero, ne_eq, not_false_eq_true, true_and, and_true, Nat.reduceMul, Nat.reduceSub, Int.reduceToNat, Int.toNat_zero, Int.toNat_one, Nat.zero_mul, Nat.one_mul, Int.reduceLT, Int.reduceLE, Int.le_refl, Int.zero_lt_one, Int.toNat_natCast, List.take_length, Int.cast_ofNat_Int, Int.reduceAdd, Int.reduceSub, Int.reduceBEq, Int.reduceBNe, ge_iff_le, gt_iff_lt, decide_true, decide_false, Int.lt_irrefl, Nat.zero_add, Nat.add_zero, r5w, tv, wn]
    exact next _ v hveq rfl
  obtain ⟨z, hz, hzl⟩ : ∃ z : List UInt8, ([tv s, tv y2, tv y3] : List (List AV))[j]? = some (tv z) ∧ z.length ≤ 9223372036854775807 := by
    match j, hj, hj2 with
    | 0, _, _ => exact ⟨s, rfl, by omega⟩
    | 1, _, _ => exact ⟨y2, rfl, hy2⟩
    | 2, _, _ => exact ⟨y3, rfl, hy3⟩
    | k + 3, h1, h2 => omega
  simp only [tv] at hz
  have hj' : ((j : Int) < 3) = True := by simp; omega
  have wj : IntKind.i64.wrap ((j : Int) + 1) = ((j + 1 : Nat) : Int) := by rw [wrap64 (by omega) (by omega)]; omega
  have hd := fun (m : Nat) (hm : 8 ≤ m) K => pdecoder_w m hm v z hzl K
  cases hdz : decodeR v z with
  | mk u e =>
  rw [hdz] at hd
  by_cases h0 : e = 0
  · subst h0
    obtain ⟨hR, hE⟩ := dec_enc hdz
    have hul : u.extra.length ≤ 64 := (right_bd (extra_tags hR).2.1).1
    have he2 := fun (m : Nat) (hm : 7 ≤ m) K => encoder_w m hm v u (by omega) K
    have hr2 := fun (m : Nat) (hm : 4 ≤ m) K => rightr_w m hm v u (by omega) K
    rw [hE] at he2
    rw [show rightR v u = true from decide_eq_true hR] at hr2
    unfold RE.av rcv at hd
    unfold BE.av rcv at he2
    unfold rcv at hr2
    simp only at hd he2
    simp (maxSteps := 4000000) only [EV, EVF, XV, cond_true, cond_false, Bool.false_eq_true, Bool.true_eq_false, eq_self, normsOf, cutsOf, heapOf, quietOf, drawsOf, drawmOf, drawfOf, opnOf, coldOf, shutOf, iceOf, extOf, extOverlaps_eq, overB_eq, extCmp_eq, shpOf, Try.f5, ↓reduceIte, Nat.reduceAdd, Nat.reduceLT, Nat.reduceEqDiff, Nat.reduceLeDiff, Nat.succ_ne_zero, Nat.zero_ne_one, Nat.one_ne_zero, ne_eq, not_false_eq_true, true_and, and_true, Nat.reduceMul, Nat.reduceSub, Int.reduceToNat, Int.toNat_zero, Int.toNat_one, Nat.zero_mul, Nat.one_mul, Int.reduceLT, Int.reduceLE, Int.le_refl, Int.zero_lt_one, Int.toNat_natCast, List.take_length, Int.cast_ofNat_Int, Int.reduceAdd, Int.reduceSub, Int.reduceBEq, Int.reduceBNe, ge_iff_le, gt_iff_lt, decide_true, decide_false, Int.lt_irrefl, Nat.zero_add, Nat.add_zero, r5w, tv, hz, hj']
    refine hd m (by omega) _ fun H => ?_
    simp (maxSteps := 4000000) only [EV, EVF, XV, cond_true, cond_false, Bool.false_eq_true, Bool.true_eq_false, eq_self, normsOf, cutsOf, heapOf, quietOf, drawsOf, drawmOf, drawfOf, opnOf, coldOf, shutOf, iceOf, extOf, extOverlaps_eq, overB_eq, extCmp_eq, shpOf, Try.f5, ↓reduceIte, Nat.reduceAdd, Nat.reduceLT, Nat.reduceEqDiff, Nat.reduceLeDiff, Nat.succ_ne_zero, Nat.zero_ne_one, Nat.one_ne_zero, ne_eq, not_false_eq_true, true_and, and_true, Nat.reduceMul, Nat.reduceSub, Int.reduceToNat, Int.toNat_zero, Int.toNat_one, Nat.zero_mul, Nat.one_mul, Int.reduceLT, Int.reduceLE, Int.le_refl, Int.zero_lt_one, Int.toNat_natCast, List.take_length, Int.cast_ofNat_Int, Int.reduceAdd, Int.reduceSub, Int.reduceBEq, Int.reduceBNe, ge_iff_le, gt_iff_lt, decide_true, decide_false, Int.lt_irrefl, Nat.zero_add, Nat.add_zero]
    refine he2 m (by omega) _ fun H => ?_
    simp (maxSteps := 4000000) only [EV, EVF, XV, cond_true, cond_false, Bool.false_eq_true, Bool.true_eq_false, eq_self, normsOf, cutsOf, heapOf, quietOf, drawsOf, drawmOf, drawfOf, opnOf, coldOf, shutOf, iceOf, extOf, extOverlaps_eq, overB_eq, extCmp_eq, shpOf, Try.f5, ↓reduceIte, Nat.reduceAdd, Nat.reduceLT, Nat.reduceEqDiff, Nat.reduceLeDiff, Nat.succ_ne_zero, Nat.zero_ne_one, Nat.one_ne_zero, ne_eq, not_false_eq_true, true_and, and_true, Nat.reduceMul, Nat.reduceSub, Int.reduceToNat, Int.toNat_zero, Int.toNat_one, Nat.zero_mul, Nat.one_mul, Int.reduceLT, Int.reduceLE, Int.le_refl, Int.zero_lt_one, Int.toNat_natCast, List.take_length, Int.cast_ofNat_Int, Int.reduceAdd, Int.reduceSub, Int.reduceBEq, Int.reduceBNe, ge_iff_le, gt_iff_lt, decide_true, decide_false, Int.lt_irrefl, Nat.zero_add, Nat.add_zero]
    refine hr2 m (by omega) _ fun H => ?_
    simp (maxSteps := 4000000) only [EV, EVF, XV, cond_true, cond_false, Bool.false_eq_true, Bool.true_eq_false, eq_self, normsOf, cutsOf, heapOf, quietOf, drawsOf, drawmOf, drawfOf, opnOf, coldOf, shutOf, iceOf, extOf, extOverlaps_eq, overB_eq, extCmp_eq, shpOf, Try.f5, ↓reduceIte, Nat.reduceAdd, Nat.reduceLT, Nat.reduceEqDiff, Nat.reduceLeDiff, Nat.succ_ne_zero, Nat.zero_ne_one, Nat.one_ne_zero, ne_eq, not_false_eq_true, true_and, and_true, Nat.reduceMul, Nat.reduceSub, Int.reduceToNat, Int.toNat_zero, Int.toNat_one, Nat.zero_mul, Nat.one_mul, Int.reduceLT, Int.reduceLE, Int.le_refl, Int.zero_lt_one, Int.toNat_natCast, List.take_length, Int.cast_ofNat_Int, Int.reduceAdd, Int.reduceSub, Int.reduceBEq, Int.reduceBNe, ge_iff_le, gt_iff_lt, decide_true, decide_false, Int.lt_irrefl, Nat.zero_add, Nat.add_zero, Bool.not_true, wj]
    exact ⟨j + 1, by omega, by omega, rfl⟩
  · have hno := dec_no (v := v) (s := z) (by rw [hdz]; exact h0)
    rw [hdz] at hno
    simp only at hno
    subst hno
    have e1 : (e != 0) = true := by simpa using h0
    unfold RE.av rcv at hd
    simp only [rec0, List.map_nil] at hd
    simp (maxSteps := 4000000) only [EV, EVF, XV, cond_true, cond_false, Bool.false_eq_true, Bool.true_eq_false, eq_self, normsOf, cutsOf, heapOf, quietOf, drawsOf, drawmOf, drawfOf, opnOf, coldOf, shutOf, iceOf, extOf, extOverlaps_eq, overB_eq, extCmp_eq, shpOf, Try.f5, ↓reduceIte, Nat.reduceAdd, Nat.reduceLT, Nat.reduceEqDiff, Nat.reduceLeDiff, Nat.succ_ne_zero, Nat.zero_ne_one, Nat.one_ne_zero, ne_eq, not_false_eq_true, true_and, and_true, Nat.reduceMul, Nat.reduceSub, Int.reduceToNat, Int.toNat_zero, Int.toNat_one, Nat.zero_mul, Nat.one_mul, Int.reduceLT, Int.reduceLE, Int.le_refl, Int.zero_lt_one, Int.toNat_natCast, List.take_length, Int.cast_ofNat_Int, Int.reduceAdd, Int.reduceSub, Int.reduceBEq, Int.reduceBNe, ge_iff_le, gt_iff_lt, decide_true, decide_false, Int.lt_irrefl, Nat.zero_add, Nat.add_zero, r5w, tv, hz, hj']
    refine hd m (by omega) _ fun H => ?_
    simp (maxSteps := 4000000) only [EV, EVF, XV, cond_true, cond_false, Bool.false_eq_true, Bool.true_eq_false, eq_self, normsOf, cutsOf, heapOf, quietOf, drawsOf, drawmOf, drawfOf, opnOf, coldOf, shutOf, iceOf, extOf, extOverlaps_eq, overB_eq, extCmp_eq, shpOf, Try.f5, ↓reduceIte, Nat.reduceAdd, Nat.reduceLT, Nat.reduceEqDiff, Nat.reduceLeDiff, Nat.succ_ne_zero, Nat.zero_ne_one, Nat.one_ne_zero, ne_eq, not_false_eq_true, true_and, and_true, Nat.reduceMul, Nat.reduceSub, Int.reduceToNat, Int.toNat_zero, Int.toNat_one, Nat.zero_mul, Nat.one_mul, Int.reduceLT, Int.reduceLE, Int.le_refl, Int.zero_lt_one, Int.toNat_natCast, List.take_length, Int.cast_ofNat_Int, Int.reduceAdd, Int.reduceSub, Int.reduceBEq, Int.reduceBNe, ge_iff_le, gt_iff_lt, decide_true, decide_false, Int.lt_irrefl, Nat.zero_add, Nat.add_zero]
    simp (maxSteps := 4000000) only [EV, EVF, XV, cond_true, cond_false, Bool.false_eq_true, Bool.true_eq_false, eq_self, normsOf, cutsOf, heapOf, quietOf, drawsOf, drawmOf, drawfOf, opnOf, coldOf, shutOf, iceOf, extOf, extOverlaps_eq, overB_eq, extCmp_eq, shpOf, Try.f5, ↓reduceIte, Nat.reduceAdd, Nat.reduceLT, Nat.reduceEqDiff, Nat.reduceLeDiff, Nat.succ_ne_zero, Nat.zero_ne_one, Nat.one_ne_zero, ne_eq, not_false_eq_true, true_and, and_true, Nat.reduceMul, Nat.reduceSub, Int.reduceToNat, Int.toNat_zero, Int.toNat_one, Nat.zero_mul, Nat.one_mul, Int.reduceLT, Int.reduceLE, Int.le_refl, Int.zero_lt_one, Int.toNat_natCast, List.take_length, Int.cast_ofNat_Int, Int.reduceAdd, Int.reduceSub, Int.reduceBEq, Int.reduceBNe, ge_iff_le, gt_iff_lt, decide_true, decide_false, Int.lt_irrefl, Nat.zero_add, Nat.add_zero, e1, wj]
    exact ⟨j + 1, by omega, by omega, rfl⟩
end Go.Ai

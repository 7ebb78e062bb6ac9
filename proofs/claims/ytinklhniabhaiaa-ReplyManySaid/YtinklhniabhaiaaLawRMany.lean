/- ReplyMany: the machine's word. -/
import Derived.Test.YtinklhniabhaiaaRep6
import Derived.Test.YtinklhniabhaiaaRep7
import Derived.Test.YtinklhniabhaiaaRepFit
set_option linter.unusedVariables false
set_option linter.unusedSimpArgs false
set_option maxRecDepth 100000
set_option maxHeartbeats 4000000
namespace Go.Ai
open Go.Proofs
/-- The number of a client's call. -/
def numF (ids : List Int) (i : Nat) : Int := match ids[i]? with
  | some c => 1 + pickN c 100
  | none => 1
theorem numF_bd {ids : List Int} (hi : ∀ x ∈ ids, i64ok x) (i : Nat) : 1 ≤ numF ids i ∧ numF ids i ≤ 100 := by
  unfold numF
  cases h : ids[i]? with
  | none => simp
  | some c =>
    have hci := hi c (List.mem_of_getElem? h)
    have := pickN_bd hci.1 hci.2 (show (0:Int) < 100 by decide)
    simp only
    omega
theorem many_keys (f : Nat → Int) : ∀ i, ∀ d ∈ manyL f i, d.rep.keys.length ≤ 1000000000000
  | 0 => by simp [manyL]
  | i + 1 => fun d hd => by
    have ih := many_keys f i
    unfold manyL at hd
    rcases List.mem_cons.1 hd with rfl | hd
    · simp [repr]
    · exact ih d hd
theorem many_ok (f : Nat → Int) {i : Nat} (hi : i ≤ 9) : okD (manyL f i) := ⟨by rw [many_len]; omega, many_keys f i⟩
def slE (l : List Dn) : AV := match l with
  | [] => .v (.slice none 0 0)
  | x :: r => .lst 6 ((x :: r).map dnv)
theorem many_sl (f : Nat → Int) (i : Nat) : (slE (manyL f i) = .v (.slice none 0 0) ∧ (manyL f i).map dnv = [] ∧ i = 0) ∨ (slE (manyL f i) = .lst 6 ((manyL f i).map dnv) ∧ 1 ≤ i) := by
  cases i with
  | zero => exact .inl ⟨rfl, rfl, rfl⟩
  | succ k => exact .inr ⟨rfl, by omega⟩
theorem many_sl1 (f : Nat → Int) (i : Nat) : slE (manyL f (i + 1)) = .lst 6 ((manyL f (i + 1)).map dnv) := rfl
theorem rmany_law (m : Nat) (hm : 20 ≤ m) (ids : List Int) (hl : ids.length * 8 ≤ 140737488351232) (hi : ∀ x ∈ ids, i64ok x) : wpF C m 5 [.lst 1 (ids.map iv)] [] fun r _ => r = .v (.bool true) := by
  have hf := numF_bd hi
  obtain ⟨f, hfe⟩ : ∃ f, numF ids = f := ⟨_, rfl⟩
  rw [hfe] at hf
  obtain ⟨m, rfl⟩ : ∃ j, m = j + 1 := ⟨m - 1, by omega⟩; simp only [wpF, bodyA, fn_5, C_P, ok_5, C_prim, primOf, true_and]; simp (maxSteps := 4000000) only [EV, EVF, XV, cond_true, cond_false, Bool.false_eq_true, Bool.true_eq_false, eq_self, normsOf, cutsOf, heapOf, quietOf, drawsOf, drawmOf, drawfOf, opnOf, coldOf, shutOf, iceOf, extOf, extOverlaps_eq, overB_eq, extCmp_eq, shpOf, Try.f5, ↓reduceIte, Nat.reduceAdd, Nat.reduceLT, Nat.reduceEqDiff, Nat.reduceLeDiff, Nat.succ_ne_zero, Nat.zero_ne_one, Nat.one_ne_zero, ne_eq, not_false_eq_true, true_and, and_true, Nat.reduceMul, Nat.reduceSub, Int.reduceToNat, Int.toNat_zero, Int.toNat_one, Nat.zero_mul, Nat.one_mul, Int.reduceLT, Int.reduceLE, Int.le_refl, Int.zero_lt_one, Int.toNat_natCast, List.take_length, Int.cast_ofNat_Int, Int.reduceAdd, Int.reduceSub, Int.reduceBEq, Int.reduceBNe, ge_iff_le, gt_iff_lt, decide_true, decide_false, Int.lt_irrefl, Nat.zero_add, Nat.add_zero]
  refine awake13_w m (by omega) _ fun H => ?_
  simp (maxSteps := 4000000) only [EV, EVF, XV, cond_true, cond_false, Bool.false_eq_true, Bool.true_eq_false, eq_self, normsOf, cutsOf, heapOf, quietOf, drawsOf, drawmOf, drawfOf, opnOf, coldOf, shutOf, iceOf, extOf, extOverlaps_eq, overB_eq, extCmp_eq, shpOf, Try.f5, ↓reduceIte, Nat.reduceAdd, Nat.reduceLT, Nat.reduceEqDiff, Nat.reduceLeDiff, Nat.succ_ne_zero, Nat.zero_ne_one, Nat.one_ne_zero, ne_eq, not_false_eq_true, true_and, and_true, Nat.reduceMul, Nat.reduceSub, Int.reduceToNat, Int.toNat_zero, Int.toNat_one, Nat.zero_mul, Nat.one_mul, Int.reduceLT, Int.reduceLE, Int.le_refl, Int.zero_lt_one, Int.toNat_natCast, List.take_length, Int.cast_ofNat_Int, Int.reduceAdd, Int.reduceSub, Int.reduceBEq, Int.reduceBNe, ge_iff_le, gt_iff_lt, decide_true, decide_false, Int.lt_irrefl, Nat.zero_add, Nat.add_zero]
  refine loop_at (fun i : Nat => ⟨[(0, .lst 1 (ids.map iv)), (3, .v (.bool true)), (4, slE (manyL f (min i 8))), (5, .v (.int .i64 i))], []⟩)
    (fun i => i ≤ 9) (fun i => 9 - i) 0 (by decide) rfl ?_
  rintro i h1
  by_cases h9 : i = 9
  · subst h9
    simp (maxSteps := 4000000) only [EV, EVF, XV, cond_true, cond_false, Bool.false_eq_true, Bool.true_eq_false, eq_self, normsOf, cutsOf, heapOf, quietOf, drawsOf, drawmOf, drawfOf, opnOf, coldOf, shutOf, iceOf, extOf, extOverlaps_eq, overB_eq, extCmp_eq, shpOf, Try.f5, ↓reduceIte, Nat.reduceAdd, Nat.reduceLT, Nat.reduceEqDiff, Nat.reduceLeDiff, Nat.succ_ne_zero, Nat.zero_ne_one, Nat.one_ne_zero, ne_eq, not_false_eq_true, true_and, and_true, Nat.reduceMul, Nat.reduceSub, Int.reduceToNat, Int.toNat_zero, Int.toNat_one, Nat.zero_mul, Nat.one_mul, Int.reduceLT, Int.reduceLE, Int.le_refl, Int.zero_lt_one, Int.toNat_natCast, List.take_length, Int.cast_ofNat_Int, Int.reduceAdd, Int.reduceSub, Int.reduceBEq, Int.reduceBNe, ge_iff_le, gt_iff_lt, decide_true, decide_false, Int.lt_irrefl, Nat.zero_add, Nat.add_zero, show min 9 8 = 8 by decide, many_sl1 f 7]
    refine loop_at (fun j : Nat => ⟨[(0, .lst 1 (ids.map iv)), (3, .v (.bool true)), (4, .lst 6 ((manyL f 8).map dnv)), (9, .v (.int .i64 j))], []⟩)
      (fun j => j ≤ 8) (fun j => 8 - j) 0 (by decide) rfl ?_
    rintro j h2
    by_cases h8 : j = 8
    · subst h8
      have hr := fun (m : Nat) (hm : 9 ≤ m) K => rightd_w m hm (manyL f 8) (many_ok f (by omega)) K
      rw [many_right hf (by omega)] at hr
      have hlen := many_len f 8
      simp (maxSteps := 4000000) only [EV, EVF, XV, cond_true, cond_false, Bool.false_eq_true, Bool.true_eq_false, eq_self, normsOf, cutsOf, heapOf, quietOf, drawsOf, drawmOf, drawfOf, opnOf, coldOf, shutOf, iceOf, extOf, extOverlaps_eq, overB_eq, extCmp_eq, shpOf, Try.f5, ↓reduceIte, Nat.reduceAdd, Nat.reduceLT, Nat.reduceEqDiff, Nat.reduceLeDiff, Nat.succ_ne_zero, Nat.zero_ne_one, Nat.one_ne_zero, ne_eq, not_false_eq_true, true_and, and_true, Nat.reduceMul, Nat.reduceSub, Int.reduceToNat, Int.toNat_zero, Int.toNat_one, Nat.zero_mul, Nat.one_mul, Int.reduceLT, Int.reduceLE, Int.le_refl, Int.zero_lt_one, Int.toNat_natCast, List.take_length, Int.cast_ofNat_Int, Int.reduceAdd, Int.reduceSub, Int.reduceBEq, Int.reduceBNe, ge_iff_le, gt_iff_lt, decide_true, decide_false, Int.lt_irrefl, Nat.zero_add, Nat.add_zero, hlen, beq_self_eq_true]
      refine hr m (by omega) _ fun H => ?_
      simp (maxSteps := 4000000) only [EV, EVF, XV, cond_true, cond_false, Bool.false_eq_true, Bool.true_eq_false, eq_self, normsOf, cutsOf, heapOf, quietOf, drawsOf, drawmOf, drawfOf, opnOf, coldOf, shutOf, iceOf, extOf, extOverlaps_eq, overB_eq, extCmp_eq, shpOf, Try.f5, ↓reduceIte, Nat.reduceAdd, Nat.reduceLT, Nat.reduceEqDiff, Nat.reduceLeDiff, Nat.succ_ne_zero, Nat.zero_ne_one, Nat.one_ne_zero, ne_eq, not_false_eq_true, true_and, and_true, Nat.reduceMul, Nat.reduceSub, Int.reduceToNat, Int.toNat_zero, Int.toNat_one, Nat.zero_mul, Nat.one_mul, Int.reduceLT, Int.reduceLE, Int.le_refl, Int.zero_lt_one, Int.toNat_natCast, List.take_length, Int.cast_ofNat_Int, Int.reduceAdd, Int.reduceSub, Int.reduceBEq, Int.reduceBNe, ge_iff_le, gt_iff_lt, decide_true, decide_false, Int.lt_irrefl, Nat.zero_add, Nat.add_zero]
    have q1 : ((j : Int) < 8) = True := by simp; omega
    have w1 : IntKind.i64.wrap ((j : Int) + 1) = ((j + 1 : Nat) : Int) := by rw [wrap64 (by omega) (by omega)]; omega
    have w2 : IntKind.i64.wrap (10 * IntKind.i64.wrap (9 - (j : Int))) = 10 * (9 - (j : Int)) := by rw [wrap64 (x := 9 - (j : Int)) (by omega) (by omega), wrap64 (by omega) (by omega)]
    have hlk := many_look hf (i := 8) (j := j) (by omega) (by omega)
    have hfj := hf j
    have k1 := fun (m : Nat) (hm : 10 ≤ m) K => look_w m hm (manyL f 8) (many_ok f (by omega)) (10 * (9 - (j : Int))) (f j) K
    have k2 := fun (m : Nat) (hm : 10 ≤ m) K => look_w m hm (manyL f 8) (many_ok f (by omega)) (10 * (9 - (j : Int))) (f j + 1) K
    rw [hlk.1] at k1
    rw [hlk.2] at k2
    unfold LookR.av repv repr at k1
    unfold LookR.av repv rep0 at k2
    simp only [List.map_nil] at k1 k2
    have hfj2 : numF ids j = f j := by rw [hfe]
    unfold numF at hfj2
    generalize f j = n at hfj2 hfj k1 k2
    have w3 : IntKind.i64.wrap (n + 1) = n + 1 := wrap64 (by omega) (by omega)
    by_cases hlt : j < ids.length
    · obtain ⟨c, hc, hd⟩ := drop_at hlt
      have hm' := map_at (f := iv) hc
      simp only [iv] at hm'
      rw [hc] at hfj2
      simp only at hfj2
      have q2 : ((j : Int) < (ids.length : Int)) = True := by simp; omega
      have w4 : IntKind.i64.wrap (1 + pickN c 100) = n := by rw [hfj2]; exact wrap64 (by omega) (by omega)
      simp (maxSteps := 4000000) only [EV, EVF, XV, cond_true, cond_false, Bool.false_eq_true, Bool.true_eq_false, eq_self, normsOf, cutsOf, heapOf, quietOf, drawsOf, drawmOf, drawfOf, opnOf, coldOf, shutOf, iceOf, extOf, extOverlaps_eq, overB_eq, extCmp_eq, shpOf, Try.f5, ↓reduceIte, Nat.reduceAdd, Nat.reduceLT, Nat.reduceEqDiff, Nat.reduceLeDiff, Nat.succ_ne_zero, Nat.zero_ne_one, Nat.one_ne_zero, ne_eq, not_false_eq_true, true_and, and_true, Nat.reduceMul, Nat.reduceSub, Int.reduceToNat, Int.toNat_zero, Int.toNat_one, Nat.zero_mul, Nat.one_mul, Int.reduceLT, Int.reduceLE, Int.le_refl, Int.zero_lt_one, Int.toNat_natCast, List.take_length, Int.cast_ofNat_Int, Int.reduceAdd, Int.reduceSub, Int.reduceBEq, Int.reduceBNe, ge_iff_le, gt_iff_lt, decide_true, decide_false, Int.lt_irrefl, Nat.zero_add, Nat.add_zero, q1, q2, hm']
      refine pick13_w m (by omega) _ _ (by omega) _ ?_
      simp (maxSteps := 4000000) only [EV, EVF, XV, cond_true, cond_false, Bool.false_eq_true, Bool.true_eq_false, eq_self, normsOf, cutsOf, heapOf, quietOf, drawsOf, drawmOf, drawfOf, opnOf, coldOf, shutOf, iceOf, extOf, extOverlaps_eq, overB_eq, extCmp_eq, shpOf, Try.f5, ↓reduceIte, Nat.reduceAdd, Nat.reduceLT, Nat.reduceEqDiff, Nat.reduceLeDiff, Nat.succ_ne_zero, Nat.zero_ne_one, Nat.one_ne_zero, ne_eq, not_false_eq_true, true_and, and_true, Nat.reduceMul, Nat.reduceSub, Int.reduceToNat, Int.toNat_zero, Int.toNat_one, Nat.zero_mul, Nat.one_mul, Int.reduceLT, Int.reduceLE, Int.le_refl, Int.zero_lt_one, Int.toNat_natCast, List.take_length, Int.cast_ofNat_Int, Int.reduceAdd, Int.reduceSub, Int.reduceBEq, Int.reduceBNe, ge_iff_le, gt_iff_lt, decide_true, decide_false, Int.lt_irrefl, Nat.zero_add, Nat.add_zero, w2, w4]
      refine k1 m (by omega) _ fun H => ?_
      simp (maxSteps := 4000000) only [EV, EVF, XV, cond_true, cond_false, Bool.false_eq_true, Bool.true_eq_false, eq_self, normsOf, cutsOf, heapOf, quietOf, drawsOf, drawmOf, drawfOf, opnOf, coldOf, shutOf, iceOf, extOf, extOverlaps_eq, overB_eq, extCmp_eq, shpOf, Try.f5, ↓reduceIte, Nat.reduceAdd, Nat.reduceLT, Nat.reduceEqDiff, Nat.reduceLeDiff, Nat.succ_ne_zero, Nat.zero_ne_one, Nat.one_ne_zero, ne_eq, not_false_eq_true, true_and, and_true, Nat.reduceMul, Nat.reduceSub, Int.reduceToNat, Int.toNat_zero, Int.toNat_one, Nat.zero_mul, Nat.one_mul, Int.reduceLT, Int.reduceLE, Int.le_refl, Int.zero_lt_one, Int.toNat_natCast, List.take_length, Int.cast_ofNat_Int, Int.reduceAdd, Int.reduceSub, Int.reduceBEq, Int.reduceBNe, ge_iff_le, gt_iff_lt, decide_true, decide_false, Int.lt_irrefl, Nat.zero_add, Nat.add_zero, w2, w3]
      refine k2 m (by omega) _ fun H => ?_
      simp (maxSteps := 4000000) only [EV, EVF, XV, cond_true, cond_false, Bool.false_eq_true, Bool.true_eq_false, eq_self, normsOf, cutsOf, heapOf, quietOf, drawsOf, drawmOf, drawfOf, opnOf, coldOf, shutOf, iceOf, extOf, extOverlaps_eq, overB_eq, extCmp_eq, shpOf, Try.f5, ↓reduceIte, Nat.reduceAdd, Nat.reduceLT, Nat.reduceEqDiff, Nat.reduceLeDiff, Nat.succ_ne_zero, Nat.zero_ne_one, Nat.one_ne_zero, ne_eq, not_false_eq_true, true_and, and_true, Nat.reduceMul, Nat.reduceSub, Int.reduceToNat, Int.toNat_zero, Int.toNat_one, Nat.zero_mul, Nat.one_mul, Int.reduceLT, Int.reduceLE, Int.le_refl, Int.zero_lt_one, Int.toNat_natCast, List.take_length, Int.cast_ofNat_Int, Int.reduceAdd, Int.reduceSub, Int.reduceBEq, Int.reduceBNe, ge_iff_le, gt_iff_lt, decide_true, decide_false, Int.lt_irrefl, Nat.zero_add, Nat.add_zero, w1, bne_self_eq_false]
      exact ⟨j + 1, by omega, by omega, rfl⟩
    · rw [List.getElem?_eq_none (by omega)] at hfj2
      simp only at hfj2
      subst hfj2
      have q2 : ((j : Int) < (ids.length : Int)) = False := by simp; omega
      simp (maxSteps := 4000000) only [EV, EVF, XV, cond_true, cond_false, Bool.false_eq_true, Bool.true_eq_false, eq_self, normsOf, cutsOf, heapOf, quietOf, drawsOf, drawmOf, drawfOf, opnOf, coldOf, shutOf, iceOf, extOf, extOverlaps_eq, overB_eq, extCmp_eq, shpOf, Try.f5, ↓reduceIte, Nat.reduceAdd, Nat.reduceLT, Nat.reduceEqDiff, Nat.reduceLeDiff, Nat.succ_ne_zero, Nat.zero_ne_one, Nat.one_ne_zero, ne_eq, not_false_eq_true, true_and, and_true, Nat.reduceMul, Nat.reduceSub, Int.reduceToNat, Int.toNat_zero, Int.toNat_one, Nat.zero_mul, Nat.one_mul, Int.reduceLT, Int.reduceLE, Int.le_refl, Int.zero_lt_one, Int.toNat_natCast, List.take_length, Int.cast_ofNat_Int, Int.reduceAdd, Int.reduceSub, Int.reduceBEq, Int.reduceBNe, ge_iff_le, gt_iff_lt, decide_true, decide_false, Int.lt_irrefl, Nat.zero_add, Nat.add_zero, q1, q2, w2]
      refine k1 m (by omega) _ fun H => ?_
      simp (maxSteps := 4000000) only [EV, EVF, XV, cond_true, cond_false, Bool.false_eq_true, Bool.true_eq_false, eq_self, normsOf, cutsOf, heapOf, quietOf, drawsOf, drawmOf, drawfOf, opnOf, coldOf, shutOf, iceOf, extOf, extOverlaps_eq, overB_eq, extCmp_eq, shpOf, Try.f5, ↓reduceIte, Nat.reduceAdd, Nat.reduceLT, Nat.reduceEqDiff, Nat.reduceLeDiff, Nat.succ_ne_zero, Nat.zero_ne_one, Nat.one_ne_zero, ne_eq, not_false_eq_true, true_and, and_true, Nat.reduceMul, Nat.reduceSub, Int.reduceToNat, Int.toNat_zero, Int.toNat_one, Nat.zero_mul, Nat.one_mul, Int.reduceLT, Int.reduceLE, Int.le_refl, Int.zero_lt_one, Int.toNat_natCast, List.take_length, Int.cast_ofNat_Int, Int.reduceAdd, Int.reduceSub, Int.reduceBEq, Int.reduceBNe, ge_iff_le, gt_iff_lt, decide_true, decide_false, Int.lt_irrefl, Nat.zero_add, Nat.add_zero, w2, w3]
      refine k2 m (by omega) _ fun H => ?_
      simp (maxSteps := 4000000) only [EV, EVF, XV, cond_true, cond_false, Bool.false_eq_true, Bool.true_eq_false, eq_self, normsOf, cutsOf, heapOf, quietOf, drawsOf, drawmOf, drawfOf, opnOf, coldOf, shutOf, iceOf, extOf, extOverlaps_eq, overB_eq, extCmp_eq, shpOf, Try.f5, ↓reduceIte, Nat.reduceAdd, Nat.reduceLT, Nat.reduceEqDiff, Nat.reduceLeDiff, Nat.succ_ne_zero, Nat.zero_ne_one, Nat.one_ne_zero, ne_eq, not_false_eq_true, true_and, and_true, Nat.reduceMul, Nat.reduceSub, Int.reduceToNat, Int.toNat_zero, Int.toNat_one, Nat.zero_mul, Nat.one_mul, Int.reduceLT, Int.reduceLE, Int.le_refl, Int.zero_lt_one, Int.toNat_natCast, List.take_length, Int.cast_ofNat_Int, Int.reduceAdd, Int.reduceSub, Int.reduceBEq, Int.reduceBNe, ge_iff_le, gt_iff_lt, decide_true, decide_false, Int.lt_irrefl, Nat.zero_add, Nat.add_zero, w1, bne_self_eq_false]
      exact ⟨j + 1, by omega, by omega, rfl⟩
  have hmin : min i 8 = i := by omega
  simp only [hmin]
  have q1 : ((i : Int) < 9) = True := by simp; omega
  have w1 : IntKind.i64.wrap ((i : Int) + 1) = ((i + 1 : Nat) : Int) := by rw [wrap64 (by omega) (by omega)]; omega
  have w2 : IntKind.i64.wrap (10 * IntKind.i64.wrap (9 - (i : Int))) = 10 * (9 - (i : Int)) := by rw [wrap64 (x := 9 - (i : Int)) (by omega) (by omega), wrap64 (by omega) (by omega)]
  have hkk := many_keep hf (i := i) (by omega)
  have hfi := hf i
  have hk := fun (m : Nat) (hm : 11 ≤ m) K => keep_w m hm (manyL f i) (many_ok f (by omega)) (10 * (9 - (i : Int))) (f i) (repr (f i)) (by simp [repr]) K
  rw [hkk] at hk
  have hfi2 : numF ids i = f i := by rw [hfe]
  unfold numF at hfi2
  generalize f i = n at hfi2 hfi hk
  obtain ⟨v, hv⟩ : ∃ v, slE (manyL f i) = v := ⟨_, rfl⟩
  obtain ⟨X, hX⟩ : ∃ X, (manyL f i).map dnv = X := ⟨_, rfl⟩
  have hvX : (v = .v (.slice none 0 0) ∧ X = [] ∧ i = 0) ∨ (v = .lst 6 X ∧ 1 ≤ i) := by
    rw [← hv, ← hX]
    exact many_sl f i
  rw [hX] at hk
  rw [hv]
  have hst : i < 8 → slE (manyL f (min (i + 1) 8)) = .lst 6 ((manyL f (i + 1)).map dnv) := fun h => by
    rw [show min (i + 1) 8 = i + 1 by omega]
    rfl
  have hst8 : ¬ i < 8 → slE (manyL f (min (i + 1) 8)) = v := fun h => by
    rw [show min (i + 1) 8 = i by omega, hv]
  have hk8 : i < 8 → ∀ (m : Nat) (hm : 11 ≤ m) K, _ := fun h m hm K => by
    have := hk m hm K
    rw [if_pos h] at this
    exact this
  have hk9 : ¬ i < 8 → ∀ (m : Nat) (hm : 11 ≤ m) K, _ := fun h m hm K => by
    have := hk m hm K
    rw [if_neg h] at this
    exact this
  unfold KeepR.av repv repr at hk8 hk9
  simp only [List.map_nil] at hk8 hk9
  by_cases hlt : i < ids.length
  · obtain ⟨c, hc, hd⟩ := drop_at hlt
    have hm' := map_at (f := iv) hc
    simp only [iv] at hm'
    rw [hc] at hfi2
    simp only at hfi2
    have q2 : ((i : Int) < (ids.length : Int)) = True := by simp; omega
    have w4 : IntKind.i64.wrap (1 + pickN c 100) = n := by rw [hfi2]; exact wrap64 (by omega) (by omega)
    rcases hvX with ⟨rfl, rfl, ha0⟩ | ⟨rfl, ha0⟩
    all_goals
      simp (maxSteps := 4000000) only [EV, EVF, XV, cond_true, cond_false, Bool.false_eq_true, Bool.true_eq_false, eq_self, normsOf, cutsOf, heapOf, quietOf, drawsOf, drawmOf, drawfOf, opnOf, coldOf, shutOf, iceOf, extOf, extOverlaps_eq, overB_eq, extCmp_eq, shpOf, Try.f5, ↓reduceIte, Nat.reduceAdd, Nat.reduceLT, Nat.reduceEqDiff, Nat.reduceLeDiff, Nat.succ_ne_zero, Nat.zero_ne_one, Nat.one_ne_zero, ne_eq, not_false_eq_true, true_and, and_true, Nat.reduceMul, Nat.reduceSub, Int.reduceToNat, Int.toNat_zero, Int.toNat_one, Nat.zero_mul, Nat.one_mul, Int.reduceLT, Int.reduceLE, Int.le_refl, Int.zero_lt_one, Int.toNat_natCast, List.take_length, Int.cast_ofNat_Int, Int.reduceAdd, Int.reduceSub, Int.reduceBEq, Int.reduceBNe, ge_iff_le, gt_iff_lt, decide_true, decide_false, Int.lt_irrefl, Nat.zero_add, Nat.add_zero, q1, q2, hm']
      refine pick13_w m (by omega) _ _ (by omega) _ ?_
      simp (maxSteps := 4000000) only [EV, EVF, XV, cond_true, cond_false, Bool.false_eq_true, Bool.true_eq_false, eq_self, normsOf, cutsOf, heapOf, quietOf, drawsOf, drawmOf, drawfOf, opnOf, coldOf, shutOf, iceOf, extOf, extOverlaps_eq, overB_eq, extCmp_eq, shpOf, Try.f5, ↓reduceIte, Nat.reduceAdd, Nat.reduceLT, Nat.reduceEqDiff, Nat.reduceLeDiff, Nat.succ_ne_zero, Nat.zero_ne_one, Nat.one_ne_zero, ne_eq, not_false_eq_true, true_and, and_true, Nat.reduceMul, Nat.reduceSub, Int.reduceToNat, Int.toNat_zero, Int.toNat_one, Nat.zero_mul, Nat.one_mul, Int.reduceLT, Int.reduceLE, Int.le_refl, Int.zero_lt_one, Int.toNat_natCast, List.take_length, Int.cast_ofNat_Int, Int.reduceAdd, Int.reduceSub, Int.reduceBEq, Int.reduceBNe, ge_iff_le, gt_iff_lt, decide_true, decide_false, Int.lt_irrefl, Nat.zero_add, Nat.add_zero, w2, w4]
      by_cases h8 : i < 8
      · have q3 : ((i : Int) < 8) = True := by simp; omega
        have q4 : ((i : Int) == 8) = false := by simp; omega
        refine hk8 h8 m (by omega) _ fun H => ?_
        simp (maxSteps := 4000000) only [EV, EVF, XV, cond_true, cond_false, Bool.false_eq_true, Bool.true_eq_false, eq_self, normsOf, cutsOf, heapOf, quietOf, drawsOf, drawmOf, drawfOf, opnOf, coldOf, shutOf, iceOf, extOf, extOverlaps_eq, overB_eq, extCmp_eq, shpOf, Try.f5, ↓reduceIte, Nat.reduceAdd, Nat.reduceLT, Nat.reduceEqDiff, Nat.reduceLeDiff, Nat.succ_ne_zero, Nat.zero_ne_one, Nat.one_ne_zero, ne_eq, not_false_eq_true, true_and, and_true, Nat.reduceMul, Nat.reduceSub, Int.reduceToNat, Int.toNat_zero, Int.toNat_one, Nat.zero_mul, Nat.one_mul, Int.reduceLT, Int.reduceLE, Int.le_refl, Int.zero_lt_one, Int.toNat_natCast, List.take_length, Int.cast_ofNat_Int, Int.reduceAdd, Int.reduceSub, Int.reduceBEq, Int.reduceBNe, ge_iff_le, gt_iff_lt, decide_true, decide_false, Int.lt_irrefl, Nat.zero_add, Nat.add_zero, w1, q3, q4, beq_self_eq_true, bne_self_eq_false, decide_true]
        exact ⟨i + 1, by omega, by omega, by simp only [hst h8]⟩
      · have q3 : ((i : Int) < 8) = False := by simp; omega
        have q4 : ((i : Int) == 8) = true := by simp; omega
        refine hk9 h8 m (by omega) _ fun H => ?_
        simp (maxSteps := 4000000) only [EV, EVF, XV, cond_true, cond_false, Bool.false_eq_true, Bool.true_eq_false, eq_self, normsOf, cutsOf, heapOf, quietOf, drawsOf, drawmOf, drawfOf, opnOf, coldOf, shutOf, iceOf, extOf, extOverlaps_eq, overB_eq, extCmp_eq, shpOf, Try.f5, ↓reduceIte, Nat.reduceAdd, Nat.reduceLT, Nat.reduceEqDiff, Nat.reduceLeDiff, Nat.succ_ne_zero, Nat.zero_ne_one, Nat.one_ne_zero, ne_eq, not_false_eq_true, true_and, and_true, Nat.reduceMul, Nat.reduceSub, Int.reduceToNat, Int.toNat_zero, Int.toNat_one, Nat.zero_mul, Nat.one_mul, Int.reduceLT, Int.reduceLE, Int.le_refl, Int.zero_lt_one, Int.toNat_natCast, List.take_length, Int.cast_ofNat_Int, Int.reduceAdd, Int.reduceSub, Int.reduceBEq, Int.reduceBNe, ge_iff_le, gt_iff_lt, decide_true, decide_false, Int.lt_irrefl, Nat.zero_add, Nat.add_zero, w1, q3, q4, beq_self_eq_true, bne_self_eq_false, decide_false]
        exact ⟨i + 1, by omega, by omega, by simp only [hst8 h8]⟩
  · rw [List.getElem?_eq_none (by omega)] at hfi2
    simp only at hfi2
    subst hfi2
    have q2 : ((i : Int) < (ids.length : Int)) = False := by simp; omega
    rcases hvX with ⟨rfl, rfl, ha0⟩ | ⟨rfl, ha0⟩
    all_goals
      simp (maxSteps := 4000000) only [EV, EVF, XV, cond_true, cond_false, Bool.false_eq_true, Bool.true_eq_false, eq_self, normsOf, cutsOf, heapOf, quietOf, drawsOf, drawmOf, drawfOf, opnOf, coldOf, shutOf, iceOf, extOf, extOverlaps_eq, overB_eq, extCmp_eq, shpOf, Try.f5, ↓reduceIte, Nat.reduceAdd, Nat.reduceLT, Nat.reduceEqDiff, Nat.reduceLeDiff, Nat.succ_ne_zero, Nat.zero_ne_one, Nat.one_ne_zero, ne_eq, not_false_eq_true, true_and, and_true, Nat.reduceMul, Nat.reduceSub, Int.reduceToNat, Int.toNat_zero, Int.toNat_one, Nat.zero_mul, Nat.one_mul, Int.reduceLT, Int.reduceLE, Int.le_refl, Int.zero_lt_one, Int.toNat_natCast, List.take_length, Int.cast_ofNat_Int, Int.reduceAdd, Int.reduceSub, Int.reduceBEq, Int.reduceBNe, ge_iff_le, gt_iff_lt, decide_true, decide_false, Int.lt_irrefl, Nat.zero_add, Nat.add_zero, q1, q2, w2]
      by_cases h8 : i < 8
      · have q3 : ((i : Int) < 8) = True := by simp; omega
        have q4 : ((i : Int) == 8) = false := by simp; omega
        refine hk8 h8 m (by omega) _ fun H => ?_
        simp (maxSteps := 4000000) only [EV, EVF, XV, cond_true, cond_false, Bool.false_eq_true, Bool.true_eq_false, eq_self, normsOf, cutsOf, heapOf, quietOf, drawsOf, drawmOf, drawfOf, opnOf, coldOf, shutOf, iceOf, extOf, extOverlaps_eq, overB_eq, extCmp_eq, shpOf, Try.f5, ↓reduceIte, Nat.reduceAdd, Nat.reduceLT, Nat.reduceEqDiff, Nat.reduceLeDiff, Nat.succ_ne_zero, Nat.zero_ne_one, Nat.one_ne_zero, ne_eq, not_false_eq_true, true_and, and_true, Nat.reduceMul, Nat.reduceSub, Int.reduceToNat, Int.toNat_zero, Int.toNat_one, Nat.zero_mul, Nat.one_mul, Int.reduceLT, Int.reduceLE, Int.le_refl, Int.zero_lt_one, Int.toNat_natCast, List.take_length, Int.cast_ofNat_Int, Int.reduceAdd, Int.reduceSub, Int.reduceBEq, Int.reduceBNe, ge_iff_le, gt_iff_lt, decide_true, decide_false, Int.lt_irrefl, Nat.zero_add, Nat.add_zero, w1, q3, q4, beq_self_eq_true, bne_self_eq_false, decide_true]
        exact ⟨i + 1, by omega, by omega, by simp only [hst h8]⟩
      · have q3 : ((i : Int) < 8) = False := by simp; omega
        have q4 : ((i : Int) == 8) = true := by simp; omega
        refine hk9 h8 m (by omega) _ fun H => ?_
        simp (maxSteps := 4000000) only [EV, EVF, XV, cond_true, cond_false, Bool.false_eq_true, Bool.true_eq_false, eq_self, normsOf, cutsOf, heapOf, quietOf, drawsOf, drawmOf, drawfOf, opnOf, coldOf, shutOf, iceOf, extOf, extOverlaps_eq, overB_eq, extCmp_eq, shpOf, Try.f5, ↓reduceIte, Nat.reduceAdd, Nat.reduceLT, Nat.reduceEqDiff, Nat.reduceLeDiff, Nat.succ_ne_zero, Nat.zero_ne_one, Nat.one_ne_zero, ne_eq, not_false_eq_true, true_and, and_true, Nat.reduceMul, Nat.reduceSub, Int.reduceToNat, Int.toNat_zero, Int.toNat_one, Nat.zero_mul, Nat.one_mul, Int.reduceLT, Int.reduceLE, Int.le_refl, Int.zero_lt_one, Int.toNat_natCast, List.take_length, Int.cast_ofNat_Int, Int.reduceAdd, Int.reduceSub, Int.reduceBEq, Int.reduceBNe, ge_iff_le, gt_iff_lt, decide_true, decide_false, Int.lt_irrefl, Nat.zero_add, Nat.add_zero, w1, q3, q4, beq_self_eq_true, bne_self_eq_false, decide_false]
        exact ⟨i + 1, by omega, by omega, by simp only [hst8 h8]⟩
end Go.Ai

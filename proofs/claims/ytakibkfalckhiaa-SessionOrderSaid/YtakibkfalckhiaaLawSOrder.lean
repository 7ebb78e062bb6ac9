/- SessionOrder: the machine's word. -/
import Derived.Test.YtakibkfalckhiaaSes6
import Derived.Test.YtakibkfalckhiaaSesQ
set_option linter.unusedVariables false
set_option linter.unusedSimpArgs false
set_option maxRecDepth 100000
set_option maxHeartbeats 4000000
namespace Go.Ai
open Go.Proofs
theorem sorder_law (m : Nat) (hm : 10 ≤ m) (come : List Int) (hcl : come.length * 8 ≤ 140737488351232) (hci : ∀ x ∈ come, i64ok x) (at' : Int) (hat : i64ok at') : wpF C m 6 [.lst 1 (come.map iv), .v (.int .i64 at')] [] fun r _ => r = .v (.bool true) := by
  obtain ⟨m, rfl⟩ : ∃ j, m = j + 1 := ⟨m - 1, by omega⟩; simp only [wpF, bodyA, fn_6, C_P, ok_6, C_prim, primOf, true_and]; simp (maxSteps := 4000000) only [EV, EVF, XV, cond_true, cond_false, Bool.false_eq_true, Bool.true_eq_false, eq_self, normsOf, cutsOf, heapOf, quietOf, drawsOf, drawmOf, opnOf, shutOf, iceOf, extOf, extOverlaps_eq, overB_eq, extCmp_eq, shpOf, Try.f6, ↓reduceIte, Nat.reduceAdd, Nat.reduceLT, Nat.reduceEqDiff, Nat.reduceLeDiff, Nat.succ_ne_zero, Nat.zero_ne_one, Nat.one_ne_zero, ne_eq, not_false_eq_true, true_and, and_true, Nat.reduceMul, Nat.reduceSub, Int.reduceToNat, Int.toNat_zero, Int.toNat_one, Nat.zero_mul, Nat.one_mul, Int.reduceLT, Int.reduceLE, Int.le_refl, Int.zero_lt_one, Int.toNat_natCast, List.take_length, Int.cast_ofNat_Int, Int.reduceAdd, Int.reduceSub, Int.reduceBEq, Int.reduceBNe, ge_iff_le, gt_iff_lt, decide_true, decide_false, Int.lt_irrefl, Nat.zero_add, Nat.add_zero]
  refine awake10_w m (by omega) _ fun H => ?_
  simp (maxSteps := 4000000) only [EV, EVF, XV, cond_true, cond_false, Bool.false_eq_true, Bool.true_eq_false, eq_self, normsOf, cutsOf, heapOf, quietOf, drawsOf, drawmOf, opnOf, shutOf, iceOf, extOf, extOverlaps_eq, overB_eq, extCmp_eq, shpOf, Try.f6, ↓reduceIte, Nat.reduceAdd, Nat.reduceLT, Nat.reduceEqDiff, Nat.reduceLeDiff, Nat.succ_ne_zero, Nat.zero_ne_one, Nat.one_ne_zero, ne_eq, not_false_eq_true, true_and, and_true, Nat.reduceMul, Nat.reduceSub, Int.reduceToNat, Int.toNat_zero, Int.toNat_one, Nat.zero_mul, Nat.one_mul, Int.reduceLT, Int.reduceLE, Int.le_refl, Int.zero_lt_one, Int.toNat_natCast, List.take_length, Int.cast_ofNat_Int, Int.reduceAdd, Int.reduceSub, Int.reduceBEq, Int.reduceBNe, ge_iff_le, gt_iff_lt, decide_true, decide_false, Int.lt_irrefl, Nat.zero_add, Nat.add_zero]
  obtain ⟨n, hn⟩ : ∃ n : Nat, (if (40 : Int) < (come.length : Int) then (40 : Int) else (come.length : Int)) = n := by
    split
    · exact ⟨40, rfl⟩
    · exact ⟨come.length, rfl⟩
  have hn40 : n ≤ 40 ∧ n ≤ come.length := by
    split at hn <;> omega
  rw [hn]
  have w1 : IntKind.i64.wrap ((n : Int) + 1) = ((n + 1 : Nat) : Int) := by rw [wrap64 (by omega) (by omega)]; omega
  rw [w1]
  refine pick10_w m (by omega) _ _ (by omega) _ ?_
  have hb := pickN_bd hat.1 hat.2 (show (0:Int) < ((n + 1 : Nat) : Int) by omega)
  obtain ⟨k, hk⟩ : ∃ k : Nat, pickN at' ((n + 1 : Nat) : Int) = k := ⟨(pickN at' ((n + 1 : Nat) : Int)).toNat, by omega⟩
  rw [hk] at hb ⊢
  simp (maxSteps := 4000000) only [EV, EVF, XV, cond_true, cond_false, Bool.false_eq_true, Bool.true_eq_false, eq_self, normsOf, cutsOf, heapOf, quietOf, drawsOf, drawmOf, opnOf, shutOf, iceOf, extOf, extOverlaps_eq, overB_eq, extCmp_eq, shpOf, Try.f6, ↓reduceIte, Nat.reduceAdd, Nat.reduceLT, Nat.reduceEqDiff, Nat.reduceLeDiff, Nat.succ_ne_zero, Nat.zero_ne_one, Nat.one_ne_zero, ne_eq, not_false_eq_true, true_and, and_true, Nat.reduceMul, Nat.reduceSub, Int.reduceToNat, Int.toNat_zero, Int.toNat_one, Nat.zero_mul, Nat.one_mul, Int.reduceLT, Int.reduceLE, Int.le_refl, Int.zero_lt_one, Int.toNat_natCast, List.take_length, Int.cast_ofNat_Int, Int.reduceAdd, Int.reduceSub, Int.reduceBEq, Int.reduceBNe, ge_iff_le, gt_iff_lt, decide_true, decide_false, Int.lt_irrefl, Nat.zero_add, Nat.add_zero]
  refine new_w m (by omega) _ ?_
  simp (maxSteps := 4000000) only [EV, EVF, XV, cond_true, cond_false, Bool.false_eq_true, Bool.true_eq_false, eq_self, normsOf, cutsOf, heapOf, quietOf, drawsOf, drawmOf, opnOf, shutOf, iceOf, extOf, extOverlaps_eq, overB_eq, extCmp_eq, shpOf, Try.f6, ↓reduceIte, Nat.reduceAdd, Nat.reduceLT, Nat.reduceEqDiff, Nat.reduceLeDiff, Nat.succ_ne_zero, Nat.zero_ne_one, Nat.one_ne_zero, ne_eq, not_false_eq_true, true_and, and_true, Nat.reduceMul, Nat.reduceSub, Int.reduceToNat, Int.toNat_zero, Int.toNat_one, Nat.zero_mul, Nat.one_mul, Int.reduceLT, Int.reduceLE, Int.le_refl, Int.zero_lt_one, Int.toNat_natCast, List.take_length, Int.cast_ofNat_Int, Int.reduceAdd, Int.reduceSub, Int.reduceBEq, Int.reduceBNe, ge_iff_le, gt_iff_lt, decide_true, decide_false, Int.lt_irrefl, Nat.zero_add, Nat.add_zero]
  refine new_w m (by omega) _ ?_
  simp (maxSteps := 4000000) only [EV, EVF, XV, cond_true, cond_false, Bool.false_eq_true, Bool.true_eq_false, eq_self, normsOf, cutsOf, heapOf, quietOf, drawsOf, drawmOf, opnOf, shutOf, iceOf, extOf, extOverlaps_eq, overB_eq, extCmp_eq, shpOf, Try.f6, ↓reduceIte, Nat.reduceAdd, Nat.reduceLT, Nat.reduceEqDiff, Nat.reduceLeDiff, Nat.succ_ne_zero, Nat.zero_ne_one, Nat.one_ne_zero, ne_eq, not_false_eq_true, true_and, and_true, Nat.reduceMul, Nat.reduceSub, Int.reduceToNat, Int.toNat_zero, Int.toNat_one, Nat.zero_mul, Nat.one_mul, Int.reduceLT, Int.reduceLE, Int.le_refl, Int.zero_lt_one, Int.toNat_natCast, List.take_length, Int.cast_ofNat_Int, Int.reduceAdd, Int.reduceSub, Int.reduceBEq, Int.reduceBNe, ge_iff_le, gt_iff_lt, decide_true, decide_false, Int.lt_irrefl, Nat.zero_add, Nat.add_zero]
  have hg : ∀ j, j < come.length → come[j]? = some (come.getD j 0) := fun j hj => by
    rw [List.getD_eq_getElem?_getD, List.getElem?_eq_getElem hj]
    rfl
  have hgi : ∀ j, j < come.length → i64ok (come.getD j 0) := fun j hj => hci _ (List.mem_of_getElem? (hg j hj))
  have hpb : ∀ j, j < come.length → 0 ≤ pickN (come.getD j 0) 50 ∧ pickN (come.getD j 0) 50 < 50 := fun j hj => pickN_bd (hgi j hj).1 (hgi j hj).2 (by decide)
  refine loop_at (fun p : Nat × Ses × Ses => ⟨[(0, .lst 1 (come.map iv)), (5, .v (.bool true)), (6, .v (.int .i64 n)), (7, .v (.int .i64 k)), (8, .ptr 0 0), (9, .ptr 1 0), (10, .v (.int .i64 p.1))], [some (.var 24 (sv p.2.1)), some (.var 24 (sv p.2.2))]⟩)
    (fun p => p.1 ≤ n ∧ sright p.2.1 = true ∧ sright p.2.2 = true ∧ p.2.1.next = 1 ∧ p.2.2.next = 1 ∧ (∀ x, came p.2.1 x ↔ x ≤ 0 ∨ ∃ j, j < p.1 ∧ x = 1 + pickN (come.getD j 0) 50) ∧ (∀ x, came p.2.2 x ↔ x ≤ 0 ∨ ∃ j, j < p.1 ∧ x = 1 + pickN (come.getD ((k + j) % n) 0) 50)) (fun p => n - p.1) (0, ⟨1, 0, []⟩, ⟨1, 0, []⟩) ⟨by simp, by decide, by decide, rfl, rfl, fun x => by simp [came], fun x => by simp [came]⟩ rfl ?_
  rintro ⟨i, a, b⟩ ⟨h1, ha, hb', hna, hnb, hca, hcb⟩
  simp only at h1 ha hb' hna hnb hca hcb
  have hla := sright_len ha
  have hlb := sright_len hb'
  by_cases hlt : i < n
  · have q1 : ((i : Int) < (n : Int)) = True := by simp; omega
    have hm1 := map_at (f := iv) (hg i (by omega))
    have hjn : (k + i) % n < n := Nat.mod_lt _ (by omega)
    have hm2 := map_at (f := iv) (hg ((k + i) % n) (by omega))
    simp only [iv] at hm1 hm2
    have w2 : IntKind.i64.wrap ((k : Int) + i) = ((k + i : Nat) : Int) := by rw [wrap64 (by omega) (by omega)]; omega
    have w3 : ((k + i : Nat) : Int).tmod (n : Int) = (((k + i) % n : Nat) : Int) := (Int.ofNat_tmod _ _).symm
    have w4 : IntKind.i64.wrap ((i : Int) + 1) = ((i + 1 : Nat) : Int) := by rw [wrap64 (by omega) (by omega)]; omega
    have p1 := hpb i (by omega)
    have p2 := hpb ((k + i) % n) (by omega)
    have g1 := hgi i (by omega)
    have g2 := hgi ((k + i) % n) (by omega)
    simp (maxSteps := 4000000) only [EV, EVF, XV, cond_true, cond_false, Bool.false_eq_true, Bool.true_eq_false, eq_self, normsOf, cutsOf, heapOf, quietOf, drawsOf, drawmOf, opnOf, shutOf, iceOf, extOf, extOverlaps_eq, overB_eq, extCmp_eq, shpOf, Try.f6, ↓reduceIte, Nat.reduceAdd, Nat.reduceLT, Nat.reduceEqDiff, Nat.reduceLeDiff, Nat.succ_ne_zero, Nat.zero_ne_one, Nat.one_ne_zero, ne_eq, not_false_eq_true, true_and, and_true, Nat.reduceMul, Nat.reduceSub, Int.reduceToNat, Int.toNat_zero, Int.toNat_one, Nat.zero_mul, Nat.one_mul, Int.reduceLT, Int.reduceLE, Int.le_refl, Int.zero_lt_one, Int.toNat_natCast, List.take_length, Int.cast_ofNat_Int, Int.reduceAdd, Int.reduceSub, Int.reduceBEq, Int.reduceBNe, ge_iff_le, gt_iff_lt, decide_true, decide_false, Int.lt_irrefl, Nat.zero_add, Nat.add_zero, q1, hm1, hm2, w2, w3, w4, sv]
    refine pick10_w m (by omega) _ _ (by omega) _ ?_
    have w5 : IntKind.i64.wrap (1 + pickN (come.getD i 0) 50) = 1 + pickN (come.getD i 0) 50 := wrap64 (by omega) (by omega)
    have w6 : IntKind.i64.wrap (1 + pickN (come.getD ((k + i) % n) 0) 50) = 1 + pickN (come.getD ((k + i) % n) 0) 50 := wrap64 (by omega) (by omega)
    simp (maxSteps := 4000000) only [EV, EVF, XV, cond_true, cond_false, Bool.false_eq_true, Bool.true_eq_false, eq_self, normsOf, cutsOf, heapOf, quietOf, drawsOf, drawmOf, opnOf, shutOf, iceOf, extOf, extOverlaps_eq, overB_eq, extCmp_eq, shpOf, Try.f6, ↓reduceIte, Nat.reduceAdd, Nat.reduceLT, Nat.reduceEqDiff, Nat.reduceLeDiff, Nat.succ_ne_zero, Nat.zero_ne_one, Nat.one_ne_zero, ne_eq, not_false_eq_true, true_and, and_true, Nat.reduceMul, Nat.reduceSub, Int.reduceToNat, Int.toNat_zero, Int.toNat_one, Nat.zero_mul, Nat.one_mul, Int.reduceLT, Int.reduceLE, Int.le_refl, Int.zero_lt_one, Int.toNat_natCast, List.take_length, Int.cast_ofNat_Int, Int.reduceAdd, Int.reduceSub, Int.reduceBEq, Int.reduceBNe, ge_iff_le, gt_iff_lt, decide_true, decide_false, Int.lt_irrefl, Nat.zero_add, Nat.add_zero, q1, hm1, hm2, w2, w3, w4, w5, w6, sv]
    refine take_w' m (by omega) a (by omega) _ ⟨by omega, by omega⟩ _ ?_
    obtain ⟨_, _, t1, t2, t3⟩ := take_came (q := 1 + pickN (come.getD i 0) 50) ha (by omega) (by omega) (by have := (sright_iff.1 ha).2.1.1; omega)
    generalize takeS' a (1 + pickN (come.getD i 0) 50) = ra at t1 t2 t3 ⊢
    simp only [TakeR.av, sv]
    simp (maxSteps := 4000000) only [EV, EVF, XV, cond_true, cond_false, Bool.false_eq_true, Bool.true_eq_false, eq_self, normsOf, cutsOf, heapOf, quietOf, drawsOf, drawmOf, opnOf, shutOf, iceOf, extOf, extOverlaps_eq, overB_eq, extCmp_eq, shpOf, Try.f6, ↓reduceIte, Nat.reduceAdd, Nat.reduceLT, Nat.reduceEqDiff, Nat.reduceLeDiff, Nat.succ_ne_zero, Nat.zero_ne_one, Nat.one_ne_zero, ne_eq, not_false_eq_true, true_and, and_true, Nat.reduceMul, Nat.reduceSub, Int.reduceToNat, Int.toNat_zero, Int.toNat_one, Nat.zero_mul, Nat.one_mul, Int.reduceLT, Int.reduceLE, Int.le_refl, Int.zero_lt_one, Int.toNat_natCast, List.take_length, Int.cast_ofNat_Int, Int.reduceAdd, Int.reduceSub, Int.reduceBEq, Int.reduceBNe, ge_iff_le, gt_iff_lt, decide_true, decide_false, Int.lt_irrefl, Nat.zero_add, Nat.add_zero, q1, hm1, hm2, w2, w3, w4, w5, w6, sv]
    refine ⟨by omega, ?_⟩
    simp (maxSteps := 4000000) only [EV, EVF, XV, cond_true, cond_false, Bool.false_eq_true, Bool.true_eq_false, eq_self, normsOf, cutsOf, heapOf, quietOf, drawsOf, drawmOf, opnOf, shutOf, iceOf, extOf, extOverlaps_eq, overB_eq, extCmp_eq, shpOf, Try.f6, ↓reduceIte, Nat.reduceAdd, Nat.reduceLT, Nat.reduceEqDiff, Nat.reduceLeDiff, Nat.succ_ne_zero, Nat.zero_ne_one, Nat.one_ne_zero, ne_eq, not_false_eq_true, true_and, and_true, Nat.reduceMul, Nat.reduceSub, Int.reduceToNat, Int.toNat_zero, Int.toNat_one, Nat.zero_mul, Nat.one_mul, Int.reduceLT, Int.reduceLE, Int.le_refl, Int.zero_lt_one, Int.toNat_natCast, List.take_length, Int.cast_ofNat_Int, Int.reduceAdd, Int.reduceSub, Int.reduceBEq, Int.reduceBNe, ge_iff_le, gt_iff_lt, decide_true, decide_false, Int.lt_irrefl, Nat.zero_add, Nat.add_zero, q1, hm1, hm2, w2, w3, w4, w5, w6, sv]
    refine pick10_w m (by omega) _ _ (by omega) _ ?_
    simp (maxSteps := 4000000) only [EV, EVF, XV, cond_true, cond_false, Bool.false_eq_true, Bool.true_eq_false, eq_self, normsOf, cutsOf, heapOf, quietOf, drawsOf, drawmOf, opnOf, shutOf, iceOf, extOf, extOverlaps_eq, overB_eq, extCmp_eq, shpOf, Try.f6, ↓reduceIte, Nat.reduceAdd, Nat.reduceLT, Nat.reduceEqDiff, Nat.reduceLeDiff, Nat.succ_ne_zero, Nat.zero_ne_one, Nat.one_ne_zero, ne_eq, not_false_eq_true, true_and, and_true, Nat.reduceMul, Nat.reduceSub, Int.reduceToNat, Int.toNat_zero, Int.toNat_one, Nat.zero_mul, Nat.one_mul, Int.reduceLT, Int.reduceLE, Int.le_refl, Int.zero_lt_one, Int.toNat_natCast, List.take_length, Int.cast_ofNat_Int, Int.reduceAdd, Int.reduceSub, Int.reduceBEq, Int.reduceBNe, ge_iff_le, gt_iff_lt, decide_true, decide_false, Int.lt_irrefl, Nat.zero_add, Nat.add_zero, q1, hm1, hm2, w2, w3, w4, w5, w6, sv]
    refine take_w' m (by omega) b (by omega) _ ⟨by omega, by omega⟩ _ ?_
    obtain ⟨_, _, t4, t5, t6⟩ := take_came (q := 1 + pickN (come.getD ((k + i) % n) 0) 50) hb' (by omega) (by omega) (by have := (sright_iff.1 hb').2.1.1; omega)
    generalize takeS' b (1 + pickN (come.getD ((k + i) % n) 0) 50) = rb at t4 t5 t6 ⊢
    simp only [TakeR.av, sv]
    simp (maxSteps := 4000000) only [EV, EVF, XV, cond_true, cond_false, Bool.false_eq_true, Bool.true_eq_false, eq_self, normsOf, cutsOf, heapOf, quietOf, drawsOf, drawmOf, opnOf, shutOf, iceOf, extOf, extOverlaps_eq, overB_eq, extCmp_eq, shpOf, Try.f6, ↓reduceIte, Nat.reduceAdd, Nat.reduceLT, Nat.reduceEqDiff, Nat.reduceLeDiff, Nat.succ_ne_zero, Nat.zero_ne_one, Nat.one_ne_zero, ne_eq, not_false_eq_true, true_and, and_true, Nat.reduceMul, Nat.reduceSub, Int.reduceToNat, Int.toNat_zero, Int.toNat_one, Nat.zero_mul, Nat.one_mul, Int.reduceLT, Int.reduceLE, Int.le_refl, Int.zero_lt_one, Int.toNat_natCast, List.take_length, Int.cast_ofNat_Int, Int.reduceAdd, Int.reduceSub, Int.reduceBEq, Int.reduceBNe, ge_iff_le, gt_iff_lt, decide_true, decide_false, Int.lt_irrefl, Nat.zero_add, Nat.add_zero, q1, hm1, hm2, w2, w3, w4, w5, w6, sv]
    have ext : ∀ (F : Nat → Int) (x : Int), ((x ≤ 0 ∨ ∃ j, j < i ∧ x = F j) ∨ x = F i) ↔ (x ≤ 0 ∨ ∃ j, j < i + 1 ∧ x = F j) := fun F x => by
      constructor
      · rintro ((h | ⟨j, h, rfl⟩) | rfl)
        · exact .inl h
        · exact .inr ⟨j, by omega, rfl⟩
        · exact .inr ⟨i, by omega, rfl⟩
      · rintro (h | ⟨j, h, rfl⟩)
        · exact .inl (.inl h)
        · by_cases hj : j = i
          · subst hj
            exact .inr rfl
          · exact .inl (.inr ⟨j, by omega, rfl⟩)
    exact ⟨(i + 1, ra.s, rb.s), ⟨by simp only; omega, t1, t4, by rw [t2]; exact hna, by rw [t5]; exact hnb, fun x => by rw [t3, hca]; exact ext (fun j => 1 + pickN (come.getD j 0) 50) x, fun x => by rw [t6, hcb]; exact ext (fun j => 1 + pickN (come.getD ((k + j) % n) 0) 50) x⟩, by simp only; omega, rfl⟩
  · have hie : i = n := by omega
    subst hie
    have hab : a = b := same_came ha hb' (by rw [hna, hnb]) fun x => by
      rw [hca, hcb]
      constructor
      · rintro (h | ⟨j, hj, rfl⟩)
        · exact .inl h
        · refine .inr ?_
          by_cases hjk : k ≤ j
          · refine ⟨j - k, by omega, ?_⟩
            rw [show k + (j - k) = j by omega, Nat.mod_eq_of_lt hj]
          · refine ⟨j + i - k, by omega, ?_⟩
            rw [show k + (j + i - k) = j + i by omega, Nat.add_mod_right, Nat.mod_eq_of_lt hj]
      · rintro (h | ⟨j, hj, rfl⟩)
        · exact .inl h
        · exact .inr ⟨(k + j) % i, Nat.mod_lt _ (by omega), rfl⟩
    have q1 : ((i : Int) < (i : Int)) = False := by simp
    simp (maxSteps := 4000000) only [EV, EVF, XV, cond_true, cond_false, Bool.false_eq_true, Bool.true_eq_false, eq_self, normsOf, cutsOf, heapOf, quietOf, drawsOf, drawmOf, opnOf, shutOf, iceOf, extOf, extOverlaps_eq, overB_eq, extCmp_eq, shpOf, Try.f6, ↓reduceIte, Nat.reduceAdd, Nat.reduceLT, Nat.reduceEqDiff, Nat.reduceLeDiff, Nat.succ_ne_zero, Nat.zero_ne_one, Nat.one_ne_zero, ne_eq, not_false_eq_true, true_and, and_true, Nat.reduceMul, Nat.reduceSub, Int.reduceToNat, Int.toNat_zero, Int.toNat_one, Nat.zero_mul, Nat.one_mul, Int.reduceLT, Int.reduceLE, Int.le_refl, Int.zero_lt_one, Int.toNat_natCast, List.take_length, Int.cast_ofNat_Int, Int.reduceAdd, Int.reduceSub, Int.reduceBEq, Int.reduceBNe, ge_iff_le, gt_iff_lt, decide_true, decide_false, Int.lt_irrefl, Nat.zero_add, Nat.add_zero, q1, sv]
    refine same10_w m (by omega) a b (by omega) _ fun H => ?_
    rw [decide_eq_true hab]
    simp (maxSteps := 4000000) only [EV, EVF, XV, cond_true, cond_false, Bool.false_eq_true, Bool.true_eq_false, eq_self, normsOf, cutsOf, heapOf, quietOf, drawsOf, drawmOf, opnOf, shutOf, iceOf, extOf, extOverlaps_eq, overB_eq, extCmp_eq, shpOf, Try.f6, ↓reduceIte, Nat.reduceAdd, Nat.reduceLT, Nat.reduceEqDiff, Nat.reduceLeDiff, Nat.succ_ne_zero, Nat.zero_ne_one, Nat.one_ne_zero, ne_eq, not_false_eq_true, true_and, and_true, Nat.reduceMul, Nat.reduceSub, Int.reduceToNat, Int.toNat_zero, Int.toNat_one, Nat.zero_mul, Nat.one_mul, Int.reduceLT, Int.reduceLE, Int.le_refl, Int.zero_lt_one, Int.toNat_natCast, List.take_length, Int.cast_ofNat_Int, Int.reduceAdd, Int.reduceSub, Int.reduceBEq, Int.reduceBNe, ge_iff_le, gt_iff_lt, decide_true, decide_false, Int.lt_irrefl, Nat.zero_add, Nat.add_zero, q1, sv]
    refine sright_w m (by omega) a (by omega) _ fun H => ?_
    rw [ha]
    simp (maxSteps := 4000000) only [EV, EVF, XV, cond_true, cond_false, Bool.false_eq_true, Bool.true_eq_false, eq_self, normsOf, cutsOf, heapOf, quietOf, drawsOf, drawmOf, opnOf, shutOf, iceOf, extOf, extOverlaps_eq, overB_eq, extCmp_eq, shpOf, Try.f6, ↓reduceIte, Nat.reduceAdd, Nat.reduceLT, Nat.reduceEqDiff, Nat.reduceLeDiff, Nat.succ_ne_zero, Nat.zero_ne_one, Nat.one_ne_zero, ne_eq, not_false_eq_true, true_and, and_true, Nat.reduceMul, Nat.reduceSub, Int.reduceToNat, Int.toNat_zero, Int.toNat_one, Nat.zero_mul, Nat.one_mul, Int.reduceLT, Int.reduceLE, Int.le_refl, Int.zero_lt_one, Int.toNat_natCast, List.take_length, Int.cast_ofNat_Int, Int.reduceAdd, Int.reduceSub, Int.reduceBEq, Int.reduceBNe, ge_iff_le, gt_iff_lt, decide_true, decide_false, Int.lt_irrefl, Nat.zero_add, Nat.add_zero, q1, sv]
end Go.Ai

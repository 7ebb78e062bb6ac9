/- ReplyOrder: the machine's word. -/
import Derived.Test.YtinklhniabhaiaaRep6
import Derived.Test.YtinklhniabhaiaaRep11
set_option linter.unusedVariables false
set_option linter.unusedSimpArgs false
set_option maxRecDepth 100000
set_option maxHeartbeats 4000000
namespace Go.Ai
open Go.Proofs
theorem new_keep {l : List Dn} {c i : Int} {r : Rep} (hr : rightD l = true) (hl : ∀ d, findD l c = some d → d.id ≤ 20) (hc : 1 ≤ c ∧ c ≤ 10) (hi : 20 < i ∧ i ≤ 1000) (hm : MayP r) (h8 : ¬ (findD l c = none ∧ 8 ≤ l.length)) : keepS l c i r = ⟨insD ⟨c, i, r⟩ l, 0⟩ ∧ rightD (insD ⟨c, i, r⟩ l) = true :=
  keep_ok hr ⟨by omega, by omega, by omega, by omega⟩ hm (fun d h => by have := hl d h; omega) h8
theorem cache_id {l : List Dn} (h : CacheP l) {c : Int} : ∀ d, findD l c = some d → d.id ≤ 20 := fun d hd => h.2 d (List.mem_of_find?_eq_some hd)
theorem two_keep {l : List Dn} {a b i j : Int} {r s : Rep} (h : CacheP l) (hl : l.length ≤ 6) (ha : 1 ≤ a ∧ a ≤ 10) (hb : 1 ≤ b ∧ b ≤ 10) (hab : ¬ a = b) (hi : 20 < i ∧ i ≤ 1000) (hj : 20 < j ∧ j ≤ 1000) (hr : MayP r) (hs : MayP s) :
    keepS l a i r = ⟨insD ⟨a, i, r⟩ l, 0⟩ ∧ rightD (insD ⟨a, i, r⟩ l) = true ∧ keepS (insD ⟨a, i, r⟩ l) b j s = ⟨insD ⟨b, j, s⟩ (insD ⟨a, i, r⟩ l), 0⟩ ∧ rightD (insD ⟨b, j, s⟩ (insD ⟨a, i, r⟩ l)) = true := by
  have h1 := new_keep (r := r) h.1 (cache_id h) ha hi hr (by rintro ⟨_, h8⟩; omega)
  have hlen : (insD ⟨a, i, r⟩ l).length ≤ 7 := by
    have := ins_lens (d := ⟨a, i, r⟩) h.1
    simp only at this
    cases hf : findD l a with
    | none =>
      have := this.1 hf
      omega
    | some d =>
      have := this.2 (by rw [hf]; rfl)
      omega
  have h2 := new_keep (l := insD ⟨a, i, r⟩ l) (c := b) (i := j) (r := s) h1.2 (fun d hd => by
    rw [ins_find, if_neg hab] at hd
    exact cache_id h d hd) hb hj hs (by rintro ⟨_, h8⟩; omega)
  exact ⟨h1.1, h1.2, h2.1, h2.2⟩
theorem rorder_law (m : Nat) (hm : 20 ≤ m) (raw : List R5) (hrl : raw.length * 40 ≤ 140737488351232) (hr : ∀ x ∈ raw, r5k x) (one : Int) (hone : i64ok one) (two : Int) (htwo : i64ok two) (w : R3) (hw : r3k w) : wpF C m 4 [.lst 5 (raw.map r5w), .v (.int .i64 one), .v (.int .i64 two), .agg (r3w w)] [] fun r _ => r = .v (.bool true) := by
  have hcw := fun (m : Nat) (hm : 6 ≤ m) K => cache_w m hm raw hrl hr K
  have hC := cache_ok hr
  generalize cacheS raw = l at hcw hC
  have hok := right_ok hC.1
  have hl8 := right_len hC.1
  have b1 := pickN_bd hone.1 hone.2 (show (0:Int) < 10 by decide)
  have b2 := pickN_bd htwo.1 htwo.2 (show (0:Int) < 10 by decide)
  have wa : IntKind.i64.wrap (1 + pickN one 10) = 1 + pickN one 10 := wrap64 (by omega) (by omega)
  have wb : IntKind.i64.wrap (1 + pickN two 10) = 1 + pickN two 10 := wrap64 (by omega) (by omega)
  obtain ⟨a, ha⟩ : ∃ a, 1 + pickN one 10 = a := ⟨_, rfl⟩
  obtain ⟨b, hb⟩ : ∃ b, 1 + pickN two 10 = b := ⟨_, rfl⟩
  rw [ha] at wa
  rw [hb] at wb
  have hab1 : 1 ≤ a ∧ a ≤ 10 := by omega
  have hbb1 : 1 ≤ b ∧ b ≤ 10 := by omega
  have hans := fun (m : Nat) (hm : 2 ≤ m) K => answer_w m hm w hw K
  have hmay := answer_may hw
  generalize answerS w = x at hans hmay
  have hm2 : MayP (repr 2) := by decide
  have hxk : x.keys.length ≤ 1000000000000 := by have := hmay.2.2.2.2.2.1; omega
  unfold r3w at hans ⊢
  obtain ⟨m, rfl⟩ : ∃ j, m = j + 1 := ⟨m - 1, by omega⟩; simp only [wpF, bodyA, fn_4, C_P, ok_4, C_prim, primOf, true_and]; simp (maxSteps := 4000000) only [EV, EVF, XV, cond_true, cond_false, Bool.false_eq_true, Bool.true_eq_false, eq_self, normsOf, cutsOf, heapOf, quietOf, drawsOf, drawmOf, drawfOf, opnOf, coldOf, shutOf, iceOf, extOf, extOverlaps_eq, overB_eq, extCmp_eq, shpOf, Try.f4, ↓reduceIte, Nat.reduceAdd, Nat.reduceLT, Nat.reduceEqDiff, Nat.reduceLeDiff, Nat.succ_ne_zero, Nat.zero_ne_one, Nat.one_ne_zero, ne_eq, not_false_eq_true, true_and, and_true, Nat.reduceMul, Nat.reduceSub, Int.reduceToNat, Int.toNat_zero, Int.toNat_one, Nat.zero_mul, Nat.one_mul, Int.reduceLT, Int.reduceLE, Int.le_refl, Int.zero_lt_one, Int.toNat_natCast, List.take_length, Int.cast_ofNat_Int, Int.reduceAdd, Int.reduceSub, Int.reduceBEq, Int.reduceBNe, ge_iff_le, gt_iff_lt, decide_true, decide_false, Int.lt_irrefl, Nat.zero_add, Nat.add_zero]
  refine awake13_w m (by omega) _ fun H => ?_
  simp (maxSteps := 4000000) only [EV, EVF, XV, cond_true, cond_false, Bool.false_eq_true, Bool.true_eq_false, eq_self, normsOf, cutsOf, heapOf, quietOf, drawsOf, drawmOf, drawfOf, opnOf, coldOf, shutOf, iceOf, extOf, extOverlaps_eq, overB_eq, extCmp_eq, shpOf, Try.f4, ↓reduceIte, Nat.reduceAdd, Nat.reduceLT, Nat.reduceEqDiff, Nat.reduceLeDiff, Nat.succ_ne_zero, Nat.zero_ne_one, Nat.one_ne_zero, ne_eq, not_false_eq_true, true_and, and_true, Nat.reduceMul, Nat.reduceSub, Int.reduceToNat, Int.toNat_zero, Int.toNat_one, Nat.zero_mul, Nat.one_mul, Int.reduceLT, Int.reduceLE, Int.le_refl, Int.zero_lt_one, Int.toNat_natCast, List.take_length, Int.cast_ofNat_Int, Int.reduceAdd, Int.reduceSub, Int.reduceBEq, Int.reduceBNe, ge_iff_le, gt_iff_lt, decide_true, decide_false, Int.lt_irrefl, Nat.zero_add, Nat.add_zero]
  refine hcw m (by omega) _ fun H => ?_
  simp (maxSteps := 4000000) only [EV, EVF, XV, cond_true, cond_false, Bool.false_eq_true, Bool.true_eq_false, eq_self, normsOf, cutsOf, heapOf, quietOf, drawsOf, drawmOf, drawfOf, opnOf, coldOf, shutOf, iceOf, extOf, extOverlaps_eq, overB_eq, extCmp_eq, shpOf, Try.f4, ↓reduceIte, Nat.reduceAdd, Nat.reduceLT, Nat.reduceEqDiff, Nat.reduceLeDiff, Nat.succ_ne_zero, Nat.zero_ne_one, Nat.one_ne_zero, ne_eq, not_false_eq_true, true_and, and_true, Nat.reduceMul, Nat.reduceSub, Int.reduceToNat, Int.toNat_zero, Int.toNat_one, Nat.zero_mul, Nat.one_mul, Int.reduceLT, Int.reduceLE, Int.le_refl, Int.zero_lt_one, Int.toNat_natCast, List.take_length, Int.cast_ofNat_Int, Int.reduceAdd, Int.reduceSub, Int.reduceBEq, Int.reduceBNe, ge_iff_le, gt_iff_lt, decide_true, decide_false, Int.lt_irrefl, Nat.zero_add, Nat.add_zero]
  refine pick13_w m (by omega) _ _ (by omega) _ ?_
  simp (maxSteps := 4000000) only [EV, EVF, XV, cond_true, cond_false, Bool.false_eq_true, Bool.true_eq_false, eq_self, normsOf, cutsOf, heapOf, quietOf, drawsOf, drawmOf, drawfOf, opnOf, coldOf, shutOf, iceOf, extOf, extOverlaps_eq, overB_eq, extCmp_eq, shpOf, Try.f4, ↓reduceIte, Nat.reduceAdd, Nat.reduceLT, Nat.reduceEqDiff, Nat.reduceLeDiff, Nat.succ_ne_zero, Nat.zero_ne_one, Nat.one_ne_zero, ne_eq, not_false_eq_true, true_and, and_true, Nat.reduceMul, Nat.reduceSub, Int.reduceToNat, Int.toNat_zero, Int.toNat_one, Nat.zero_mul, Nat.one_mul, Int.reduceLT, Int.reduceLE, Int.le_refl, Int.zero_lt_one, Int.toNat_natCast, List.take_length, Int.cast_ofNat_Int, Int.reduceAdd, Int.reduceSub, Int.reduceBEq, Int.reduceBNe, ge_iff_le, gt_iff_lt, decide_true, decide_false, Int.lt_irrefl, Nat.zero_add, Nat.add_zero, ha, wa]
  refine pick13_w m (by omega) _ _ (by omega) _ ?_
  simp (maxSteps := 4000000) only [EV, EVF, XV, cond_true, cond_false, Bool.false_eq_true, Bool.true_eq_false, eq_self, normsOf, cutsOf, heapOf, quietOf, drawsOf, drawmOf, drawfOf, opnOf, coldOf, shutOf, iceOf, extOf, extOverlaps_eq, overB_eq, extCmp_eq, shpOf, Try.f4, ↓reduceIte, Nat.reduceAdd, Nat.reduceLT, Nat.reduceEqDiff, Nat.reduceLeDiff, Nat.succ_ne_zero, Nat.zero_ne_one, Nat.one_ne_zero, ne_eq, not_false_eq_true, true_and, and_true, Nat.reduceMul, Nat.reduceSub, Int.reduceToNat, Int.toNat_zero, Int.toNat_one, Nat.zero_mul, Nat.one_mul, Int.reduceLT, Int.reduceLE, Int.le_refl, Int.zero_lt_one, Int.toNat_natCast, List.take_length, Int.cast_ofNat_Int, Int.reduceAdd, Int.reduceSub, Int.reduceBEq, Int.reduceBNe, ge_iff_le, gt_iff_lt, decide_true, decide_false, Int.lt_irrefl, Nat.zero_add, Nat.add_zero, hb, wb]
  refine IF_beq (fun hab => ?_) (fun hab => ?_)
  · simp (maxSteps := 4000000) only [EV, EVF, XV, cond_true, cond_false, Bool.false_eq_true, Bool.true_eq_false, eq_self, normsOf, cutsOf, heapOf, quietOf, drawsOf, drawmOf, drawfOf, opnOf, coldOf, shutOf, iceOf, extOf, extOverlaps_eq, overB_eq, extCmp_eq, shpOf, Try.f4, ↓reduceIte, Nat.reduceAdd, Nat.reduceLT, Nat.reduceEqDiff, Nat.reduceLeDiff, Nat.succ_ne_zero, Nat.zero_ne_one, Nat.one_ne_zero, ne_eq, not_false_eq_true, true_and, and_true, Nat.reduceMul, Nat.reduceSub, Int.reduceToNat, Int.toNat_zero, Int.toNat_one, Nat.zero_mul, Nat.one_mul, Int.reduceLT, Int.reduceLE, Int.le_refl, Int.zero_lt_one, Int.toNat_natCast, List.take_length, Int.cast_ofNat_Int, Int.reduceAdd, Int.reduceSub, Int.reduceBEq, Int.reduceBNe, ge_iff_le, gt_iff_lt, decide_true, decide_false, Int.lt_irrefl, Nat.zero_add, Nat.add_zero]
  simp (maxSteps := 4000000) only [EV, EVF, XV, cond_true, cond_false, Bool.false_eq_true, Bool.true_eq_false, eq_self, normsOf, cutsOf, heapOf, quietOf, drawsOf, drawmOf, drawfOf, opnOf, coldOf, shutOf, iceOf, extOf, extOverlaps_eq, overB_eq, extCmp_eq, shpOf, Try.f4, ↓reduceIte, Nat.reduceAdd, Nat.reduceLT, Nat.reduceEqDiff, Nat.reduceLeDiff, Nat.succ_ne_zero, Nat.zero_ne_one, Nat.one_ne_zero, ne_eq, not_false_eq_true, true_and, and_true, Nat.reduceMul, Nat.reduceSub, Int.reduceToNat, Int.toNat_zero, Int.toNat_one, Nat.zero_mul, Nat.one_mul, Int.reduceLT, Int.reduceLE, Int.le_refl, Int.zero_lt_one, Int.toNat_natCast, List.take_length, Int.cast_ofNat_Int, Int.reduceAdd, Int.reduceSub, Int.reduceBEq, Int.reduceBNe, ge_iff_le, gt_iff_lt, decide_true, decide_false, Int.lt_irrefl, Nat.zero_add, Nat.add_zero]
  refine IF_dec (fun h6 => ?_) (fun h6 => ?_)
  · simp (maxSteps := 4000000) only [EV, EVF, XV, cond_true, cond_false, Bool.false_eq_true, Bool.true_eq_false, eq_self, normsOf, cutsOf, heapOf, quietOf, drawsOf, drawmOf, drawfOf, opnOf, coldOf, shutOf, iceOf, extOf, extOverlaps_eq, overB_eq, extCmp_eq, shpOf, Try.f4, ↓reduceIte, Nat.reduceAdd, Nat.reduceLT, Nat.reduceEqDiff, Nat.reduceLeDiff, Nat.succ_ne_zero, Nat.zero_ne_one, Nat.one_ne_zero, ne_eq, not_false_eq_true, true_and, and_true, Nat.reduceMul, Nat.reduceSub, Int.reduceToNat, Int.toNat_zero, Int.toNat_one, Nat.zero_mul, Nat.one_mul, Int.reduceLT, Int.reduceLE, Int.le_refl, Int.zero_lt_one, Int.toNat_natCast, List.take_length, Int.cast_ofNat_Int, Int.reduceAdd, Int.reduceSub, Int.reduceBEq, Int.reduceBNe, ge_iff_le, gt_iff_lt, decide_true, decide_false, Int.lt_irrefl, Nat.zero_add, Nat.add_zero]
  obtain ⟨t1, r1, t2, r2⟩ := two_keep (i := 50) (j := 60) hC (by omega) hab1 hbb1 hab (by omega) (by omega) hmay hm2
  obtain ⟨t3, r3, t4, r4⟩ := two_keep (i := 60) (j := 50) hC (by omega) hbb1 hab1 (fun h => hab h.symm) (by omega) (by omega) hm2 hmay
  have hcm := ins_comm (x := ⟨a, 50, x⟩) (y := ⟨b, 60, repr 2⟩) hab (l := l)
  have k1 := fun (m : Nat) (hm : 11 ≤ m) K => keep_w m hm l hok a 50 x hxk K
  have k2 := fun (m : Nat) (hm : 11 ≤ m) K => keep_w m hm _ (right_ok r1) b 60 (repr 2) (by simp [repr]) K
  have k3 := fun (m : Nat) (hm : 11 ≤ m) K => keep_w m hm l hok b 60 (repr 2) (by simp [repr]) K
  have k4 := fun (m : Nat) (hm : 11 ≤ m) K => keep_w m hm _ (right_ok r3) a 50 x hxk K
  have ks := fun (m : Nat) (hm : 2 ≤ m) K => rsameall_w m hm _ (insD ⟨a, 50, x⟩ (insD ⟨b, 60, repr 2⟩ l)) (right_ok r2) K
  rw [t1] at k1
  rw [t2] at k2
  rw [t3] at k3
  rw [t4] at k4
  rw [decide_eq_true hcm.symm] at ks
  generalize insD ⟨b, 60, repr 2⟩ (insD ⟨a, 50, x⟩ l) = AB at k2 ks
  generalize insD ⟨a, 50, x⟩ (insD ⟨b, 60, repr 2⟩ l) = BA at k4 ks
  generalize insD ⟨a, 50, x⟩ l = A at k1 k2
  generalize insD ⟨b, 60, repr 2⟩ l = B at k3 k4
  unfold repv at hans k1 k4
  unfold repv repr at k2 k3
  unfold KeepR.av at k1 k2 k3 k4
  simp only [List.map_nil] at k1 k2 k3 k4
  simp (maxSteps := 4000000) only [EV, EVF, XV, cond_true, cond_false, Bool.false_eq_true, Bool.true_eq_false, eq_self, normsOf, cutsOf, heapOf, quietOf, drawsOf, drawmOf, drawfOf, opnOf, coldOf, shutOf, iceOf, extOf, extOverlaps_eq, overB_eq, extCmp_eq, shpOf, Try.f4, ↓reduceIte, Nat.reduceAdd, Nat.reduceLT, Nat.reduceEqDiff, Nat.reduceLeDiff, Nat.succ_ne_zero, Nat.zero_ne_one, Nat.one_ne_zero, ne_eq, not_false_eq_true, true_and, and_true, Nat.reduceMul, Nat.reduceSub, Int.reduceToNat, Int.toNat_zero, Int.toNat_one, Nat.zero_mul, Nat.one_mul, Int.reduceLT, Int.reduceLE, Int.le_refl, Int.zero_lt_one, Int.toNat_natCast, List.take_length, Int.cast_ofNat_Int, Int.reduceAdd, Int.reduceSub, Int.reduceBEq, Int.reduceBNe, ge_iff_le, gt_iff_lt, decide_true, decide_false, Int.lt_irrefl, Nat.zero_add, Nat.add_zero]
  refine hans m (by omega) _ fun H => ?_
  simp (maxSteps := 4000000) only [EV, EVF, XV, cond_true, cond_false, Bool.false_eq_true, Bool.true_eq_false, eq_self, normsOf, cutsOf, heapOf, quietOf, drawsOf, drawmOf, drawfOf, opnOf, coldOf, shutOf, iceOf, extOf, extOverlaps_eq, overB_eq, extCmp_eq, shpOf, Try.f4, ↓reduceIte, Nat.reduceAdd, Nat.reduceLT, Nat.reduceEqDiff, Nat.reduceLeDiff, Nat.succ_ne_zero, Nat.zero_ne_one, Nat.one_ne_zero, ne_eq, not_false_eq_true, true_and, and_true, Nat.reduceMul, Nat.reduceSub, Int.reduceToNat, Int.toNat_zero, Int.toNat_one, Nat.zero_mul, Nat.one_mul, Int.reduceLT, Int.reduceLE, Int.le_refl, Int.zero_lt_one, Int.toNat_natCast, List.take_length, Int.cast_ofNat_Int, Int.reduceAdd, Int.reduceSub, Int.reduceBEq, Int.reduceBNe, ge_iff_le, gt_iff_lt, decide_true, decide_false, Int.lt_irrefl, Nat.zero_add, Nat.add_zero]
  refine k1 m (by omega) _ fun H => ?_
  simp (maxSteps := 4000000) only [EV, EVF, XV, cond_true, cond_false, Bool.false_eq_true, Bool.true_eq_false, eq_self, normsOf, cutsOf, heapOf, quietOf, drawsOf, drawmOf, drawfOf, opnOf, coldOf, shutOf, iceOf, extOf, extOverlaps_eq, overB_eq, extCmp_eq, shpOf, Try.f4, ↓reduceIte, Nat.reduceAdd, Nat.reduceLT, Nat.reduceEqDiff, Nat.reduceLeDiff, Nat.succ_ne_zero, Nat.zero_ne_one, Nat.one_ne_zero, ne_eq, not_false_eq_true, true_and, and_true, Nat.reduceMul, Nat.reduceSub, Int.reduceToNat, Int.toNat_zero, Int.toNat_one, Nat.zero_mul, Nat.one_mul, Int.reduceLT, Int.reduceLE, Int.le_refl, Int.zero_lt_one, Int.toNat_natCast, List.take_length, Int.cast_ofNat_Int, Int.reduceAdd, Int.reduceSub, Int.reduceBEq, Int.reduceBNe, ge_iff_le, gt_iff_lt, decide_true, decide_false, Int.lt_irrefl, Nat.zero_add, Nat.add_zero]
  refine k2 m (by omega) _ fun H => ?_
  simp (maxSteps := 4000000) only [EV, EVF, XV, cond_true, cond_false, Bool.false_eq_true, Bool.true_eq_false, eq_self, normsOf, cutsOf, heapOf, quietOf, drawsOf, drawmOf, drawfOf, opnOf, coldOf, shutOf, iceOf, extOf, extOverlaps_eq, overB_eq, extCmp_eq, shpOf, Try.f4, ↓reduceIte, Nat.reduceAdd, Nat.reduceLT, Nat.reduceEqDiff, Nat.reduceLeDiff, Nat.succ_ne_zero, Nat.zero_ne_one, Nat.one_ne_zero, ne_eq, not_false_eq_true, true_and, and_true, Nat.reduceMul, Nat.reduceSub, Int.reduceToNat, Int.toNat_zero, Int.toNat_one, Nat.zero_mul, Nat.one_mul, Int.reduceLT, Int.reduceLE, Int.le_refl, Int.zero_lt_one, Int.toNat_natCast, List.take_length, Int.cast_ofNat_Int, Int.reduceAdd, Int.reduceSub, Int.reduceBEq, Int.reduceBNe, ge_iff_le, gt_iff_lt, decide_true, decide_false, Int.lt_irrefl, Nat.zero_add, Nat.add_zero]
  refine k3 m (by omega) _ fun H => ?_
  simp (maxSteps := 4000000) only [EV, EVF, XV, cond_true, cond_false, Bool.false_eq_true, Bool.true_eq_false, eq_self, normsOf, cutsOf, heapOf, quietOf, drawsOf, drawmOf, drawfOf, opnOf, coldOf, shutOf, iceOf, extOf, extOverlaps_eq, overB_eq, extCmp_eq, shpOf, Try.f4, ↓reduceIte, Nat.reduceAdd, Nat.reduceLT, Nat.reduceEqDiff, Nat.reduceLeDiff, Nat.succ_ne_zero, Nat.zero_ne_one, Nat.one_ne_zero, ne_eq, not_false_eq_true, true_and, and_true, Nat.reduceMul, Nat.reduceSub, Int.reduceToNat, Int.toNat_zero, Int.toNat_one, Nat.zero_mul, Nat.one_mul, Int.reduceLT, Int.reduceLE, Int.le_refl, Int.zero_lt_one, Int.toNat_natCast, List.take_length, Int.cast_ofNat_Int, Int.reduceAdd, Int.reduceSub, Int.reduceBEq, Int.reduceBNe, ge_iff_le, gt_iff_lt, decide_true, decide_false, Int.lt_irrefl, Nat.zero_add, Nat.add_zero]
  refine hans m (by omega) _ fun H => ?_
  simp (maxSteps := 4000000) only [EV, EVF, XV, cond_true, cond_false, Bool.false_eq_true, Bool.true_eq_false, eq_self, normsOf, cutsOf, heapOf, quietOf, drawsOf, drawmOf, drawfOf, opnOf, coldOf, shutOf, iceOf, extOf, extOverlaps_eq, overB_eq, extCmp_eq, shpOf, Try.f4, ↓reduceIte, Nat.reduceAdd, Nat.reduceLT, Nat.reduceEqDiff, Nat.reduceLeDiff, Nat.succ_ne_zero, Nat.zero_ne_one, Nat.one_ne_zero, ne_eq, not_false_eq_true, true_and, and_true, Nat.reduceMul, Nat.reduceSub, Int.reduceToNat, Int.toNat_zero, Int.toNat_one, Nat.zero_mul, Nat.one_mul, Int.reduceLT, Int.reduceLE, Int.le_refl, Int.zero_lt_one, Int.toNat_natCast, List.take_length, Int.cast_ofNat_Int, Int.reduceAdd, Int.reduceSub, Int.reduceBEq, Int.reduceBNe, ge_iff_le, gt_iff_lt, decide_true, decide_false, Int.lt_irrefl, Nat.zero_add, Nat.add_zero]
  refine k4 m (by omega) _ fun H => ?_
  simp (maxSteps := 4000000) only [EV, EVF, XV, cond_true, cond_false, Bool.false_eq_true, Bool.true_eq_false, eq_self, normsOf, cutsOf, heapOf, quietOf, drawsOf, drawmOf, drawfOf, opnOf, coldOf, shutOf, iceOf, extOf, extOverlaps_eq, overB_eq, extCmp_eq, shpOf, Try.f4, ↓reduceIte, Nat.reduceAdd, Nat.reduceLT, Nat.reduceEqDiff, Nat.reduceLeDiff, Nat.succ_ne_zero, Nat.zero_ne_one, Nat.one_ne_zero, ne_eq, not_false_eq_true, true_and, and_true, Nat.reduceMul, Nat.reduceSub, Int.reduceToNat, Int.toNat_zero, Int.toNat_one, Nat.zero_mul, Nat.one_mul, Int.reduceLT, Int.reduceLE, Int.le_refl, Int.zero_lt_one, Int.toNat_natCast, List.take_length, Int.cast_ofNat_Int, Int.reduceAdd, Int.reduceSub, Int.reduceBEq, Int.reduceBNe, ge_iff_le, gt_iff_lt, decide_true, decide_false, Int.lt_irrefl, Nat.zero_add, Nat.add_zero, beq_self_eq_true]
  refine ks m (by omega) _ fun H => ?_
  simp (maxSteps := 4000000) only [EV, EVF, XV, cond_true, cond_false, Bool.false_eq_true, Bool.true_eq_false, eq_self, normsOf, cutsOf, heapOf, quietOf, drawsOf, drawmOf, drawfOf, opnOf, coldOf, shutOf, iceOf, extOf, extOverlaps_eq, overB_eq, extCmp_eq, shpOf, Try.f4, ↓reduceIte, Nat.reduceAdd, Nat.reduceLT, Nat.reduceEqDiff, Nat.reduceLeDiff, Nat.succ_ne_zero, Nat.zero_ne_one, Nat.one_ne_zero, ne_eq, not_false_eq_true, true_and, and_true, Nat.reduceMul, Nat.reduceSub, Int.reduceToNat, Int.toNat_zero, Int.toNat_one, Nat.zero_mul, Nat.one_mul, Int.reduceLT, Int.reduceLE, Int.le_refl, Int.zero_lt_one, Int.toNat_natCast, List.take_length, Int.cast_ofNat_Int, Int.reduceAdd, Int.reduceSub, Int.reduceBEq, Int.reduceBNe, ge_iff_le, gt_iff_lt, decide_true, decide_false, Int.lt_irrefl, Nat.zero_add, Nat.add_zero, beq_self_eq_true]
end Go.Ai

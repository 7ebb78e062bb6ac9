/- The law's own helpers, walked: pick, Fields. -/
import Derived.Test.YtejoagfpklpafaaFieldS
import Derived.Test.YtejoagfpklpafaaAiFacts
set_option linter.unusedVariables false
set_option linter.unusedSimpArgs false
set_option maxRecDepth 100000
set_option maxHeartbeats 4000000
namespace Go.Ai
open Go.Proofs
theorem pick_w (m : Nat) (hm : 1 ≤ m) (c n : Int) (hn : n ≠ 0) (K : AV → Hp → Prop) (hK : K (.v (.int .i64 (pickN c n))) []) : wpF C m 46 [.v (.int .i64 c), .v (.int .i64 n)] [] K := by
  unfold pickN at hK
  obtain ⟨m, rfl⟩ : ∃ j, m = j + 1 := ⟨m - 1, by omega⟩; simp only [wpF, bodyA, fn_46, C_P, ok_46, C_prim, primOf, true_and]; simp (maxSteps := 4000000) only [EV, EVF, XV, cond_true, cond_false, Bool.false_eq_true, Bool.true_eq_false, eq_self, normsOf, cutsOf, heapOf, quietOf, drawsOf, drawmOf, drawfOf, opnOf, coldOf, shutOf, iceOf, extOf, extOverlaps_eq, overB_eq, extCmp_eq, shpOf, Try.f46, ↓reduceIte, Nat.reduceAdd, Nat.reduceLT, Nat.reduceEqDiff, Nat.reduceLeDiff, Nat.succ_ne_zero, Nat.zero_ne_one, Nat.one_ne_zero, ne_eq, not_false_eq_true, true_and, and_true, Nat.reduceMul, Nat.reduceSub, Int.reduceToNat, Int.toNat_zero, Int.toNat_one, Nat.zero_mul, Nat.one_mul, Int.reduceLT, Int.reduceLE, Int.le_refl, Int.zero_lt_one, Int.toNat_natCast, List.take_length, Int.cast_ofNat_Int, Int.reduceAdd, Int.reduceSub, Int.reduceBEq, Int.reduceBNe, ge_iff_le, gt_iff_lt, decide_true, decide_false, Int.lt_irrefl, Nat.zero_add, Nat.add_zero]
  repeat' ((first | refine IF_dec (fun h => ?_) (fun h => ?_) | refine IF_beq (fun h => ?_) (fun h => ?_) | refine IF_bne (fun h => ?_) (fun h => ?_) | refine IF_of (fun h => ?_) (fun h => ?_)) <;> (try (simp (maxSteps := 4000000) only [EV, EVF, XV, cond_true, cond_false, Bool.false_eq_true, Bool.true_eq_false, eq_self, normsOf, cutsOf, heapOf, quietOf, drawsOf, drawmOf, drawfOf, opnOf, coldOf, shutOf, iceOf, extOf, extOverlaps_eq, overB_eq, extCmp_eq, shpOf, Try.f46, ↓reduceIte, Nat.reduceAdd, Nat.reduceLT, Nat.reduceEqDiff, Nat.reduceLeDiff, Nat.succ_ne_zero, Nat.zero_ne_one, Nat.one_ne_zero, ne_eq, not_false_eq_true, true_and, and_true, Nat.reduceMul, Nat.reduceSub, Int.reduceToNat, Int.toNat_zero, Int.toNat_one, Nat.zero_mul, Nat.one_mul, Int.reduceLT, Int.reduceLE, Int.le_refl, Int.zero_lt_one, Int.toNat_natCast, List.take_length, Int.cast_ofNat_Int, Int.reduceAdd, Int.reduceSub, Int.reduceBEq, Int.reduceBNe, ge_iff_le, gt_iff_lt, decide_true, decide_false, Int.lt_irrefl, Nat.zero_add, Nat.add_zero])))
  · rw [if_pos (by assumption)] at hK
    exact ⟨hn, hK⟩
  · rw [if_neg (by assumption)] at hK
    exact ⟨hn, hK⟩
theorem take_min300 (d : List UInt8) : d.take (if (300 : Int) < d.length then (300 : Int) else d.length).toNat = d.take 300 := by
  split
  · rfl
  · rw [Int.toNat_natCast, List.take_length, List.take_of_length_le (by omega)]
theorem fields_w (m : Nat) (hm : 2 ≤ m) (raw : List (Int × Int)) (texts : List (List UInt8)) (hr : ∀ p ∈ raw, i64ok p.1 ∧ i64ok p.2) (ht : texts.length ≤ 9223372036854775807) (K : AV → Hp → Prop)
    (hK : K (.row 0 2 0 (fieldsS raw texts).length) [some (.row 46 2 ((fieldsS raw texts).map fv))]) : wpF C m 23 [.lst 2 (raw.map rv), .lst 1 (texts.map tv)] [] K := by
  obtain ⟨m, rfl⟩ : ∃ j, m = j + 1 := ⟨m - 1, by omega⟩; simp only [wpF, bodyA, fn_23, C_P, ok_23, C_prim, primOf, true_and]; simp (maxSteps := 4000000) only [EV, EVF, XV, cond_true, cond_false, Bool.false_eq_true, Bool.true_eq_false, eq_self, normsOf, cutsOf, heapOf, quietOf, drawsOf, drawmOf, drawfOf, opnOf, coldOf, shutOf, iceOf, extOf, extOverlaps_eq, overB_eq, extCmp_eq, shpOf, Try.f23, ↓reduceIte, Nat.reduceAdd, Nat.reduceLT, Nat.reduceEqDiff, Nat.reduceLeDiff, Nat.succ_ne_zero, Nat.zero_ne_one, Nat.one_ne_zero, ne_eq, not_false_eq_true, true_and, and_true, Nat.reduceMul, Nat.reduceSub, Int.reduceToNat, Int.toNat_zero, Int.toNat_one, Nat.zero_mul, Nat.one_mul, Int.reduceLT, Int.reduceLE, Int.le_refl, Int.zero_lt_one, Int.toNat_natCast, List.take_length, Int.cast_ofNat_Int, Int.reduceAdd, Int.reduceSub, Int.reduceBEq, Int.reduceBNe, ge_iff_le, gt_iff_lt, decide_true, decide_false, Int.lt_irrefl, Nat.zero_add, Nat.add_zero]
  refine loop_at (fun p : Nat × Int × List Fld => ⟨[(0, .lst 2 (raw.map rv)), (1, .lst 1 (texts.map tv)), (5, .row 0 2 0 p.2.2.length), (6, .v (.int .i64 p.2.1)), (7, .v (.int .i64 p.1))], [some (.row 46 2 (p.2.2.map fv))]⟩) (fun p => p.1 ≤ raw.length ∧ p.1 ≤ 20 ∧ 0 ≤ p.2.1 ∧ p.2.1 ≤ 200 * p.1 ∧ p.2.2.length = p.1 ∧ fieldsS raw texts = p.2.2 ++ fieldsGo texts (20 - p.1) p.2.1 (raw.drop p.1)) (fun p => 20 - p.1) (0, 0, []) ⟨by simp, by simp, by simp, by simp, rfl, by simp [fieldsS]⟩ rfl ?_
  rintro ⟨k, tag, out⟩ ⟨h1, h2, h3, h4, h5, h6⟩
  simp only at h1 h2 h3 h4 h5 h6
  by_cases hk : k < raw.length ∧ k < 20
  · obtain ⟨p, hp, hd⟩ := drop_at hk.1
    have hp' := map_at (f := rv) hp
    have hk1 : ((k : Int) < raw.length) := by omega
    have hk2 : ((k : Int) < 20) := by omega
    obtain ⟨q1, q2⟩ := hr p (List.mem_of_getElem? hp)
    have b1 := pickN_bd (c := p.1) (n := 200) q1.1 q1.2 (by omega)
    simp (maxSteps := 4000000) only [EV, EVF, XV, cond_true, cond_false, Bool.false_eq_true, Bool.true_eq_false, eq_self, normsOf, cutsOf, heapOf, quietOf, drawsOf, drawmOf, drawfOf, opnOf, coldOf, shutOf, iceOf, extOf, extOverlaps_eq, overB_eq, extCmp_eq, shpOf, Try.f23, ↓reduceIte, Nat.reduceAdd, Nat.reduceLT, Nat.reduceEqDiff, Nat.reduceLeDiff, Nat.succ_ne_zero, Nat.zero_ne_one, Nat.one_ne_zero, ne_eq, not_false_eq_true, true_and, and_true, Nat.reduceMul, Nat.reduceSub, Int.reduceToNat, Int.toNat_zero, Int.toNat_one, Nat.zero_mul, Nat.one_mul, Int.reduceLT, Int.reduceLE, Int.le_refl, Int.zero_lt_one, Int.toNat_natCast, List.take_length, Int.cast_ofNat_Int, Int.reduceAdd, Int.reduceSub, Int.reduceBEq, Int.reduceBNe, ge_iff_le, gt_iff_lt, decide_true, decide_false, Int.lt_irrefl, Nat.zero_add, Nat.add_zero, hk1, hk2, hp', rv, decide_true]
    have w1 : IntKind.i64.wrap (tag + 1) = tag + 1 := wrap64 (by omega) (by omega)
    have w2 : IntKind.i64.wrap (tag + 1 + pickN p.1 200) = tag + 1 + pickN p.1 200 := wrap64 (by omega) (by omega)
    have w3 : IntKind.i64.wrap ((k : Int) + 1) = ((k + 1 : Nat) : Int) := by rw [wrap64 (by omega) (by omega)]; rfl
    have hgo : fieldsS raw texts = (out ++ [(tag + 1 + pickN p.1 200, textAt texts p.2)]) ++ fieldsGo texts (20 - (k + 1)) (tag + 1 + pickN p.1 200) (raw.drop (k + 1)) := by
      rw [h6, hd, show 20 - k = (20 - (k + 1)) + 1 by omega, fieldsGo]
      simp
    have fin : ∀ d, d = textAt texts p.2 → ∃ a' : Nat × Int × List Fld, (a'.1 ≤ raw.length ∧ a'.1 ≤ 20 ∧ 0 ≤ a'.2.1 ∧ a'.2.1 ≤ 200 * a'.1 ∧ a'.2.2.length = a'.1 ∧ fieldsS raw texts = a'.2.2 ++ fieldsGo texts (20 - a'.1) a'.2.1 (raw.drop a'.1)) ∧ 20 - a'.1 < 20 - k ∧
        (⟨[(0, .lst 2 (raw.map rv)), (1, .lst 1 (texts.map tv)), (5, .row 0 2 0 (out.length + 1)), (6, .v (.int .i64 (tag + 1 + pickN p.1 200))), (7, .v (.int .i64 (IntKind.i64.wrap ((k : Int) + 1))))], [some (.row 46 2 (out.map fv ++ [[.v (.int .i64 (tag + 1 + pickN p.1 200)), .v (.string (mk d))]]))]⟩ : St) =
        ⟨[(0, .lst 2 (raw.map rv)), (1, .lst 1 (texts.map tv)), (5, .row 0 2 0 a'.2.2.length), (6, .v (.int .i64 a'.2.1)), (7, .v (.int .i64 a'.1))], [some (.row 46 2 (a'.2.2.map fv))]⟩ := fun d he => by
      subst he
      refine ⟨(k + 1, tag + 1 + pickN p.1 200, out ++ [(tag + 1 + pickN p.1 200, textAt texts p.2)]), ⟨by show k + 1 ≤ _; omega, by show k + 1 ≤ _; omega, by show 0 ≤ tag + 1 + _; omega, by show tag + 1 + _ ≤ 200 * ((k + 1 : Nat) : Int); omega, by simp [h5], hgo⟩, by show 20 - (k + 1) < _; omega, ?_⟩
      rw [w3]
      simp [fv]
    refine pick_w m (by omega) _ _ (by omega) _ ?_
    simp (maxSteps := 4000000) only [EV, EVF, XV, cond_true, cond_false, Bool.false_eq_true, Bool.true_eq_false, eq_self, normsOf, cutsOf, heapOf, quietOf, drawsOf, drawmOf, drawfOf, opnOf, coldOf, shutOf, iceOf, extOf, extOverlaps_eq, overB_eq, extCmp_eq, shpOf, Try.f23, ↓reduceIte, Nat.reduceAdd, Nat.reduceLT, Nat.reduceEqDiff, Nat.reduceLeDiff, Nat.succ_ne_zero, Nat.zero_ne_one, Nat.one_ne_zero, ne_eq, not_false_eq_true, true_and, and_true, Nat.reduceMul, Nat.reduceSub, Int.reduceToNat, Int.toNat_zero, Int.toNat_one, Nat.zero_mul, Nat.one_mul, Int.reduceLT, Int.reduceLE, Int.le_refl, Int.zero_lt_one, Int.toNat_natCast, List.take_length, Int.cast_ofNat_Int, Int.reduceAdd, Int.reduceSub, Int.reduceBEq, Int.reduceBNe, ge_iff_le, gt_iff_lt, decide_true, decide_false, Int.lt_irrefl, Nat.zero_add, Nat.add_zero, hk1, hk2, hp', rv, decide_true, w1, w2]
    by_cases h0 : texts = []
    · subst h0
      simp (maxSteps := 4000000) only [EV, EVF, XV, cond_true, cond_false, Bool.false_eq_true, Bool.true_eq_false, eq_self, normsOf, cutsOf, heapOf, quietOf, drawsOf, drawmOf, drawfOf, opnOf, coldOf, shutOf, iceOf, extOf, extOverlaps_eq, overB_eq, extCmp_eq, shpOf, Try.f23, ↓reduceIte, Nat.reduceAdd, Nat.reduceLT, Nat.reduceEqDiff, Nat.reduceLeDiff, Nat.succ_ne_zero, Nat.zero_ne_one, Nat.one_ne_zero, ne_eq, not_false_eq_true, true_and, and_true, Nat.reduceMul, Nat.reduceSub, Int.reduceToNat, Int.toNat_zero, Int.toNat_one, Nat.zero_mul, Nat.one_mul, Int.reduceLT, Int.reduceLE, Int.le_refl, Int.zero_lt_one, Int.toNat_natCast, List.take_length, Int.cast_ofNat_Int, Int.reduceAdd, Int.reduceSub, Int.reduceBEq, Int.reduceBNe, ge_iff_le, gt_iff_lt, decide_true, decide_false, Int.lt_irrefl, Nat.zero_add, Nat.add_zero, List.map_nil, Int.lt_irrefl, decide_false]
      exact ⟨by omega, fin [] (by simp [textAt])⟩
    · have hpos : 0 < texts.length := List.length_pos_iff.2 h0
      have e0 : (0 : Int) < texts.length := by omega
      simp (maxSteps := 4000000) only [EV, EVF, XV, cond_true, cond_false, Bool.false_eq_true, Bool.true_eq_false, eq_self, normsOf, cutsOf, heapOf, quietOf, drawsOf, drawmOf, drawfOf, opnOf, coldOf, shutOf, iceOf, extOf, extOverlaps_eq, overB_eq, extCmp_eq, shpOf, Try.f23, ↓reduceIte, Nat.reduceAdd, Nat.reduceLT, Nat.reduceEqDiff, Nat.reduceLeDiff, Nat.succ_ne_zero, Nat.zero_ne_one, Nat.one_ne_zero, ne_eq, not_false_eq_true, true_and, and_true, Nat.reduceMul, Nat.reduceSub, Int.reduceToNat, Int.toNat_zero, Int.toNat_one, Nat.zero_mul, Nat.one_mul, Int.reduceLT, Int.reduceLE, Int.le_refl, Int.zero_lt_one, Int.toNat_natCast, List.take_length, Int.cast_ofNat_Int, Int.reduceAdd, Int.reduceSub, Int.reduceBEq, Int.reduceBNe, ge_iff_le, gt_iff_lt, decide_true, decide_false, Int.lt_irrefl, Nat.zero_add, Nat.add_zero, e0, hp', rv, decide_true]
      refine pick_w m (by omega) _ _ (by omega) _ ?_
      have b2 := pickN_bd (c := p.2) (n := texts.length) q2.1 q2.2 (by omega)
      obtain ⟨d, hd1⟩ : ∃ d, texts[(pickN p.2 texts.length).toNat]? = some d := ⟨_, List.getElem?_eq_getElem (show (pickN p.2 texts.length).toNat < texts.length by omega)⟩
      have hd2 := map_at (f := tv) hd1
      have e1 : (0 : Int) ≤ pickN p.2 texts.length := b2.1
      simp (maxSteps := 4000000) only [EV, EVF, XV, cond_true, cond_false, Bool.false_eq_true, Bool.true_eq_false, eq_self, normsOf, cutsOf, heapOf, quietOf, drawsOf, drawmOf, drawfOf, opnOf, coldOf, shutOf, iceOf, extOf, extOverlaps_eq, overB_eq, extCmp_eq, shpOf, Try.f23, ↓reduceIte, Nat.reduceAdd, Nat.reduceLT, Nat.reduceEqDiff, Nat.reduceLeDiff, Nat.succ_ne_zero, Nat.zero_ne_one, Nat.one_ne_zero, ne_eq, not_false_eq_true, true_and, and_true, Nat.reduceMul, Nat.reduceSub, Int.reduceToNat, Int.toNat_zero, Int.toNat_one, Nat.zero_mul, Nat.one_mul, Int.reduceLT, Int.reduceLE, Int.le_refl, Int.zero_lt_one, Int.toNat_natCast, List.take_length, Int.cast_ofNat_Int, Int.reduceAdd, Int.reduceSub, Int.reduceBEq, Int.reduceBNe, ge_iff_le, gt_iff_lt, decide_true, decide_false, Int.lt_irrefl, Nat.zero_add, Nat.add_zero, e1, hd2, tv]
      refine ⟨by split <;> omega, by split <;> omega, by omega, fin _ ?_⟩
      rw [take_min300]
      unfold textAt
      rw [if_neg h0]
      simp [List.getD, hd1]
  · have hend : fieldsS raw texts = out := by
      rw [h6]
      rcases Nat.lt_or_ge k raw.length with h | h
      · rw [show 20 - k = 0 by omega]
        simp [fieldsGo]
      · rw [List.drop_eq_nil_of_le h]
        cases 20 - k <;> simp [fieldsGo]
    rw [hend] at hK
    by_cases hk1 : (k : Int) < raw.length
    · have hk2 : ((k : Int) < 20) = False := by simp; omega
      simp (maxSteps := 4000000) only [EV, EVF, XV, cond_true, cond_false, Bool.false_eq_true, Bool.true_eq_false, eq_self, normsOf, cutsOf, heapOf, quietOf, drawsOf, drawmOf, drawfOf, opnOf, coldOf, shutOf, iceOf, extOf, extOverlaps_eq, overB_eq, extCmp_eq, shpOf, Try.f23, ↓reduceIte, Nat.reduceAdd, Nat.reduceLT, Nat.reduceEqDiff, Nat.reduceLeDiff, Nat.succ_ne_zero, Nat.zero_ne_one, Nat.one_ne_zero, ne_eq, not_false_eq_true, true_and, and_true, Nat.reduceMul, Nat.reduceSub, Int.reduceToNat, Int.toNat_zero, Int.toNat_one, Nat.zero_mul, Nat.one_mul, Int.reduceLT, Int.reduceLE, Int.le_refl, Int.zero_lt_one, Int.toNat_natCast, List.take_length, Int.cast_ofNat_Int, Int.reduceAdd, Int.reduceSub, Int.reduceBEq, Int.reduceBNe, ge_iff_le, gt_iff_lt, decide_true, decide_false, Int.lt_irrefl, Nat.zero_add, Nat.add_zero, hk1, hk2, decide_true, decide_false]
      exact hK
    · have hk2 : ((k : Int) < raw.length) = False := by simp; omega
      simp (maxSteps := 4000000) only [EV, EVF, XV, cond_true, cond_false, Bool.false_eq_true, Bool.true_eq_false, eq_self, normsOf, cutsOf, heapOf, quietOf, drawsOf, drawmOf, drawfOf, opnOf, coldOf, shutOf, iceOf, extOf, extOverlaps_eq, overB_eq, extCmp_eq, shpOf, Try.f23, ↓reduceIte, Nat.reduceAdd, Nat.reduceLT, Nat.reduceEqDiff, Nat.reduceLeDiff, Nat.succ_ne_zero, Nat.zero_ne_one, Nat.one_ne_zero, ne_eq, not_false_eq_true, true_and, and_true, Nat.reduceMul, Nat.reduceSub, Int.reduceToNat, Int.toNat_zero, Int.toNat_one, Nat.zero_mul, Nat.one_mul, Int.reduceLT, Int.reduceLE, Int.le_refl, Int.zero_lt_one, Int.toNat_natCast, List.take_length, Int.cast_ofNat_Int, Int.reduceAdd, Int.reduceSub, Int.reduceBEq, Int.reduceBNe, ge_iff_le, gt_iff_lt, decide_true, decide_false, Int.lt_irrefl, Nat.zero_add, Nat.add_zero, hk2, decide_true, decide_false]
      exact hK
end Go.Ai

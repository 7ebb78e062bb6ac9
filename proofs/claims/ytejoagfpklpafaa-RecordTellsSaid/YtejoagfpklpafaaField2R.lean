/- careenref02.Decode, walked. -/
import Derived.Test.YtejoagfpklpafaaField1
import Derived.Test.YtejoagfpklpafaaVarintR
set_option linter.unusedVariables false
set_option linter.unusedSimpArgs false
set_option maxRecDepth 100000
set_option maxHeartbeats 4000000
namespace Go.Ai
open Go.Proofs
theorem takeS_len (s : List UInt8) : (takeS s).len ≤ s.length ∧ (takeS s).len ≤ 8 ∧ ((takeS s).err = 0 → 1 ≤ (takeS s).len ∧ (takeS s).num ≤ 9007199254740992) := by
  have h := sizeF_le 8 s
  unfold takeS
  split
  · refine ⟨by simp, by simp, fun h => ?_⟩
    simp only at h
    split at h <;> simp at h
  · rename_i n hn
    rw [hn] at h
    split
    · exact ⟨by simp, by simp, fun h => by simp at h⟩
    · rename_i hb
      refine ⟨h.2, h.1, fun _ => ⟨by simp, ?_⟩⟩
      simp only [takeBad, Bool.or_eq_true, decide_eq_true_eq, not_or] at hb
      show valL _ ≤ _
      omega
def appD (l : List Fld) : Dec (List Fld) → Dec (List Fld)
  | .no e => .no e
  | .ok r => .ok (l ++ r)
theorem decGo_nil (f : Nat) (last : Int) (n : Nat) : decGo f [] last n = .ok [] := by cases f <;> simp [decGo]
theorem oneS_lt {s : List UInt8} {last : Int} {x : Fld} {r : List UInt8} (h : oneS s last = .ok (x, r)) : r.length < s.length ∧ x.2.length ≤ 1000 ∧ 0 ≤ x.1 ∧ x.1 ≤ 1000000 ∧ last < x.1 := by
  have h1 := takeS_len s
  have h2 := takeS_len (s.drop (takeS s).len)
  unfold oneS at h
  simp only at h
  split at h
  · simp at h
  · rename_i e1
    split at h
    · simp at h
    · rename_i e2
      split at h
      · simp at h
      · split at h
        · simp at h
        · rename_i e4
          split at h
          · simp at h
          · rename_i e5
            simp only [Dec.ok.injEq, Prod.mk.injEq] at h
            obtain ⟨rfl, rfl⟩ := h
            simp only [List.length_drop] at *
            have h3 := h1.2.2 (by omega)
            refine ⟨by omega, by simp; omega, by simp, by omega, by omega⟩
theorem appD_step {a : Dec (List Fld)} {out : List Fld} {f : Nat} {r : List UInt8} {x : Fld} (h4 : a = appD out (match decGo f r x.1 (out.length + 1) with
    | .no e => .no e
    | .ok l => .ok (x :: l))) : a = appD (out ++ [x]) (decGo f r x.1 (out ++ [x]).length) := by
  have e : (out ++ [x]).length = out.length + 1 := by simp
  rw [h4, e]
  cases decGo f r x.1 (out.length + 1) <;> simp [appD]
theorem takeS_err (s : List UInt8) : (takeS s).err = 0 ∨ (takeS s).err = 10 ∨ (takeS s).err = 11 := by
  unfold takeS
  split
  · simp only
    split <;> simp
  · split <;> simp
theorem oneS_err {s : List UInt8} {last e : Int} (h : oneS s last = .no e) : e ≠ 0 := by
  unfold oneS at h
  simp only at h
  split at h
  · simp only [Dec.no.injEq] at h; omega
  · split at h
    · simp only [Dec.no.injEq] at h; omega
    · split at h
      · simp only [Dec.no.injEq] at h; omega
      · split at h
        · simp only [Dec.no.injEq] at h; omega
        · split at h
          · simp only [Dec.no.injEq] at h; omega
          · simp at h
theorem rdecode_w (m : Nat) (hm : 2 ≤ m) (s : List UInt8) (hs : s.length ≤ 9223372036854775807) (K : AV → Hp → Prop)
    (hN : ∀ e H, decodeS s = .no e → K (.tup [.v (.slice none 0 0), .v (.int .i64 e)]) H)
    (hY : ∀ l, decodeS s = .ok l → K (.tup [.row 0 2 0 l.length, .v (.int .i64 0)]) [some (.row 46 2 (l.map fv))]) :
    wpF C m 39 [.v (.string (mk s))] [] K := by
  obtain ⟨m, rfl⟩ : ∃ j, m = j + 1 := ⟨m - 1, by omega⟩; simp only [wpF, bodyA, fn_39, C_P, ok_39, C_prim, primOf, true_and]; simp (maxSteps := 4000000) only [EV, EVF, XV, cond_true, cond_false, Bool.false_eq_true, Bool.true_eq_false, eq_self, normsOf, cutsOf, heapOf, quietOf, drawsOf, drawmOf, drawfOf, opnOf, coldOf, shutOf, iceOf, extOf, extOverlaps_eq, overB_eq, extCmp_eq, shpOf, Try.f39, ↓reduceIte, Nat.reduceAdd, Nat.reduceLT, Nat.reduceEqDiff, Nat.reduceLeDiff, Nat.succ_ne_zero, Nat.zero_ne_one, Nat.one_ne_zero, ne_eq, not_false_eq_true, true_and, and_true, Nat.reduceMul, Nat.reduceSub, Int.reduceToNat, Int.toNat_zero, Int.toNat_one, Nat.zero_mul, Nat.one_mul, Int.reduceLT, Int.reduceLE, Int.le_refl, Int.zero_lt_one, Int.toNat_natCast, List.take_length, Int.cast_ofNat_Int, Int.reduceAdd, Int.reduceSub, Int.reduceBEq, Int.reduceBNe, ge_iff_le, gt_iff_lt, decide_true, decide_false, Int.lt_irrefl, Nat.zero_add, Nat.add_zero]
  by_cases hlen : 10000 < s.length
  · have e1 : (10000 < (s.length : Int)) = True := by simp; omega
    simp (maxSteps := 4000000) only [EV, EVF, XV, cond_true, cond_false, Bool.false_eq_true, Bool.true_eq_false, eq_self, normsOf, cutsOf, heapOf, quietOf, drawsOf, drawmOf, drawfOf, opnOf, coldOf, shutOf, iceOf, extOf, extOverlaps_eq, overB_eq, extCmp_eq, shpOf, Try.f39, ↓reduceIte, Nat.reduceAdd, Nat.reduceLT, Nat.reduceEqDiff, Nat.reduceLeDiff, Nat.succ_ne_zero, Nat.zero_ne_one, Nat.one_ne_zero, ne_eq, not_false_eq_true, true_and, and_true, Nat.reduceMul, Nat.reduceSub, Int.reduceToNat, Int.toNat_zero, Int.toNat_one, Nat.zero_mul, Nat.one_mul, Int.reduceLT, Int.reduceLE, Int.le_refl, Int.zero_lt_one, Int.toNat_natCast, List.take_length, Int.cast_ofNat_Int, Int.reduceAdd, Int.reduceSub, Int.reduceBEq, Int.reduceBNe, ge_iff_le, gt_iff_lt, decide_true, decide_false, Int.lt_irrefl, Nat.zero_add, Nat.add_zero, e1, decide_true]
    exact hN _ _ (by simp [decodeS, hlen])
  have e1 : (10000 < (s.length : Int)) = False := by simp; omega
  simp (maxSteps := 4000000) only [EV, EVF, XV, cond_true, cond_false, Bool.false_eq_true, Bool.true_eq_false, eq_self, normsOf, cutsOf, heapOf, quietOf, drawsOf, drawmOf, drawfOf, opnOf, coldOf, shutOf, iceOf, extOf, extOverlaps_eq, overB_eq, extCmp_eq, shpOf, Try.f39, ↓reduceIte, Nat.reduceAdd, Nat.reduceLT, Nat.reduceEqDiff, Nat.reduceLeDiff, Nat.succ_ne_zero, Nat.zero_ne_one, Nat.one_ne_zero, ne_eq, not_false_eq_true, true_and, and_true, Nat.reduceMul, Nat.reduceSub, Int.reduceToNat, Int.toNat_zero, Int.toNat_one, Nat.zero_mul, Nat.one_mul, Int.reduceLT, Int.reduceLE, Int.le_refl, Int.zero_lt_one, Int.toNat_natCast, List.take_length, Int.cast_ofNat_Int, Int.reduceAdd, Int.reduceSub, Int.reduceBEq, Int.reduceBNe, ge_iff_le, gt_iff_lt, decide_true, decide_false, Int.lt_irrefl, Nat.zero_add, Nat.add_zero, e1, decide_false]
  have hdec : decodeS s = decGo s.length s 0 0 := by simp [decodeS, hlen]
  rw [hdec] at hN hY
  refine loop_at (fun p : List UInt8 × Int × List Fld => ⟨[(0, .v (.string (mk p.1))), (4, .row 0 2 0 p.2.2.length), (5, .v (.int .i64 p.2.1))], [some (.row 46 2 (p.2.2.map fv))]⟩) (fun p => p.1.length ≤ s.length ∧ p.2.2.length ≤ 64 ∧ 0 ≤ p.2.1 ∧ ∃ f, p.1.length ≤ f ∧ decGo s.length s 0 0 = appD p.2.2 (decGo f p.1 p.2.1 p.2.2.length)) (fun p => p.1.length) (s, 0, []) ⟨Nat.le_refl _, by simp, Int.le_refl _, s.length, Nat.le_refl _, by cases decGo s.length s 0 0 <;> rfl⟩ rfl ?_
  rintro ⟨left, last, out⟩ ⟨h1, h2, h0, f, h3, h4⟩
  simp only at h1 h2 h3 h4 h0
  by_cases hl : left = []
  · subst hl
    simp (maxSteps := 4000000) only [EV, EVF, XV, cond_true, cond_false, Bool.false_eq_true, Bool.true_eq_false, eq_self, normsOf, cutsOf, heapOf, quietOf, drawsOf, drawmOf, drawfOf, opnOf, coldOf, shutOf, iceOf, extOf, extOverlaps_eq, overB_eq, extCmp_eq, shpOf, Try.f39, ↓reduceIte, Nat.reduceAdd, Nat.reduceLT, Nat.reduceEqDiff, Nat.reduceLeDiff, Nat.succ_ne_zero, Nat.zero_ne_one, Nat.one_ne_zero, ne_eq, not_false_eq_true, true_and, and_true, Nat.reduceMul, Nat.reduceSub, Int.reduceToNat, Int.toNat_zero, Int.toNat_one, Nat.zero_mul, Nat.one_mul, Int.reduceLT, Int.reduceLE, Int.le_refl, Int.zero_lt_one, Int.toNat_natCast, List.take_length, Int.cast_ofNat_Int, Int.reduceAdd, Int.reduceSub, Int.reduceBEq, Int.reduceBNe, ge_iff_le, gt_iff_lt, decide_true, decide_false, Int.lt_irrefl, Nat.zero_add, Nat.add_zero, decide_true, Bool.not_true]
    rw [decGo_nil] at h4
    simp only [appD, List.append_nil] at h4
    exact hY out h4
  · have e2 : decide (left = []) = false := by simp [hl]
    simp (maxSteps := 4000000) only [EV, EVF, XV, cond_true, cond_false, Bool.false_eq_true, Bool.true_eq_false, eq_self, normsOf, cutsOf, heapOf, quietOf, drawsOf, drawmOf, drawfOf, opnOf, coldOf, shutOf, iceOf, extOf, extOverlaps_eq, overB_eq, extCmp_eq, shpOf, Try.f39, ↓reduceIte, Nat.reduceAdd, Nat.reduceLT, Nat.reduceEqDiff, Nat.reduceLeDiff, Nat.succ_ne_zero, Nat.zero_ne_one, Nat.one_ne_zero, ne_eq, not_false_eq_true, true_and, and_true, Nat.reduceMul, Nat.reduceSub, Int.reduceToNat, Int.toNat_zero, Int.toNat_one, Nat.zero_mul, Nat.one_mul, Int.reduceLT, Int.reduceLE, Int.le_refl, Int.zero_lt_one, Int.toNat_natCast, List.take_length, Int.cast_ofNat_Int, Int.reduceAdd, Int.reduceSub, Int.reduceBEq, Int.reduceBNe, ge_iff_le, gt_iff_lt, decide_true, decide_false, Int.lt_irrefl, Nat.zero_add, Nat.add_zero, e2, Bool.not_false]
    have hpos : 0 < left.length := List.length_pos_iff.2 hl
    obtain ⟨f, rfl⟩ : ∃ j, f = j + 1 := ⟨f - 1, by omega⟩
    simp only [decGo, if_neg hl] at h4
    refine rtake_w m (by omega) left (by omega) _ ?_
    simp only [Taken.av]
    simp (maxSteps := 4000000) only [EV, EVF, XV, cond_true, cond_false, Bool.false_eq_true, Bool.true_eq_false, eq_self, normsOf, cutsOf, heapOf, quietOf, drawsOf, drawmOf, drawfOf, opnOf, coldOf, shutOf, iceOf, extOf, extOverlaps_eq, overB_eq, extCmp_eq, shpOf, Try.f39, ↓reduceIte, Nat.reduceAdd, Nat.reduceLT, Nat.reduceEqDiff, Nat.reduceLeDiff, Nat.succ_ne_zero, Nat.zero_ne_one, Nat.one_ne_zero, ne_eq, not_false_eq_true, true_and, and_true, Nat.reduceMul, Nat.reduceSub, Int.reduceToNat, Int.toNat_zero, Int.toNat_one, Nat.zero_mul, Nat.one_mul, Int.reduceLT, Int.reduceLE, Int.le_refl, Int.zero_lt_one, Int.toNat_natCast, List.take_length, Int.cast_ofNat_Int, Int.reduceAdd, Int.reduceSub, Int.reduceBEq, Int.reduceBNe, ge_iff_le, gt_iff_lt, decide_true, decide_false, Int.lt_irrefl, Nat.zero_add, Nat.add_zero]
    have ht := takeS_len left
    generalize ho : oneS left last = o at h4
    unfold oneS at ho
    simp only at ho
    repeat' ((first | refine IF_dec (fun h => ?_) (fun h => ?_) | refine IF_beq (fun h => ?_) (fun h => ?_) | refine IF_bne (fun h => ?_) (fun h => ?_) | refine IF_of (fun h => ?_) (fun h => ?_)) <;> (try (simp (maxSteps := 4000000) only [EV, EVF, XV, cond_true, cond_false, Bool.false_eq_true, Bool.true_eq_false, eq_self, normsOf, cutsOf, heapOf, quietOf, drawsOf, drawmOf, drawfOf, opnOf, coldOf, shutOf, iceOf, extOf, extOverlaps_eq, overB_eq, extCmp_eq, shpOf, Try.f39, ↓reduceIte, Nat.reduceAdd, Nat.reduceLT, Nat.reduceEqDiff, Nat.reduceLeDiff, Nat.succ_ne_zero, Nat.zero_ne_one, Nat.one_ne_zero, ne_eq, not_false_eq_true, true_and, and_true, Nat.reduceMul, Nat.reduceSub, Int.reduceToNat, Int.toNat_zero, Int.toNat_one, Nat.zero_mul, Nat.one_mul, Int.reduceLT, Int.reduceLE, Int.le_refl, Int.zero_lt_one, Int.toNat_natCast, List.take_length, Int.cast_ofNat_Int, Int.reduceAdd, Int.reduceSub, Int.reduceBEq, Int.reduceBNe, ge_iff_le, gt_iff_lt, decide_true, decide_false, Int.lt_irrefl, Nat.zero_add, Nat.add_zero])))
    · rw [if_pos (by assumption)] at ho
      subst ho
      exact hN _ _ h4
    · rw [if_neg (by omega), if_pos (by omega)] at ho
      subst ho
      exact hN _ _ h4
    · rw [if_neg (by omega), if_pos (by omega)] at ho
      subst ho
      exact hN _ _ h4
    · rw [if_neg (by omega), if_pos (by omega)] at ho
      subst ho
      exact hN _ _ h4
    · rw [if_neg (by omega), if_neg (by omega)] at ho
      refine ⟨by omega, ?_⟩
      refine rtake_w m (by omega) (left.drop (takeS left).len) (by rw [List.length_drop]; omega) _ ?_
      simp only [Taken.av]
      simp (maxSteps := 4000000) only [EV, EVF, XV, cond_true, cond_false, Bool.false_eq_true, Bool.true_eq_false, eq_self, normsOf, cutsOf, heapOf, quietOf, drawsOf, drawmOf, drawfOf, opnOf, coldOf, shutOf, iceOf, extOf, extOverlaps_eq, overB_eq, extCmp_eq, shpOf, Try.f39, ↓reduceIte, Nat.reduceAdd, Nat.reduceLT, Nat.reduceEqDiff, Nat.reduceLeDiff, Nat.succ_ne_zero, Nat.zero_ne_one, Nat.one_ne_zero, ne_eq, not_false_eq_true, true_and, and_true, Nat.reduceMul, Nat.reduceSub, Int.reduceToNat, Int.toNat_zero, Int.toNat_one, Nat.zero_mul, Nat.one_mul, Int.reduceLT, Int.reduceLE, Int.le_refl, Int.zero_lt_one, Int.toNat_natCast, List.take_length, Int.cast_ofNat_Int, Int.reduceAdd, Int.reduceSub, Int.reduceBEq, Int.reduceBNe, ge_iff_le, gt_iff_lt, decide_true, decide_false, Int.lt_irrefl, Nat.zero_add, Nat.add_zero]
      have hr : (left.drop (takeS left).len).length < left.length := by rw [List.length_drop]; omega
      generalize left.drop (takeS left).len = r1 at ho hr ⊢
      have ht2 := takeS_len r1
      repeat' ((first | refine IF_dec (fun h => ?_) (fun h => ?_) | refine IF_beq (fun h => ?_) (fun h => ?_) | refine IF_bne (fun h => ?_) (fun h => ?_) | refine IF_of (fun h => ?_) (fun h => ?_)) <;> (try (simp (maxSteps := 4000000) only [EV, EVF, XV, cond_true, cond_false, Bool.false_eq_true, Bool.true_eq_false, eq_self, normsOf, cutsOf, heapOf, quietOf, drawsOf, drawmOf, drawfOf, opnOf, coldOf, shutOf, iceOf, extOf, extOverlaps_eq, overB_eq, extCmp_eq, shpOf, Try.f39, ↓reduceIte, Nat.reduceAdd, Nat.reduceLT, Nat.reduceEqDiff, Nat.reduceLeDiff, Nat.succ_ne_zero, Nat.zero_ne_one, Nat.one_ne_zero, ne_eq, not_false_eq_true, true_and, and_true, Nat.reduceMul, Nat.reduceSub, Int.reduceToNat, Int.toNat_zero, Int.toNat_one, Nat.zero_mul, Nat.one_mul, Int.reduceLT, Int.reduceLE, Int.le_refl, Int.zero_lt_one, Int.toNat_natCast, List.take_length, Int.cast_ofNat_Int, Int.reduceAdd, Int.reduceSub, Int.reduceBEq, Int.reduceBNe, ge_iff_le, gt_iff_lt, decide_true, decide_false, Int.lt_irrefl, Nat.zero_add, Nat.add_zero])))
      · rw [if_pos (by assumption)] at ho
        subst ho
        exact hN _ _ h4
      · rw [if_neg (by omega)] at ho
        refine ⟨by omega, ?_⟩
        have hr2 : (r1.drop (takeS r1).len).length ≤ r1.length := by rw [List.length_drop]; omega
        have hr3 := List.length_drop (i := (takeS r1).len) (l := r1)
        generalize r1.drop (takeS r1).len = r2 at ho hr2 hr3 ⊢
        repeat' ((first | refine IF_dec (fun h => ?_) (fun h => ?_) | refine IF_beq (fun h => ?_) (fun h => ?_) | refine IF_bne (fun h => ?_) (fun h => ?_) | refine IF_of (fun h => ?_) (fun h => ?_)) <;> (try (simp (maxSteps := 4000000) only [EV, EVF, XV, cond_true, cond_false, Bool.false_eq_true, Bool.true_eq_false, eq_self, normsOf, cutsOf, heapOf, quietOf, drawsOf, drawmOf, drawfOf, opnOf, coldOf, shutOf, iceOf, extOf, extOverlaps_eq, overB_eq, extCmp_eq, shpOf, Try.f39, ↓reduceIte, Nat.reduceAdd, Nat.reduceLT, Nat.reduceEqDiff, Nat.reduceLeDiff, Nat.succ_ne_zero, Nat.zero_ne_one, Nat.one_ne_zero, ne_eq, not_false_eq_true, true_and, and_true, Nat.reduceMul, Nat.reduceSub, Int.reduceToNat, Int.toNat_zero, Int.toNat_one, Nat.zero_mul, Nat.one_mul, Int.reduceLT, Int.reduceLE, Int.le_refl, Int.zero_lt_one, Int.toNat_natCast, List.take_length, Int.cast_ofNat_Int, Int.reduceAdd, Int.reduceSub, Int.reduceBEq, Int.reduceBNe, ge_iff_le, gt_iff_lt, decide_true, decide_false, Int.lt_irrefl, Nat.zero_add, Nat.add_zero])))
        · rw [if_pos (by omega)] at ho
          subst ho
          exact hN _ _ h4
        · rw [if_neg (by omega), if_pos (by omega)] at ho
          subst ho
          exact hN _ _ h4
        · rw [if_neg (by omega), if_neg (by omega)] at ho
          subst ho
          simp only at h4
          rw [if_pos (by omega)] at h4
          exact hN _ _ h4
        · rw [if_neg (by omega), if_neg (by omega)] at ho
          subst ho
          simp only at h4
          rw [if_neg (by omega)] at h4
          refine ⟨by omega, by omega, by omega, (r2.drop (takeS r1).num, ((takeS left).num : Int), out ++ [(((takeS left).num : Int), r2.take (takeS r1).num)]), ⟨by show (r2.drop _).length ≤ _; rw [List.length_drop]; omega, by simp; omega, by show (0 : Int) ≤ (takeS left).num; omega, f, by show (r2.drop _).length ≤ _; rw [List.length_drop]; omega, ?_⟩, by show (r2.drop _).length < _; rw [List.length_drop]; omega, ?_⟩
          · exact appD_step h4
          · simp [fv]
theorem decGo_err : ∀ (f : Nat) (s : List UInt8) (last : Int) (n : Nat) (e : Int), decGo f s last n = .no e → e ≠ 0
  | 0, _, _, _, _, h => by simp [decGo] at h
  | f + 1, s, last, n, e, h => by
    rw [decGo] at h
    split at h
    · simp at h
    · split at h
      · rename_i e' he
        simp only [Dec.no.injEq] at h
        subst h
        exact oneS_err he
      · split at h
        · simp only [Dec.no.injEq] at h
          omega
        · split at h
          · rename_i e' he
            simp only [Dec.no.injEq] at h
            subst h
            exact decGo_err f _ _ _ _ he
          · simp at h
theorem decodeS_err {s : List UInt8} {e : Int} (h : decodeS s = .no e) : e ≠ 0 := by
  unfold decodeS at h
  split at h
  · simp only [Dec.no.injEq] at h
    omega
  · exact decGo_err _ _ _ _ _ h
end Go.Ai

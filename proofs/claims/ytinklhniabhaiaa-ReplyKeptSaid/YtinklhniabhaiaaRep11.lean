/- careenlaw13.Cache, walked. -/
import Derived.Test.YtinklhniabhaiaaRep10
import Derived.Test.YtinklhniabhaiaaRepP
set_option linter.unusedVariables false
set_option linter.unusedSimpArgs false
set_option maxRecDepth 100000
set_option maxHeartbeats 4000000
namespace Go.Ai
open Go.Proofs
def cacheOne (l : List Dn) (w : R5) : KeepR := keepS l (1 + pickN w.a 10) (1 + pickN w.b 20) (answerS ⟨w.c, w.d, w.e⟩)
def cacheGo (l : List Dn) : List R5 → List Dn
  | [] => l
  | w :: r => cacheGo (if (cacheOne l w).e = 0 then (cacheOne l w).l else l) r
def cacheS (raw : List R5) : List Dn := cacheGo [] (raw.take 30)
def CacheP (l : List Dn) : Prop := rightD l = true ∧ ∀ d ∈ l, d.id ≤ 20
theorem ins_mem {d y : Dn} : ∀ {l : List Dn}, y ∈ insD d l → y = d ∨ y ∈ l
  | [], h => by
    rw [i_nil] at h
    simpa using h
  | x :: l, h => by
    rcases Int.lt_trichotomy x.client d.client with hx | hx | hx
    · rw [i_lt hx] at h
      rcases List.mem_cons.1 h with rfl | h
      · exact .inr (by simp)
      · rcases ins_mem h with h | h
        · exact .inl h
        · exact .inr (by simp [h])
    · rw [i_eq hx] at h
      rcases List.mem_cons.1 h with rfl | h
      · exact .inl rfl
      · exact .inr (by simp [h])
    · rw [i_gt hx] at h
      rcases List.mem_cons.1 h with rfl | h
      · exact .inl rfl
      · exact .inr h
theorem ins_ne (d : Dn) (l : List Dn) : insD d l ≠ [] := by
  cases l with
  | nil => simp [insD]
  | cons x l =>
    unfold insD
    split
    · simp
    · split <;> simp
theorem one_ok {l : List Dn} {w : R5} (hl : CacheP l) (hw : r5k w) : CacheP (if (cacheOne l w).e = 0 then (cacheOne l w).l else l) ∧ ((cacheOne l w).e = 0 → (cacheOne l w).l ≠ []) := by
  by_cases h : (cacheOne l w).e = 0
  · rw [if_pos h]
    have hk := keep_right (l := l) (c := 1 + pickN w.a 10) (i := 1 + pickN w.b 20) (r := answerS ⟨w.c, w.d, w.e⟩) h
    have hb := pickN_bd hw.2.1.1 hw.2.1.2 (show (0:Int) < 20 by decide)
    refine ⟨⟨hk.1, fun d hd => ?_⟩, fun _ => ?_⟩
    · unfold cacheOne at hd
      rw [hk.2.2.2.2.1] at hd
      rcases ins_mem hd with rfl | hd
      · simp only
        omega
      · exact hl.2 d hd
    · unfold cacheOne
      rw [hk.2.2.2.2.1]
      exact ins_ne _ _
  · rw [if_neg h]
    exact ⟨hl, fun hc => absurd hc h⟩
theorem go_ok : ∀ {raw : List R5} {l : List Dn}, CacheP l → (∀ w ∈ raw, r5k w) → CacheP (cacheGo l raw)
  | [], _, hl, _ => hl
  | w :: r, l, hl, h => go_ok (raw := r) (one_ok hl (h w (by simp))).1 fun x hx => h x (by simp [hx])
theorem nil_ok : CacheP [] := ⟨by decide, by simp⟩
theorem cache_ok {raw : List R5} (h : ∀ w ∈ raw, r5k w) : CacheP (cacheS raw) := go_ok nil_ok fun w hw => h w (List.mem_of_mem_take hw)
def slC (X : List (List AV)) : AV := match X with
  | [] => .v (.slice none 0 0)
  | x :: r => .lst 6 (x :: r)
theorem slC_ne {X : List (List AV)} (h : X ≠ []) : slC X = .lst 6 X := by
  cases X with
  | nil => exact absurd rfl h
  | cons x r => rfl
theorem cache_w (m : Nat) (hm : 6 ≤ m) (raw : List R5) (hrl : raw.length * 40 ≤ 140737488351232) (hr : ∀ w ∈ raw, r5k w) (K : AV → Hp → Prop) (hK : ∀ H, K (.lst 6 ((cacheS raw).map dnv)) H) : wpF C m 8 [.lst 5 (raw.map r5w)] [] K := by
  obtain ⟨m, rfl⟩ : ∃ j, m = j + 1 := ⟨m - 1, by omega⟩; simp only [wpF, bodyA, fn_8, C_P, ok_8, C_prim, primOf, true_and]; simp (maxSteps := 4000000) only [EV, EVF, XV, cond_true, cond_false, Bool.false_eq_true, Bool.true_eq_false, eq_self, normsOf, cutsOf, heapOf, quietOf, drawsOf, drawmOf, drawfOf, opnOf, coldOf, shutOf, iceOf, extOf, extOverlaps_eq, overB_eq, extCmp_eq, shpOf, Try.f8, ↓reduceIte, Nat.reduceAdd, Nat.reduceLT, Nat.reduceEqDiff, Nat.reduceLeDiff, Nat.succ_ne_zero, Nat.zero_ne_one, Nat.one_ne_zero, ne_eq, not_false_eq_true, true_and, and_true, Nat.reduceMul, Nat.reduceSub, Int.reduceToNat, Int.toNat_zero, Int.toNat_one, Nat.zero_mul, Nat.one_mul, Int.reduceLT, Int.reduceLE, Int.le_refl, Int.zero_lt_one, Int.toNat_natCast, List.take_length, Int.cast_ofNat_Int, Int.reduceAdd, Int.reduceSub, Int.reduceBEq, Int.reduceBNe, ge_iff_le, gt_iff_lt, decide_true, decide_false, Int.lt_irrefl, Nat.zero_add, Nat.add_zero]
  refine loop_at (fun p : Nat × List Dn => ⟨[(0, .lst 5 (raw.map r5w)), (3, slC (p.2.map dnv)), (4, .v (.int .i64 p.1))], []⟩) (fun p => p.1 ≤ raw.length ∧ p.1 ≤ 30 ∧ CacheP p.2 ∧ cacheS raw = cacheGo p.2 ((raw.take 30).drop p.1)) (fun p => 30 - p.1) (0, []) ⟨by simp, by simp, nil_ok, by simp [cacheS]⟩ rfl ?_
  rintro ⟨i, l⟩ ⟨h1, h2, h3, h4⟩
  simp only at h1 h2 h3 h4
  obtain ⟨v, hv⟩ : ∃ v, slC (l.map dnv) = v := ⟨_, rfl⟩
  obtain ⟨X, hX⟩ : ∃ X, l.map dnv = X := ⟨_, rfl⟩
  have hvX : (v = .v (.slice none 0 0) ∧ X = []) ∨ v = .lst 6 X := by
    rw [← hv, ← hX]
    cases l with
    | nil => exact .inl ⟨rfl, rfl⟩
    | cons d l => exact .inr rfl
  have hok := right_ok h3.1
  rw [hv]
  by_cases hlt : i < raw.length ∧ i < 30
  · obtain ⟨w, hw, hd⟩ := drop_at hlt.1
    have hm' := map_at (f := r5w) hw
    have hwk := hr w (List.mem_of_getElem? hw)
    have q1 : ((i : Int) < (raw.length : Int)) = True := by simp; omega
    have q2 : ((i : Int) < 30) = True := by simp; omega
    have w1 : IntKind.i64.wrap ((i : Int) + 1) = ((i + 1 : Nat) : Int) := by rw [wrap64 (by omega) (by omega)]; omega
    have b1 := pickN_bd hwk.1.1 hwk.1.2 (show (0:Int) < 10 by decide)
    have b2 := pickN_bd hwk.2.1.1 hwk.2.1.2 (show (0:Int) < 20 by decide)
    have w2 : IntKind.i64.wrap (1 + pickN w.a 10) = 1 + pickN w.a 10 := wrap64 (by omega) (by omega)
    have w3 : IntKind.i64.wrap (1 + pickN w.b 20) = 1 + pickN w.b 20 := wrap64 (by omega) (by omega)
    have hw3 : r3k ⟨w.c, w.d, w.e⟩ := ⟨hwk.2.2.1, hwk.2.2.2.1, hwk.2.2.2.2⟩
    have ha := fun (m : Nat) (hm : 2 ≤ m) K => answer_w m hm ⟨w.c, w.d, w.e⟩ hw3 K
    have hmay := answer_may hw3
    have hk := fun (m : Nat) (hm : 4 ≤ m) K => rkeep_w m hm l hok (1 + pickN w.a 10) (1 + pickN w.b 20) (answerS ⟨w.c, w.d, w.e⟩) (by have := hmay.2.2.2.2.2.1; omega) K
    have hone := one_ok h3 hwk
    unfold cacheOne at hone
    have hgo : cacheS raw = cacheGo (if (cacheOne l w).e = 0 then (cacheOne l w).l else l) ((raw.take 30).drop (i + 1)) := by
      have hwt : (raw.take 30)[i]? = some w := by rw [List.getElem?_take_of_lt hlt.2, hw]
      obtain ⟨w', hw', hd'⟩ := drop_at (l := raw.take 30) (k := i) (by rw [List.length_take]; omega)
      rw [hwt] at hw'
      simp only [Option.some.injEq] at hw'
      rw [h4, hd', ← hw']
      rfl
    unfold cacheOne at hgo
    generalize keepS l (1 + pickN w.a 10) (1 + pickN w.b 20) (answerS ⟨w.c, w.d, w.e⟩) = kr at hk hone hgo
    unfold r3w repv at ha
    unfold KeepR.av repv at hk
    rw [hX] at hk
    simp only at ha
    rcases hvX with ⟨rfl, rfl⟩ | rfl
    all_goals
      simp (maxSteps := 4000000) only [EV, EVF, XV, cond_true, cond_false, Bool.false_eq_true, Bool.true_eq_false, eq_self, normsOf, cutsOf, heapOf, quietOf, drawsOf, drawmOf, drawfOf, opnOf, coldOf, shutOf, iceOf, extOf, extOverlaps_eq, overB_eq, extCmp_eq, shpOf, Try.f8, ↓reduceIte, Nat.reduceAdd, Nat.reduceLT, Nat.reduceEqDiff, Nat.reduceLeDiff, Nat.succ_ne_zero, Nat.zero_ne_one, Nat.one_ne_zero, ne_eq, not_false_eq_true, true_and, and_true, Nat.reduceMul, Nat.reduceSub, Int.reduceToNat, Int.toNat_zero, Int.toNat_one, Nat.zero_mul, Nat.one_mul, Int.reduceLT, Int.reduceLE, Int.le_refl, Int.zero_lt_one, Int.toNat_natCast, List.take_length, Int.cast_ofNat_Int, Int.reduceAdd, Int.reduceSub, Int.reduceBEq, Int.reduceBNe, ge_iff_le, gt_iff_lt, decide_true, decide_false, Int.lt_irrefl, Nat.zero_add, Nat.add_zero, q1, q2, hm', r5w]
      refine pick13_w m (by omega) _ _ (by omega) _ ?_
      simp (maxSteps := 4000000) only [EV, EVF, XV, cond_true, cond_false, Bool.false_eq_true, Bool.true_eq_false, eq_self, normsOf, cutsOf, heapOf, quietOf, drawsOf, drawmOf, drawfOf, opnOf, coldOf, shutOf, iceOf, extOf, extOverlaps_eq, overB_eq, extCmp_eq, shpOf, Try.f8, ↓reduceIte, Nat.reduceAdd, Nat.reduceLT, Nat.reduceEqDiff, Nat.reduceLeDiff, Nat.succ_ne_zero, Nat.zero_ne_one, Nat.one_ne_zero, ne_eq, not_false_eq_true, true_and, and_true, Nat.reduceMul, Nat.reduceSub, Int.reduceToNat, Int.toNat_zero, Int.toNat_one, Nat.zero_mul, Nat.one_mul, Int.reduceLT, Int.reduceLE, Int.le_refl, Int.zero_lt_one, Int.toNat_natCast, List.take_length, Int.cast_ofNat_Int, Int.reduceAdd, Int.reduceSub, Int.reduceBEq, Int.reduceBNe, ge_iff_le, gt_iff_lt, decide_true, decide_false, Int.lt_irrefl, Nat.zero_add, Nat.add_zero, hm', r5w, w2]
      refine pick13_w m (by omega) _ _ (by omega) _ ?_
      simp (maxSteps := 4000000) only [EV, EVF, XV, cond_true, cond_false, Bool.false_eq_true, Bool.true_eq_false, eq_self, normsOf, cutsOf, heapOf, quietOf, drawsOf, drawmOf, drawfOf, opnOf, coldOf, shutOf, iceOf, extOf, extOverlaps_eq, overB_eq, extCmp_eq, shpOf, Try.f8, ↓reduceIte, Nat.reduceAdd, Nat.reduceLT, Nat.reduceEqDiff, Nat.reduceLeDiff, Nat.succ_ne_zero, Nat.zero_ne_one, Nat.one_ne_zero, ne_eq, not_false_eq_true, true_and, and_true, Nat.reduceMul, Nat.reduceSub, Int.reduceToNat, Int.toNat_zero, Int.toNat_one, Nat.zero_mul, Nat.one_mul, Int.reduceLT, Int.reduceLE, Int.le_refl, Int.zero_lt_one, Int.toNat_natCast, List.take_length, Int.cast_ofNat_Int, Int.reduceAdd, Int.reduceSub, Int.reduceBEq, Int.reduceBNe, ge_iff_le, gt_iff_lt, decide_true, decide_false, Int.lt_irrefl, Nat.zero_add, Nat.add_zero, hm', r5w, w2, w3]
      refine ha m (by omega) _ fun H => ?_
      simp (maxSteps := 4000000) only [EV, EVF, XV, cond_true, cond_false, Bool.false_eq_true, Bool.true_eq_false, eq_self, normsOf, cutsOf, heapOf, quietOf, drawsOf, drawmOf, drawfOf, opnOf, coldOf, shutOf, iceOf, extOf, extOverlaps_eq, overB_eq, extCmp_eq, shpOf, Try.f8, ↓reduceIte, Nat.reduceAdd, Nat.reduceLT, Nat.reduceEqDiff, Nat.reduceLeDiff, Nat.succ_ne_zero, Nat.zero_ne_one, Nat.one_ne_zero, ne_eq, not_false_eq_true, true_and, and_true, Nat.reduceMul, Nat.reduceSub, Int.reduceToNat, Int.toNat_zero, Int.toNat_one, Nat.zero_mul, Nat.one_mul, Int.reduceLT, Int.reduceLE, Int.le_refl, Int.zero_lt_one, Int.toNat_natCast, List.take_length, Int.cast_ofNat_Int, Int.reduceAdd, Int.reduceSub, Int.reduceBEq, Int.reduceBNe, ge_iff_le, gt_iff_lt, decide_true, decide_false, Int.lt_irrefl, Nat.zero_add, Nat.add_zero, hm', r5w, w2, w3]
      refine hk m (by omega) _ fun H => ?_
      simp (maxSteps := 4000000) only [EV, EVF, XV, cond_true, cond_false, Bool.false_eq_true, Bool.true_eq_false, eq_self, normsOf, cutsOf, heapOf, quietOf, drawsOf, drawmOf, drawfOf, opnOf, coldOf, shutOf, iceOf, extOf, extOverlaps_eq, overB_eq, extCmp_eq, shpOf, Try.f8, ↓reduceIte, Nat.reduceAdd, Nat.reduceLT, Nat.reduceEqDiff, Nat.reduceLeDiff, Nat.succ_ne_zero, Nat.zero_ne_one, Nat.one_ne_zero, ne_eq, not_false_eq_true, true_and, and_true, Nat.reduceMul, Nat.reduceSub, Int.reduceToNat, Int.toNat_zero, Int.toNat_one, Nat.zero_mul, Nat.one_mul, Int.reduceLT, Int.reduceLE, Int.le_refl, Int.zero_lt_one, Int.toNat_natCast, List.take_length, Int.cast_ofNat_Int, Int.reduceAdd, Int.reduceSub, Int.reduceBEq, Int.reduceBNe, ge_iff_le, gt_iff_lt, decide_true, decide_false, Int.lt_irrefl, Nat.zero_add, Nat.add_zero, w1]
      refine IF_beq (fun h => ?_) (fun h => ?_)
      · simp (maxSteps := 4000000) only [EV, EVF, XV, cond_true, cond_false, Bool.false_eq_true, Bool.true_eq_false, eq_self, normsOf, cutsOf, heapOf, quietOf, drawsOf, drawmOf, drawfOf, opnOf, coldOf, shutOf, iceOf, extOf, extOverlaps_eq, overB_eq, extCmp_eq, shpOf, Try.f8, ↓reduceIte, Nat.reduceAdd, Nat.reduceLT, Nat.reduceEqDiff, Nat.reduceLeDiff, Nat.succ_ne_zero, Nat.zero_ne_one, Nat.one_ne_zero, ne_eq, not_false_eq_true, true_and, and_true, Nat.reduceMul, Nat.reduceSub, Int.reduceToNat, Int.toNat_zero, Int.toNat_one, Nat.zero_mul, Nat.one_mul, Int.reduceLT, Int.reduceLE, Int.le_refl, Int.zero_lt_one, Int.toNat_natCast, List.take_length, Int.cast_ofNat_Int, Int.reduceAdd, Int.reduceSub, Int.reduceBEq, Int.reduceBNe, ge_iff_le, gt_iff_lt, decide_true, decide_false, Int.lt_irrefl, Nat.zero_add, Nat.add_zero, w1]
        rw [if_pos h] at hone hgo
        exact ⟨(i + 1, kr.l), ⟨by simp only; omega, by simp only; omega, hone.1, hgo⟩, by simp only; omega, by rw [slC_ne (by simpa using hone.2 h)]⟩
      · simp (maxSteps := 4000000) only [EV, EVF, XV, cond_true, cond_false, Bool.false_eq_true, Bool.true_eq_false, eq_self, normsOf, cutsOf, heapOf, quietOf, drawsOf, drawmOf, drawfOf, opnOf, coldOf, shutOf, iceOf, extOf, extOverlaps_eq, overB_eq, extCmp_eq, shpOf, Try.f8, ↓reduceIte, Nat.reduceAdd, Nat.reduceLT, Nat.reduceEqDiff, Nat.reduceLeDiff, Nat.succ_ne_zero, Nat.zero_ne_one, Nat.one_ne_zero, ne_eq, not_false_eq_true, true_and, and_true, Nat.reduceMul, Nat.reduceSub, Int.reduceToNat, Int.toNat_zero, Int.toNat_one, Nat.zero_mul, Nat.one_mul, Int.reduceLT, Int.reduceLE, Int.le_refl, Int.zero_lt_one, Int.toNat_natCast, List.take_length, Int.cast_ofNat_Int, Int.reduceAdd, Int.reduceSub, Int.reduceBEq, Int.reduceBNe, ge_iff_le, gt_iff_lt, decide_true, decide_false, Int.lt_irrefl, Nat.zero_add, Nat.add_zero, w1]
        rw [if_neg h] at hone hgo
        exact ⟨(i + 1, l), ⟨by simp only; omega, by simp only; omega, h3, hgo⟩, by simp only; omega, by simp only [hv]⟩
  · have q0 : ((i : Int) < (raw.length : Int)) = True ∧ ((i : Int) < 30) = False ∨ ((i : Int) < (raw.length : Int)) = False := by
      by_cases h : i < raw.length
      · refine .inl ⟨?_, ?_⟩ <;> simp <;> omega
      · refine .inr ?_
        simp
        omega
    have hz : (raw.take 30).drop i = [] := by
      rw [List.drop_eq_nil_iff, List.length_take]
      omega
    rw [hz] at h4
    have hend : cacheS raw = l := h4
    rw [hend, hX] at hK
    rcases hvX with ⟨rfl, rfl⟩ | rfl
    all_goals
      rcases q0 with ⟨q1, q2⟩ | q1
      · simp (maxSteps := 4000000) only [EV, EVF, XV, cond_true, cond_false, Bool.false_eq_true, Bool.true_eq_false, eq_self, normsOf, cutsOf, heapOf, quietOf, drawsOf, drawmOf, drawfOf, opnOf, coldOf, shutOf, iceOf, extOf, extOverlaps_eq, overB_eq, extCmp_eq, shpOf, Try.f8, ↓reduceIte, Nat.reduceAdd, Nat.reduceLT, Nat.reduceEqDiff, Nat.reduceLeDiff, Nat.succ_ne_zero, Nat.zero_ne_one, Nat.one_ne_zero, ne_eq, not_false_eq_true, true_and, and_true, Nat.reduceMul, Nat.reduceSub, Int.reduceToNat, Int.toNat_zero, Int.toNat_one, Nat.zero_mul, Nat.one_mul, Int.reduceLT, Int.reduceLE, Int.le_refl, Int.zero_lt_one, Int.toNat_natCast, List.take_length, Int.cast_ofNat_Int, Int.reduceAdd, Int.reduceSub, Int.reduceBEq, Int.reduceBNe, ge_iff_le, gt_iff_lt, decide_true, decide_false, Int.lt_irrefl, Nat.zero_add, Nat.add_zero, q1, q2]
        exact hK _
      · simp (maxSteps := 4000000) only [EV, EVF, XV, cond_true, cond_false, Bool.false_eq_true, Bool.true_eq_false, eq_self, normsOf, cutsOf, heapOf, quietOf, drawsOf, drawmOf, drawfOf, opnOf, coldOf, shutOf, iceOf, extOf, extOverlaps_eq, overB_eq, extCmp_eq, shpOf, Try.f8, ↓reduceIte, Nat.reduceAdd, Nat.reduceLT, Nat.reduceEqDiff, Nat.reduceLeDiff, Nat.succ_ne_zero, Nat.zero_ne_one, Nat.one_ne_zero, ne_eq, not_false_eq_true, true_and, and_true, Nat.reduceMul, Nat.reduceSub, Int.reduceToNat, Int.toNat_zero, Int.toNat_one, Nat.zero_mul, Nat.one_mul, Int.reduceLT, Int.reduceLE, Int.le_refl, Int.zero_lt_one, Int.toNat_natCast, List.take_length, Int.cast_ofNat_Int, Int.reduceAdd, Int.reduceSub, Int.reduceBEq, Int.reduceBNe, ge_iff_le, gt_iff_lt, decide_true, decide_false, Int.lt_irrefl, Nat.zero_add, Nat.add_zero, q1]
        exact hK _
end Go.Ai

/- Records of raw numbers, chapter 4's example, walked. -/
import Derived.Test.YtejoagfpklpafaaConvS
import Derived.Test.YtejoagfpklpafaaField4
set_option linter.unusedVariables false
set_option linter.unusedSimpArgs false
set_option maxRecDepth 100000
set_option maxHeartbeats 4000000
namespace Go.Ai
open Go.Proofs
theorem pick3_w (m : Nat) (hm : 1 ≤ m) (c n : Int) (hn : n ≠ 0) (K : AV → Hp → Prop) (hK : K (.v (.int .i64 (pickN c n))) []) : wpF C m 11 [.v (.int .i64 c), .v (.int .i64 n)] [] K := by
  obtain ⟨m, rfl⟩ : ∃ j, m = j + 1 := ⟨m - 1, by omega⟩; simp only [wpF, bodyA, fn_11, C_P, ok_11, C_prim, primOf, true_and]; simp (maxSteps := 4000000) only [EV, EVF, XV, cond_true, cond_false, Bool.false_eq_true, Bool.true_eq_false, eq_self, normsOf, cutsOf, heapOf, quietOf, drawsOf, drawmOf, drawfOf, opnOf, coldOf, shutOf, iceOf, extOf, extOverlaps_eq, overB_eq, extCmp_eq, shpOf, Try.f11, ↓reduceIte, Nat.reduceAdd, Nat.reduceLT, Nat.reduceEqDiff, Nat.reduceLeDiff, Nat.succ_ne_zero, Nat.zero_ne_one, Nat.one_ne_zero, ne_eq, not_false_eq_true, true_and, and_true, Nat.reduceMul, Nat.reduceSub, Int.reduceToNat, Int.toNat_zero, Int.toNat_one, Nat.zero_mul, Nat.one_mul, Int.reduceLT, Int.reduceLE, Int.le_refl, Int.zero_lt_one, Int.toNat_natCast, List.take_length, Int.cast_ofNat_Int, Int.reduceAdd, Int.reduceSub, Int.reduceBEq, Int.reduceBNe, ge_iff_le, gt_iff_lt, decide_true, decide_false, Int.lt_irrefl, Nat.zero_add, Nat.add_zero]
  unfold pickN at hK
  repeat' ((first | refine IF_dec (fun h => ?_) (fun h => ?_) | refine IF_beq (fun h => ?_) (fun h => ?_) | refine IF_bne (fun h => ?_) (fun h => ?_) | refine IF_of (fun h => ?_) (fun h => ?_)) <;> (try (simp (maxSteps := 4000000) only [EV, EVF, XV, cond_true, cond_false, Bool.false_eq_true, Bool.true_eq_false, eq_self, normsOf, cutsOf, heapOf, quietOf, drawsOf, drawmOf, drawfOf, opnOf, coldOf, shutOf, iceOf, extOf, extOverlaps_eq, overB_eq, extCmp_eq, shpOf, Try.f11, ↓reduceIte, Nat.reduceAdd, Nat.reduceLT, Nat.reduceEqDiff, Nat.reduceLeDiff, Nat.succ_ne_zero, Nat.zero_ne_one, Nat.one_ne_zero, ne_eq, not_false_eq_true, true_and, and_true, Nat.reduceMul, Nat.reduceSub, Int.reduceToNat, Int.toNat_zero, Int.toNat_one, Nat.zero_mul, Nat.one_mul, Int.reduceLT, Int.reduceLE, Int.le_refl, Int.zero_lt_one, Int.toNat_natCast, List.take_length, Int.cast_ofNat_Int, Int.reduceAdd, Int.reduceSub, Int.reduceBEq, Int.reduceBNe, ge_iff_le, gt_iff_lt, decide_true, decide_false, Int.lt_irrefl, Nat.zero_add, Nat.add_zero])))
  · rw [if_pos (by assumption)] at hK
    exact ⟨hn, hK⟩
  · rw [if_neg (by assumption)] at hK
    exact ⟨hn, hK⟩
theorem key_at {n : Int} (h0 : 0 ≤ n) (h1 : n < 4) : ([[.v (.string (mk [97]))], [.v (.string (mk [98, 111, 98]))], [.v (.string (mk [107, 101, 121, 57]))], [.v (.string (mk [48, 49, 50, 51, 52, 53, 54, 55, 56, 57, 97, 98, 99, 100, 101, 102]))]] : List (List AV))[n.toNat]? = some [.v (.string (mk (keyS n)))] := by
  have : n = 0 ∨ n = 1 ∨ n = 2 ∨ n = 3 := by omega
  rcases this with rfl | rfl | rfl | rfl <;> rfl
theorem note_at {n : Int} (h0 : 0 ≤ n) (h1 : n < 4) : ([[.v (.string (mk []))], [.v (.string (mk [120]))], [.v (.string (mk [97, 32, 110, 111, 116, 101]))], [.v (.string (mk [0, 128]))]] : List (List AV))[n.toNat]? = some [.v (.string (mk (noteS n)))] := by
  have : n = 0 ∨ n = 1 ∨ n = 2 ∨ n = 3 := by omega
  rcases this with rfl | rfl | rfl | rfl <;> rfl
def valueS (texts : List (List UInt8)) (a1 : Int) : List UInt8 := if texts = [] then [] else (texts.getD (pickN a1 texts.length).toNat []).take 200
def recT (key value : List UInt8) (rev life : Int) (note : List UInt8) (x : AV) : List AV := [.v (.string (mk key)), .v (.string (mk value)), .v (.int .i64 rev), .v (.int .i64 life), .v (.string (mk note)), x]
theorem take_min200 (d : List UInt8) : d.take (if (200 : Int) < d.length then (200 : Int) else d.length).toNat = d.take 200 := by
  split
  · rfl
  · rw [Int.toNat_natCast, List.take_length, List.take_of_length_le (by omega)]
def recL (v : Int) (l : List Fld) (i : Nat) : List Fld := (l.take i).map (shiftF v) ++ l.drop i
theorem recL_at {v : Int} {l : List Fld} {i : Nat} {f : Fld} (hf : l[i]? = some f) : (recL v l i)[i]? = some f := by
  have hi : i < l.length := (List.getElem?_eq_some_iff.1 hf).1
  unfold recL
  rw [List.getElem?_append_right (by simp; omega)]
  simp only [List.length_map, List.length_take, Nat.min_eq_left (Nat.le_of_lt hi), Nat.sub_self]
  rw [List.getElem?_drop]
  simpa using hf
theorem recL_set {v : Int} {l : List Fld} {i : Nat} {f : Fld} (hf : l[i]? = some f) : (recL v l i).set i (shiftF v f) = recL v l (i + 1) := by
  have hi : i < l.length := (List.getElem?_eq_some_iff.1 hf).1
  obtain ⟨g, hg, hd⟩ := drop_at hi
  rw [hf] at hg
  simp only [Option.some.injEq] at hg
  subst hg
  unfold recL
  rw [List.set_append_right _ _ (by simp; omega)]
  simp only [List.length_map, List.length_take, Nat.min_eq_left (Nat.le_of_lt hi), Nat.sub_self]
  rw [hd, List.set_cons_zero, take_snoc' hf, List.map_append]
  simp
def recH (v : Int) (l : List Fld) (key value : List UInt8) (rev life : Int) (note : List UInt8) (i : Nat) : Hp :=
  some (.var 24 (recT [] [] 0 0 [] (.v (.slice none 0 0)))) ::
  match i with
  | 0 => [some (.var 24 (recT key value rev life note (.v (.slice none 0 0)))), some (.row 46 2 ((recL v l 0).map fv))]
  | k + 1 => [some (.var 24 (recT key value rev life note (.row 3 2 0 (k + 1)))), some (.row 46 2 ((recL v l (k + 1)).map fv)), some (.row 46 2 (((l.take (k + 1)).map (shiftF v)).map fv))]
def recSt (v : Int) (l : List Fld) (key value : List UInt8) (rev life : Int) (note : List UInt8) (i : Nat) : St := ⟨[(0, .v (.int .i64 v)), (8, .ptr 0 0), (9, .ptr 1 0), (11, .row 2 2 0 l.length), (12, .v (.int .i64 i))], recH v l key value rev life note i⟩
theorem rec_w (m : Nat) (hm : 3 ≤ m) (v a0 a1 a2 a3 a4 : Int) (raw : List (Int × Int)) (texts : List (List UInt8)) (h0 : i64ok a0) (h1 : i64ok a1) (h2 : i64ok a2) (h3 : i64ok a3) (h4 : i64ok a4) (hr : ∀ p ∈ raw, i64ok p.1 ∧ i64ok p.2) (ht : texts.length ≤ 9223372036854775807) (hv : v = 1 ∨ v = 2) (K : AV → Hp → Prop) (hK : ∀ H, K (.agg (rcv (recordS v a0 a1 a2 a3 a4 raw texts))) H) :
    wpF C m 10 [.v (.int .i64 v), .agg [.v (.int .i64 a0), .v (.int .i64 a1), .v (.int .i64 a2), .v (.int .i64 a3), .v (.int .i64 a4)], .lst 2 (raw.map rv), .lst 1 (texts.map tv)] [] K := by
  obtain ⟨m, rfl⟩ : ∃ j, m = j + 1 := ⟨m - 1, by omega⟩; simp only [wpF, bodyA, fn_10, C_P, ok_10, C_prim, primOf, true_and]; simp (maxSteps := 4000000) only [EV, EVF, XV, cond_true, cond_false, Bool.false_eq_true, Bool.true_eq_false, eq_self, normsOf, cutsOf, heapOf, quietOf, drawsOf, drawmOf, drawfOf, opnOf, coldOf, shutOf, iceOf, extOf, extOverlaps_eq, overB_eq, extCmp_eq, shpOf, Try.f10, ↓reduceIte, Nat.reduceAdd, Nat.reduceLT, Nat.reduceEqDiff, Nat.reduceLeDiff, Nat.succ_ne_zero, Nat.zero_ne_one, Nat.one_ne_zero, ne_eq, not_false_eq_true, true_and, and_true, Nat.reduceMul, Nat.reduceSub, Int.reduceToNat, Int.toNat_zero, Int.toNat_one, Nat.zero_mul, Nat.one_mul, Int.reduceLT, Int.reduceLE, Int.le_refl, Int.zero_lt_one, Int.toNat_natCast, List.take_length, Int.cast_ofNat_Int, Int.reduceAdd, Int.reduceSub, Int.reduceBEq, Int.reduceBNe, ge_iff_le, gt_iff_lt, decide_true, decide_false, Int.lt_irrefl, Nat.zero_add, Nat.add_zero]
  have p0 := pickN_bd h0.1 h0.2 (show (0 : Int) < 4 by omega)
  have p2 := pickN_bd h2.1 h2.2 (show (0 : Int) < 400 by omega)
  have e1 : (0 ≤ pickN a0 4) = True := eq_true p0.1
  have e2 : (pickN a0 4 < 4) = True := eq_true p0.2
  have e3 := key_at p0.1 p0.2
  refine cut_at (fun _ : Unit => ⟨[(0, .v (.int .i64 v)), (2, .lst 2 (raw.map rv)), (3, .lst 1 (texts.map tv)), (5, .ptr 0 0), (8, .ptr 1 0), (9, .ptr 2 0)], [some (.var 25 [.v (.int .i64 a0), .v (.int .i64 a1), .v (.int .i64 a2), .v (.int .i64 a3), .v (.int .i64 a4)]), some (.var 24 (recT [] [] 0 0 [] (.v (.slice none 0 0)))), some (.var 24 (recT (keyS (pickN a0 4)) [] (pickN a2 400) 0 [] (.v (.slice none 0 0))))]⟩) (fun _ => True) ?_ ?_
  · simp (maxSteps := 4000000) only [EV, EVF, XV, cond_true, cond_false, Bool.false_eq_true, Bool.true_eq_false, eq_self, normsOf, cutsOf, heapOf, quietOf, drawsOf, drawmOf, drawfOf, opnOf, coldOf, shutOf, iceOf, extOf, extOverlaps_eq, overB_eq, extCmp_eq, shpOf, Try.f10, ↓reduceIte, Nat.reduceAdd, Nat.reduceLT, Nat.reduceEqDiff, Nat.reduceLeDiff, Nat.succ_ne_zero, Nat.zero_ne_one, Nat.one_ne_zero, ne_eq, not_false_eq_true, true_and, and_true, Nat.reduceMul, Nat.reduceSub, Int.reduceToNat, Int.toNat_zero, Int.toNat_one, Nat.zero_mul, Nat.one_mul, Int.reduceLT, Int.reduceLE, Int.le_refl, Int.zero_lt_one, Int.toNat_natCast, List.take_length, Int.cast_ofNat_Int, Int.reduceAdd, Int.reduceSub, Int.reduceBEq, Int.reduceBNe, ge_iff_le, gt_iff_lt, decide_true, decide_false, Int.lt_irrefl, Nat.zero_add, Nat.add_zero]
    repeat' (first | (refine pick3_w m (by omega) _ _ (by omega) _ ?_; simp (maxSteps := 4000000) only [EV, EVF, XV, cond_true, cond_false, Bool.false_eq_true, Bool.true_eq_false, eq_self, normsOf, cutsOf, heapOf, quietOf, drawsOf, drawmOf, drawfOf, opnOf, coldOf, shutOf, iceOf, extOf, extOverlaps_eq, overB_eq, extCmp_eq, shpOf, Try.f10, ↓reduceIte, Nat.reduceAdd, Nat.reduceLT, Nat.reduceEqDiff, Nat.reduceLeDiff, Nat.succ_ne_zero, Nat.zero_ne_one, Nat.one_ne_zero, ne_eq, not_false_eq_true, true_and, and_true, Nat.reduceMul, Nat.reduceSub, Int.reduceToNat, Int.toNat_zero, Int.toNat_one, Nat.zero_mul, Nat.one_mul, Int.reduceLT, Int.reduceLE, Int.le_refl, Int.zero_lt_one, Int.toNat_natCast, List.take_length, Int.cast_ofNat_Int, Int.reduceAdd, Int.reduceSub, Int.reduceBEq, Int.reduceBNe, ge_iff_le, gt_iff_lt, decide_true, decide_false, Int.lt_irrefl, Nat.zero_add, Nat.add_zero, e1, e2, e3]) | apply And.intro)
    all_goals exact ⟨(), rfl⟩
  rintro - -
  unfold recT
  refine cut_at (fun _ : Unit => ⟨[(0, .v (.int .i64 v)), (2, .lst 2 (raw.map rv)), (3, .lst 1 (texts.map tv)), (5, .ptr 0 0), (8, .ptr 1 0), (9, .ptr 2 0)], [some (.var 25 [.v (.int .i64 a0), .v (.int .i64 a1), .v (.int .i64 a2), .v (.int .i64 a3), .v (.int .i64 a4)]), some (.var 24 (recT [] [] 0 0 [] (.v (.slice none 0 0)))), some (.var 24 (recT (keyS (pickN a0 4)) [] (if a2.tmod 7 = 0 then 9007199254740992 else pickN a2 400) 0 [] (.v (.slice none 0 0))))]⟩) (fun _ => True) ?_ ?_
  · simp (maxSteps := 4000000) only [EV, EVF, XV, cond_true, cond_false, Bool.false_eq_true, Bool.true_eq_false, eq_self, normsOf, cutsOf, heapOf, quietOf, drawsOf, drawmOf, drawfOf, opnOf, coldOf, shutOf, iceOf, extOf, extOverlaps_eq, overB_eq, extCmp_eq, shpOf, Try.f10, ↓reduceIte, Nat.reduceAdd, Nat.reduceLT, Nat.reduceEqDiff, Nat.reduceLeDiff, Nat.succ_ne_zero, Nat.zero_ne_one, Nat.one_ne_zero, ne_eq, not_false_eq_true, true_and, and_true, Nat.reduceMul, Nat.reduceSub, Int.reduceToNat, Int.toNat_zero, Int.toNat_one, Nat.zero_mul, Nat.one_mul, Int.reduceLT, Int.reduceLE, Int.le_refl, Int.zero_lt_one, Int.toNat_natCast, List.take_length, Int.cast_ofNat_Int, Int.reduceAdd, Int.reduceSub, Int.reduceBEq, Int.reduceBNe, ge_iff_le, gt_iff_lt, decide_true, decide_false, Int.lt_irrefl, Nat.zero_add, Nat.add_zero]
    refine ⟨by decide, IF_beq (fun h => ?_) (fun h => ?_)⟩
    · simp (maxSteps := 4000000) only [EV, EVF, XV, cond_true, cond_false, Bool.false_eq_true, Bool.true_eq_false, eq_self, normsOf, cutsOf, heapOf, quietOf, drawsOf, drawmOf, drawfOf, opnOf, coldOf, shutOf, iceOf, extOf, extOverlaps_eq, overB_eq, extCmp_eq, shpOf, Try.f10, ↓reduceIte, Nat.reduceAdd, Nat.reduceLT, Nat.reduceEqDiff, Nat.reduceLeDiff, Nat.succ_ne_zero, Nat.zero_ne_one, Nat.one_ne_zero, ne_eq, not_false_eq_true, true_and, and_true, Nat.reduceMul, Nat.reduceSub, Int.reduceToNat, Int.toNat_zero, Int.toNat_one, Nat.zero_mul, Nat.one_mul, Int.reduceLT, Int.reduceLE, Int.le_refl, Int.zero_lt_one, Int.toNat_natCast, List.take_length, Int.cast_ofNat_Int, Int.reduceAdd, Int.reduceSub, Int.reduceBEq, Int.reduceBNe, ge_iff_le, gt_iff_lt, decide_true, decide_false, Int.lt_irrefl, Nat.zero_add, Nat.add_zero]
      rw [if_pos h]
      exact ⟨(), rfl⟩
    · simp (maxSteps := 4000000) only [EV, EVF, XV, cond_true, cond_false, Bool.false_eq_true, Bool.true_eq_false, eq_self, normsOf, cutsOf, heapOf, quietOf, drawsOf, drawmOf, drawfOf, opnOf, coldOf, shutOf, iceOf, extOf, extOverlaps_eq, overB_eq, extCmp_eq, shpOf, Try.f10, ↓reduceIte, Nat.reduceAdd, Nat.reduceLT, Nat.reduceEqDiff, Nat.reduceLeDiff, Nat.succ_ne_zero, Nat.zero_ne_one, Nat.one_ne_zero, ne_eq, not_false_eq_true, true_and, and_true, Nat.reduceMul, Nat.reduceSub, Int.reduceToNat, Int.toNat_zero, Int.toNat_one, Nat.zero_mul, Nat.one_mul, Int.reduceLT, Int.reduceLE, Int.le_refl, Int.zero_lt_one, Int.toNat_natCast, List.take_length, Int.cast_ofNat_Int, Int.reduceAdd, Int.reduceSub, Int.reduceBEq, Int.reduceBNe, ge_iff_le, gt_iff_lt, decide_true, decide_false, Int.lt_irrefl, Nat.zero_add, Nat.add_zero]
      rw [if_neg h]
      exact ⟨(), rfl⟩
  rintro - -
  unfold recT
  refine cut_at (fun _ : Unit => ⟨[(0, .v (.int .i64 v)), (2, .lst 2 (raw.map rv)), (3, .lst 1 (texts.map tv)), (5, .ptr 0 0), (8, .ptr 1 0), (9, .ptr 2 0)], [some (.var 25 [.v (.int .i64 a0), .v (.int .i64 a1), .v (.int .i64 a2), .v (.int .i64 a3), .v (.int .i64 a4)]), some (.var 24 (recT [] [] 0 0 [] (.v (.slice none 0 0)))), some (.var 24 (recT (keyS (pickN a0 4)) (valueS texts a1) (if a2.tmod 7 = 0 then 9007199254740992 else pickN a2 400) 0 [] (.v (.slice none 0 0))))]⟩) (fun _ => True) ?_ ?_
  · simp (maxSteps := 4000000) only [EV, EVF, XV, cond_true, cond_false, Bool.false_eq_true, Bool.true_eq_false, eq_self, normsOf, cutsOf, heapOf, quietOf, drawsOf, drawmOf, drawfOf, opnOf, coldOf, shutOf, iceOf, extOf, extOverlaps_eq, overB_eq, extCmp_eq, shpOf, Try.f10, ↓reduceIte, Nat.reduceAdd, Nat.reduceLT, Nat.reduceEqDiff, Nat.reduceLeDiff, Nat.succ_ne_zero, Nat.zero_ne_one, Nat.one_ne_zero, ne_eq, not_false_eq_true, true_and, and_true, Nat.reduceMul, Nat.reduceSub, Int.reduceToNat, Int.toNat_zero, Int.toNat_one, Nat.zero_mul, Nat.one_mul, Int.reduceLT, Int.reduceLE, Int.le_refl, Int.zero_lt_one, Int.toNat_natCast, List.take_length, Int.cast_ofNat_Int, Int.reduceAdd, Int.reduceSub, Int.reduceBEq, Int.reduceBNe, ge_iff_le, gt_iff_lt, decide_true, decide_false, Int.lt_irrefl, Nat.zero_add, Nat.add_zero]
    by_cases ht0 : texts = []
    · have e0 : (0 < (texts.length : Int)) = False := by simp [ht0]
      simp (maxSteps := 4000000) only [EV, EVF, XV, cond_true, cond_false, Bool.false_eq_true, Bool.true_eq_false, eq_self, normsOf, cutsOf, heapOf, quietOf, drawsOf, drawmOf, drawfOf, opnOf, coldOf, shutOf, iceOf, extOf, extOverlaps_eq, overB_eq, extCmp_eq, shpOf, Try.f10, ↓reduceIte, Nat.reduceAdd, Nat.reduceLT, Nat.reduceEqDiff, Nat.reduceLeDiff, Nat.succ_ne_zero, Nat.zero_ne_one, Nat.one_ne_zero, ne_eq, not_false_eq_true, true_and, and_true, Nat.reduceMul, Nat.reduceSub, Int.reduceToNat, Int.toNat_zero, Int.toNat_one, Nat.zero_mul, Nat.one_mul, Int.reduceLT, Int.reduceLE, Int.le_refl, Int.zero_lt_one, Int.toNat_natCast, List.take_length, Int.cast_ofNat_Int, Int.reduceAdd, Int.reduceSub, Int.reduceBEq, Int.reduceBNe, ge_iff_le, gt_iff_lt, decide_true, decide_false, Int.lt_irrefl, Nat.zero_add, Nat.add_zero, e0, decide_false]
      rw [show valueS texts a1 = [] by simp [valueS, ht0]]
      exact ⟨(), rfl⟩
    · have hpos : 0 < texts.length := List.length_pos_iff.2 ht0
      have e0 : (0 < (texts.length : Int)) = True := eq_true (by omega)
      simp (maxSteps := 4000000) only [EV, EVF, XV, cond_true, cond_false, Bool.false_eq_true, Bool.true_eq_false, eq_self, normsOf, cutsOf, heapOf, quietOf, drawsOf, drawmOf, drawfOf, opnOf, coldOf, shutOf, iceOf, extOf, extOverlaps_eq, overB_eq, extCmp_eq, shpOf, Try.f10, ↓reduceIte, Nat.reduceAdd, Nat.reduceLT, Nat.reduceEqDiff, Nat.reduceLeDiff, Nat.succ_ne_zero, Nat.zero_ne_one, Nat.one_ne_zero, ne_eq, not_false_eq_true, true_and, and_true, Nat.reduceMul, Nat.reduceSub, Int.reduceToNat, Int.toNat_zero, Int.toNat_one, Nat.zero_mul, Nat.one_mul, Int.reduceLT, Int.reduceLE, Int.le_refl, Int.zero_lt_one, Int.toNat_natCast, List.take_length, Int.cast_ofNat_Int, Int.reduceAdd, Int.reduceSub, Int.reduceBEq, Int.reduceBNe, ge_iff_le, gt_iff_lt, decide_true, decide_false, Int.lt_irrefl, Nat.zero_add, Nat.add_zero, e0, decide_true]
      refine pick3_w m (by omega) _ _ (by omega) _ ?_
      have b2 := pickN_bd h1.1 h1.2 (show (0 : Int) < texts.length by omega)
      obtain ⟨d, hd1⟩ : ∃ d, texts[(pickN a1 texts.length).toNat]? = some d := ⟨_, List.getElem?_eq_getElem (show (pickN a1 texts.length).toNat < texts.length by omega)⟩
      have hd2 := map_at (f := tv) hd1
      have q1 : (0 ≤ pickN a1 texts.length) = True := eq_true b2.1
      have q2 : (pickN a1 texts.length < texts.length) = True := eq_true b2.2
      have hv : valueS texts a1 = d.take 200 := by
        unfold valueS
        rw [if_neg ht0]
        simp [List.getD, hd1]
      simp (maxSteps := 4000000) only [EV, EVF, XV, cond_true, cond_false, Bool.false_eq_true, Bool.true_eq_false, eq_self, normsOf, cutsOf, heapOf, quietOf, drawsOf, drawmOf, drawfOf, opnOf, coldOf, shutOf, iceOf, extOf, extOverlaps_eq, overB_eq, extCmp_eq, shpOf, Try.f10, ↓reduceIte, Nat.reduceAdd, Nat.reduceLT, Nat.reduceEqDiff, Nat.reduceLeDiff, Nat.succ_ne_zero, Nat.zero_ne_one, Nat.one_ne_zero, ne_eq, not_false_eq_true, true_and, and_true, Nat.reduceMul, Nat.reduceSub, Int.reduceToNat, Int.toNat_zero, Int.toNat_one, Nat.zero_mul, Nat.one_mul, Int.reduceLT, Int.reduceLE, Int.le_refl, Int.zero_lt_one, Int.toNat_natCast, List.take_length, Int.cast_ofNat_Int, Int.reduceAdd, Int.reduceSub, Int.reduceBEq, Int.reduceBNe, ge_iff_le, gt_iff_lt, decide_true, decide_false, Int.lt_irrefl, Nat.zero_add, Nat.add_zero, q1, q2, hd2, tv]
      rw [hv, ← take_min200 d]
      refine ⟨by split <;> omega, by split <;> omega, (), rfl⟩
  rintro - -
  unfold recT
  refine cut_at (fun _ : Unit => ⟨[(0, .v (.int .i64 v)), (2, .lst 2 (raw.map rv)), (3, .lst 1 (texts.map tv)), (8, .ptr 0 0), (9, .ptr 1 0)], [some (.var 24 (recT [] [] 0 0 [] (.v (.slice none 0 0)))), some (.var 24 (recT (keyS (pickN a0 4)) (valueS texts a1) (if a2.tmod 7 = 0 then 9007199254740992 else pickN a2 400) (if v = 2 then pickN a3 300 else 0) (if v = 2 then noteS (pickN a4 4) else []) (.v (.slice none 0 0))))]⟩) (fun _ => True) ?_ ?_
  · simp (maxSteps := 4000000) only [EV, EVF, XV, cond_true, cond_false, Bool.false_eq_true, Bool.true_eq_false, eq_self, normsOf, cutsOf, heapOf, quietOf, drawsOf, drawmOf, drawfOf, opnOf, coldOf, shutOf, iceOf, extOf, extOverlaps_eq, overB_eq, extCmp_eq, shpOf, Try.f10, ↓reduceIte, Nat.reduceAdd, Nat.reduceLT, Nat.reduceEqDiff, Nat.reduceLeDiff, Nat.succ_ne_zero, Nat.zero_ne_one, Nat.one_ne_zero, ne_eq, not_false_eq_true, true_and, and_true, Nat.reduceMul, Nat.reduceSub, Int.reduceToNat, Int.toNat_zero, Int.toNat_one, Nat.zero_mul, Nat.one_mul, Int.reduceLT, Int.reduceLE, Int.le_refl, Int.zero_lt_one, Int.toNat_natCast, List.take_length, Int.cast_ofNat_Int, Int.reduceAdd, Int.reduceSub, Int.reduceBEq, Int.reduceBNe, ge_iff_le, gt_iff_lt, decide_true, decide_false, Int.lt_irrefl, Nat.zero_add, Nat.add_zero]
    refine IF_beq (fun h => ?_) (fun h => ?_)
    · have b4 := pickN_bd h4.1 h4.2 (show (0 : Int) < 4 by omega)
      have q1 : (0 ≤ pickN a4 4) = True := eq_true b4.1
      have q2 : (pickN a4 4 < 4) = True := eq_true b4.2
      have q3 := note_at b4.1 b4.2
      simp (maxSteps := 4000000) only [EV, EVF, XV, cond_true, cond_false, Bool.false_eq_true, Bool.true_eq_false, eq_self, normsOf, cutsOf, heapOf, quietOf, drawsOf, drawmOf, drawfOf, opnOf, coldOf, shutOf, iceOf, extOf, extOverlaps_eq, overB_eq, extCmp_eq, shpOf, Try.f10, ↓reduceIte, Nat.reduceAdd, Nat.reduceLT, Nat.reduceEqDiff, Nat.reduceLeDiff, Nat.succ_ne_zero, Nat.zero_ne_one, Nat.one_ne_zero, ne_eq, not_false_eq_true, true_and, and_true, Nat.reduceMul, Nat.reduceSub, Int.reduceToNat, Int.toNat_zero, Int.toNat_one, Nat.zero_mul, Nat.one_mul, Int.reduceLT, Int.reduceLE, Int.le_refl, Int.zero_lt_one, Int.toNat_natCast, List.take_length, Int.cast_ofNat_Int, Int.reduceAdd, Int.reduceSub, Int.reduceBEq, Int.reduceBNe, ge_iff_le, gt_iff_lt, decide_true, decide_false, Int.lt_irrefl, Nat.zero_add, Nat.add_zero]
      refine pick3_w m (by omega) _ _ (by omega) _ ?_
      simp (maxSteps := 4000000) only [EV, EVF, XV, cond_true, cond_false, Bool.false_eq_true, Bool.true_eq_false, eq_self, normsOf, cutsOf, heapOf, quietOf, drawsOf, drawmOf, drawfOf, opnOf, coldOf, shutOf, iceOf, extOf, extOverlaps_eq, overB_eq, extCmp_eq, shpOf, Try.f10, ↓reduceIte, Nat.reduceAdd, Nat.reduceLT, Nat.reduceEqDiff, Nat.reduceLeDiff, Nat.succ_ne_zero, Nat.zero_ne_one, Nat.one_ne_zero, ne_eq, not_false_eq_true, true_and, and_true, Nat.reduceMul, Nat.reduceSub, Int.reduceToNat, Int.toNat_zero, Int.toNat_one, Nat.zero_mul, Nat.one_mul, Int.reduceLT, Int.reduceLE, Int.le_refl, Int.zero_lt_one, Int.toNat_natCast, List.take_length, Int.cast_ofNat_Int, Int.reduceAdd, Int.reduceSub, Int.reduceBEq, Int.reduceBNe, ge_iff_le, gt_iff_lt, decide_true, decide_false, Int.lt_irrefl, Nat.zero_add, Nat.add_zero]
      refine pick3_w m (by omega) _ _ (by omega) _ ?_
      simp (maxSteps := 4000000) only [EV, EVF, XV, cond_true, cond_false, Bool.false_eq_true, Bool.true_eq_false, eq_self, normsOf, cutsOf, heapOf, quietOf, drawsOf, drawmOf, drawfOf, opnOf, coldOf, shutOf, iceOf, extOf, extOverlaps_eq, overB_eq, extCmp_eq, shpOf, Try.f10, ↓reduceIte, Nat.reduceAdd, Nat.reduceLT, Nat.reduceEqDiff, Nat.reduceLeDiff, Nat.succ_ne_zero, Nat.zero_ne_one, Nat.one_ne_zero, ne_eq, not_false_eq_true, true_and, and_true, Nat.reduceMul, Nat.reduceSub, Int.reduceToNat, Int.toNat_zero, Int.toNat_one, Nat.zero_mul, Nat.one_mul, Int.reduceLT, Int.reduceLE, Int.le_refl, Int.zero_lt_one, Int.toNat_natCast, List.take_length, Int.cast_ofNat_Int, Int.reduceAdd, Int.reduceSub, Int.reduceBEq, Int.reduceBNe, ge_iff_le, gt_iff_lt, decide_true, decide_false, Int.lt_irrefl, Nat.zero_add, Nat.add_zero, q1, q2, q3]
      rw [if_pos h, if_pos h]
      exact ⟨(), rfl⟩
    · simp (maxSteps := 4000000) only [EV, EVF, XV, cond_true, cond_false, Bool.false_eq_true, Bool.true_eq_false, eq_self, normsOf, cutsOf, heapOf, quietOf, drawsOf, drawmOf, drawfOf, opnOf, coldOf, shutOf, iceOf, extOf, extOverlaps_eq, overB_eq, extCmp_eq, shpOf, Try.f10, ↓reduceIte, Nat.reduceAdd, Nat.reduceLT, Nat.reduceEqDiff, Nat.reduceLeDiff, Nat.succ_ne_zero, Nat.zero_ne_one, Nat.one_ne_zero, ne_eq, not_false_eq_true, true_and, and_true, Nat.reduceMul, Nat.reduceSub, Int.reduceToNat, Int.toNat_zero, Int.toNat_one, Nat.zero_mul, Nat.one_mul, Int.reduceLT, Int.reduceLE, Int.le_refl, Int.zero_lt_one, Int.toNat_natCast, List.take_length, Int.cast_ofNat_Int, Int.reduceAdd, Int.reduceSub, Int.reduceBEq, Int.reduceBNe, ge_iff_le, gt_iff_lt, decide_true, decide_false, Int.lt_irrefl, Nat.zero_add, Nat.add_zero]
      rw [if_neg h, if_neg h]
      exact ⟨(), rfl⟩
  rintro - -
  unfold recT
  simp (maxSteps := 4000000) only [EV, EVF, XV, cond_true, cond_false, Bool.false_eq_true, Bool.true_eq_false, eq_self, normsOf, cutsOf, heapOf, quietOf, drawsOf, drawmOf, drawfOf, opnOf, coldOf, shutOf, iceOf, extOf, extOverlaps_eq, overB_eq, extCmp_eq, shpOf, Try.f10, ↓reduceIte, Nat.reduceAdd, Nat.reduceLT, Nat.reduceEqDiff, Nat.reduceLeDiff, Nat.succ_ne_zero, Nat.zero_ne_one, Nat.one_ne_zero, ne_eq, not_false_eq_true, true_and, and_true, Nat.reduceMul, Nat.reduceSub, Int.reduceToNat, Int.toNat_zero, Int.toNat_one, Nat.zero_mul, Nat.one_mul, Int.reduceLT, Int.reduceLE, Int.le_refl, Int.zero_lt_one, Int.toNat_natCast, List.take_length, Int.cast_ofNat_Int, Int.reduceAdd, Int.reduceSub, Int.reduceBEq, Int.reduceBNe, ge_iff_le, gt_iff_lt, decide_true, decide_false, Int.lt_irrefl, Nat.zero_add, Nat.add_zero]
  refine fields_w m (by omega) raw texts hr ht _ ?_
  simp (maxSteps := 4000000) only [EV, EVF, XV, cond_true, cond_false, Bool.false_eq_true, Bool.true_eq_false, eq_self, normsOf, cutsOf, heapOf, quietOf, drawsOf, drawmOf, drawfOf, opnOf, coldOf, shutOf, iceOf, extOf, extOverlaps_eq, overB_eq, extCmp_eq, shpOf, Try.f10, ↓reduceIte, Nat.reduceAdd, Nat.reduceLT, Nat.reduceEqDiff, Nat.reduceLeDiff, Nat.succ_ne_zero, Nat.zero_ne_one, Nat.one_ne_zero, ne_eq, not_false_eq_true, true_and, and_true, Nat.reduceMul, Nat.reduceSub, Int.reduceToNat, Int.toNat_zero, Int.toNat_one, Nat.zero_mul, Nat.one_mul, Int.reduceLT, Int.reduceLE, Int.le_refl, Int.zero_lt_one, Int.toNat_natCast, List.take_length, Int.cast_ofNat_Int, Int.reduceAdd, Int.reduceSub, Int.reduceBEq, Int.reduceBNe, ge_iff_le, gt_iff_lt, decide_true, decide_false, Int.lt_irrefl, Nat.zero_add, Nat.add_zero]
  have hfr := fieldsS_right texts (fun p hp => (hr p hp).1)
  have hKr : ∀ H, K (.agg (recT (keyS (pickN a0 4)) (valueS texts a1) (if a2.tmod 7 = 0 then 9007199254740992 else pickN a2 400) (if v = 2 then pickN a3 300 else 0) (if v = 2 then noteS (pickN a4 4) else []) (.lst 2 ((((fieldsS raw texts).take 6).map (shiftF v)).map fv)))) H := hK
  generalize fieldsS raw texts = l at hfr hKr ⊢
  generalize keyS (pickN a0 4) = key at hKr ⊢
  generalize valueS texts a1 = value at hKr ⊢
  generalize (if a2.tmod 7 = 0 then 9007199254740992 else pickN a2 400) = rev at hKr ⊢
  generalize (if v = 2 then pickN a3 300 else 0) = life at hKr ⊢
  generalize (if v = 2 then noteS (pickN a4 4) else []) = note at hKr ⊢
  have hb := (right_bd hfr.1).2
  refine loop_at (recSt v l key value rev life note) (fun i => i ≤ l.length ∧ i ≤ 6) (fun i => 6 - i) 0 ⟨by simp, by simp⟩ (by simp [recSt, recH, recT, recL]) ?_
  rintro i ⟨h1, h2⟩
  by_cases hi : i < l.length ∧ i < 6
  · obtain ⟨f, hf, hd⟩ := drop_at hi.1
    have hf1 := map_at (f := fv) (recL_at (v := v) hf)
    have hk1 : ((i : Int) < l.length) = True := eq_true (by omega)
    have hk2 : ((i : Int) < 6) = True := eq_true (by omega)
    have hbf := hb f (List.mem_of_getElem? hf)
    have w : IntKind.i64.wrap (IntKind.i64.wrap (f.1 + 3) + IntKind.i64.wrap (2 * IntKind.i64.wrap (v - 1))) = (shiftF v f).1 := by
      rw [wrap64 (x := v - 1) (by omega) (by omega), wrap64 (x := 2 * (v - 1)) (by omega) (by omega), wrap64 (x := f.1 + 3) (by omega) (by omega), wrap64 (by omega) (by omega)]
      rfl
    have hset : ((recL v l i).map fv).set i [.v (.int .i64 (shiftF v f).1), .v (.string (mk f.2))] = (recL v l (i + 1)).map fv := by
      rw [← recL_set (v := v) hf, List.map_set]
      rfl
    have hf2 : ((recL v l (i + 1)).map fv)[i]? = some [.v (.int .i64 (shiftF v f).1), .v (.string (mk f.2))] := by
      rw [← hset, List.getElem?_set_self]
      rw [List.length_map]
      exact (List.getElem?_eq_some_iff.1 (recL_at (v := v) hf)).1
    have w1 : IntKind.i64.wrap ((i : Int) + 1) = ((i + 1 : Nat) : Int) := by rw [wrap64 (by omega) (by omega)]; rfl
    have htk := take_snoc' hf
    cases i with
    | zero =>
      have hk0 : (0 < (l.length : Int)) = True := hk1
      simp only [recSt, recH, recT]
      simp (maxSteps := 4000000) only [EV, EVF, XV, cond_true, cond_false, Bool.false_eq_true, Bool.true_eq_false, eq_self, normsOf, cutsOf, heapOf, quietOf, drawsOf, drawmOf, drawfOf, opnOf, coldOf, shutOf, iceOf, extOf, extOverlaps_eq, overB_eq, extCmp_eq, shpOf, Try.f10, ↓reduceIte, Nat.reduceAdd, Nat.reduceLT, Nat.reduceEqDiff, Nat.reduceLeDiff, Nat.succ_ne_zero, Nat.zero_ne_one, Nat.one_ne_zero, ne_eq, not_false_eq_true, true_and, and_true, Nat.reduceMul, Nat.reduceSub, Int.reduceToNat, Int.toNat_zero, Int.toNat_one, Nat.zero_mul, Nat.one_mul, Int.reduceLT, Int.reduceLE, Int.le_refl, Int.zero_lt_one, Int.toNat_natCast, List.take_length, Int.cast_ofNat_Int, Int.reduceAdd, Int.reduceSub, Int.reduceBEq, Int.reduceBNe, ge_iff_le, gt_iff_lt, decide_true, decide_false, Int.lt_irrefl, Nat.zero_add, Nat.add_zero, hk0, hf1, fv, decide_true, w]
      simp (maxSteps := 4000000) only [EV, EVF, XV, cond_true, cond_false, Bool.false_eq_true, Bool.true_eq_false, eq_self, normsOf, cutsOf, heapOf, quietOf, drawsOf, drawmOf, drawfOf, opnOf, coldOf, shutOf, iceOf, extOf, extOverlaps_eq, overB_eq, extCmp_eq, shpOf, Try.f10, ↓reduceIte, Nat.reduceAdd, Nat.reduceLT, Nat.reduceEqDiff, Nat.reduceLeDiff, Nat.succ_ne_zero, Nat.zero_ne_one, Nat.one_ne_zero, ne_eq, not_false_eq_true, true_and, and_true, Nat.reduceMul, Nat.reduceSub, Int.reduceToNat, Int.toNat_zero, Int.toNat_one, Nat.zero_mul, Nat.one_mul, Int.reduceLT, Int.reduceLE, Int.le_refl, Int.zero_lt_one, Int.toNat_natCast, List.take_length, Int.cast_ofNat_Int, Int.reduceAdd, Int.reduceSub, Int.reduceBEq, Int.reduceBNe, ge_iff_le, gt_iff_lt, decide_true, decide_false, Int.lt_irrefl, Nat.zero_add, Nat.add_zero, hset, hf2]
      have e : ((l.take 1).map (shiftF v)).map fv = [[.v (.int .i64 (shiftF v f).1), .v (.string (mk f.2))]] := by rw [show l.take 1 = [f] by simpa using htk]; simp [fv, shiftF]
      refine ⟨1, ⟨by omega, by omega⟩, by omega, ?_⟩
      simp only [recSt, recH, recT, e]
      rfl
    | succ k =>
      simp only [recSt, recH, recT]
      simp (maxSteps := 4000000) only [EV, EVF, XV, cond_true, cond_false, Bool.false_eq_true, Bool.true_eq_false, eq_self, normsOf, cutsOf, heapOf, quietOf, drawsOf, drawmOf, drawfOf, opnOf, coldOf, shutOf, iceOf, extOf, extOverlaps_eq, overB_eq, extCmp_eq, shpOf, Try.f10, ↓reduceIte, Nat.reduceAdd, Nat.reduceLT, Nat.reduceEqDiff, Nat.reduceLeDiff, Nat.succ_ne_zero, Nat.zero_ne_one, Nat.one_ne_zero, ne_eq, not_false_eq_true, true_and, and_true, Nat.reduceMul, Nat.reduceSub, Int.reduceToNat, Int.toNat_zero, Int.toNat_one, Nat.zero_mul, Nat.one_mul, Int.reduceLT, Int.reduceLE, Int.le_refl, Int.zero_lt_one, Int.toNat_natCast, List.take_length, Int.cast_ofNat_Int, Int.reduceAdd, Int.reduceSub, Int.reduceBEq, Int.reduceBNe, ge_iff_le, gt_iff_lt, decide_true, decide_false, Int.lt_irrefl, Nat.zero_add, Nat.add_zero, hk1, hk2, hf1, fv, decide_true, w]
      simp (maxSteps := 4000000) only [EV, EVF, XV, cond_true, cond_false, Bool.false_eq_true, Bool.true_eq_false, eq_self, normsOf, cutsOf, heapOf, quietOf, drawsOf, drawmOf, drawfOf, opnOf, coldOf, shutOf, iceOf, extOf, extOverlaps_eq, overB_eq, extCmp_eq, shpOf, Try.f10, ↓reduceIte, Nat.reduceAdd, Nat.reduceLT, Nat.reduceEqDiff, Nat.reduceLeDiff, Nat.succ_ne_zero, Nat.zero_ne_one, Nat.one_ne_zero, ne_eq, not_false_eq_true, true_and, and_true, Nat.reduceMul, Nat.reduceSub, Int.reduceToNat, Int.toNat_zero, Int.toNat_one, Nat.zero_mul, Nat.one_mul, Int.reduceLT, Int.reduceLE, Int.le_refl, Int.zero_lt_one, Int.toNat_natCast, List.take_length, Int.cast_ofNat_Int, Int.reduceAdd, Int.reduceSub, Int.reduceBEq, Int.reduceBNe, ge_iff_le, gt_iff_lt, decide_true, decide_false, Int.lt_irrefl, Nat.zero_add, Nat.add_zero, hset, hf2]
      have hkl : (l.take (k + 1)).length = k + 1 := by rw [List.length_take]; omega
      have e : ((l.take (k + 1 + 1)).map (shiftF v)).map fv = ((l.take (k + 1)).map (shiftF v)).map fv ++ [[.v (.int .i64 (shiftF v f).1), .v (.string (mk f.2))]] := by rw [htk]; simp [fv, shiftF]
      refine ⟨hkl.symm, by omega, k + 2, ⟨by omega, by omega⟩, by omega, ?_⟩
      rw [w1, hkl]
      simp only [recSt, recH, recT, e]
  · have hend : l.take i = l.take 6 := by
      by_cases h6 : i = 6
      · rw [h6]
      · rw [List.take_of_length_le (by omega), List.take_of_length_le (by omega)]
    rw [← hend] at hKr
    by_cases hil : i < l.length
    · have h6 : i = 6 := by omega
      subst h6
      have hk1 : ((6 : Int) < l.length) = True := eq_true (by omega)
      simp only [recSt, recH, recT]
      simp (maxSteps := 4000000) only [EV, EVF, XV, cond_true, cond_false, Bool.false_eq_true, Bool.true_eq_false, eq_self, normsOf, cutsOf, heapOf, quietOf, drawsOf, drawmOf, drawfOf, opnOf, coldOf, shutOf, iceOf, extOf, extOverlaps_eq, overB_eq, extCmp_eq, shpOf, Try.f10, ↓reduceIte, Nat.reduceAdd, Nat.reduceLT, Nat.reduceEqDiff, Nat.reduceLeDiff, Nat.succ_ne_zero, Nat.zero_ne_one, Nat.one_ne_zero, ne_eq, not_false_eq_true, true_and, and_true, Nat.reduceMul, Nat.reduceSub, Int.reduceToNat, Int.toNat_zero, Int.toNat_one, Nat.zero_mul, Nat.one_mul, Int.reduceLT, Int.reduceLE, Int.le_refl, Int.zero_lt_one, Int.toNat_natCast, List.take_length, Int.cast_ofNat_Int, Int.reduceAdd, Int.reduceSub, Int.reduceBEq, Int.reduceBNe, ge_iff_le, gt_iff_lt, decide_true, decide_false, Int.lt_irrefl, Nat.zero_add, Nat.add_zero, hk1, decide_true]
      rw [List.take_of_length_le (by simp; omega)]
      exact hKr _
    · have hk1 : ((i : Int) < l.length) = False := eq_false (by omega)
      cases i with
      | zero =>
        have hk0 : (0 < (l.length : Int)) = False := hk1
        simp only [recSt, recH, recT]
        simp (maxSteps := 4000000) only [EV, EVF, XV, cond_true, cond_false, Bool.false_eq_true, Bool.true_eq_false, eq_self, normsOf, cutsOf, heapOf, quietOf, drawsOf, drawmOf, drawfOf, opnOf, coldOf, shutOf, iceOf, extOf, extOverlaps_eq, overB_eq, extCmp_eq, shpOf, Try.f10, ↓reduceIte, Nat.reduceAdd, Nat.reduceLT, Nat.reduceEqDiff, Nat.reduceLeDiff, Nat.succ_ne_zero, Nat.zero_ne_one, Nat.one_ne_zero, ne_eq, not_false_eq_true, true_and, and_true, Nat.reduceMul, Nat.reduceSub, Int.reduceToNat, Int.toNat_zero, Int.toNat_one, Nat.zero_mul, Nat.one_mul, Int.reduceLT, Int.reduceLE, Int.le_refl, Int.zero_lt_one, Int.toNat_natCast, List.take_length, Int.cast_ofNat_Int, Int.reduceAdd, Int.reduceSub, Int.reduceBEq, Int.reduceBNe, ge_iff_le, gt_iff_lt, decide_true, decide_false, Int.lt_irrefl, Nat.zero_add, Nat.add_zero, hk0, decide_false]
        exact hKr _
      | succ k =>
        simp only [recSt, recH, recT]
        simp (maxSteps := 4000000) only [EV, EVF, XV, cond_true, cond_false, Bool.false_eq_true, Bool.true_eq_false, eq_self, normsOf, cutsOf, heapOf, quietOf, drawsOf, drawmOf, drawfOf, opnOf, coldOf, shutOf, iceOf, extOf, extOverlaps_eq, overB_eq, extCmp_eq, shpOf, Try.f10, ↓reduceIte, Nat.reduceAdd, Nat.reduceLT, Nat.reduceEqDiff, Nat.reduceLeDiff, Nat.succ_ne_zero, Nat.zero_ne_one, Nat.one_ne_zero, ne_eq, not_false_eq_true, true_and, and_true, Nat.reduceMul, Nat.reduceSub, Int.reduceToNat, Int.toNat_zero, Int.toNat_one, Nat.zero_mul, Nat.one_mul, Int.reduceLT, Int.reduceLE, Int.le_refl, Int.zero_lt_one, Int.toNat_natCast, List.take_length, Int.cast_ofNat_Int, Int.reduceAdd, Int.reduceSub, Int.reduceBEq, Int.reduceBNe, ge_iff_le, gt_iff_lt, decide_true, decide_false, Int.lt_irrefl, Nat.zero_add, Nat.add_zero, hk1, decide_false]
        rw [List.take_of_length_le (by simp; omega)]
        exact hKr _
end Go.Ai

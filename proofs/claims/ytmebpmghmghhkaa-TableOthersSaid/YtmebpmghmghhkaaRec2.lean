/- Records: DeleteFunc, Last, within, number; walked. -/
import Derived.Test.YtmebpmghmghhkaaRecS
import Derived.Test.YtmebpmghmghhkaaField1
import Derived.Test.YtmebpmghmghhkaaRowP
set_option linter.unusedVariables false
set_option linter.unusedSimpArgs false
set_option maxRecDepth 100000
set_option maxHeartbeats 4000000
namespace Go.Ai
open Go.Proofs
theorem last_w (m : Nat) (hm : 1 ≤ m) (v : Int) (K : AV → Hp → Prop) (hK : K (.v (.int .i64 (lastS v))) []) : wpF C m 30 [.v (.int .i64 v)] [] K := by
  obtain ⟨m, rfl⟩ : ∃ j, m = j + 1 := ⟨m - 1, by omega⟩; simp only [wpF, bodyA, fn_30, C_P, ok_30, C_prim, primOf, true_and]; simp (maxSteps := 4000000) only [EV, EVF, XV, cond_true, cond_false, Bool.false_eq_true, Bool.true_eq_false, eq_self, normsOf, cutsOf, heapOf, quietOf, drawsOf, drawmOf, drawfOf, opnOf, coldOf, shutOf, iceOf, extOf, extOverlaps_eq, overB_eq, extCmp_eq, shpOf, Try.f30, ↓reduceIte, Nat.reduceAdd, Nat.reduceLT, Nat.reduceEqDiff, Nat.reduceLeDiff, Nat.succ_ne_zero, Nat.zero_ne_one, Nat.one_ne_zero, ne_eq, not_false_eq_true, true_and, and_true, Nat.reduceMul, Nat.reduceSub, Int.reduceToNat, Int.toNat_zero, Int.toNat_one, Nat.zero_mul, Nat.one_mul, Int.reduceLT, Int.reduceLE, Int.le_refl, Int.zero_lt_one, Int.toNat_natCast, List.take_length, Int.cast_ofNat_Int, Int.reduceAdd, Int.reduceSub, Int.reduceBEq, Int.reduceBNe, ge_iff_le, gt_iff_lt, decide_true, decide_false, Int.lt_irrefl, Nat.zero_add, Nat.add_zero]
  unfold lastS at hK
  repeat' ((first | refine IF_dec (fun h => ?_) (fun h => ?_) | refine IF_beq (fun h => ?_) (fun h => ?_) | refine IF_bne (fun h => ?_) (fun h => ?_) | refine IF_of (fun h => ?_) (fun h => ?_)) <;> (try (simp (maxSteps := 4000000) only [EV, EVF, XV, cond_true, cond_false, Bool.false_eq_true, Bool.true_eq_false, eq_self, normsOf, cutsOf, heapOf, quietOf, drawsOf, drawmOf, drawfOf, opnOf, coldOf, shutOf, iceOf, extOf, extOverlaps_eq, overB_eq, extCmp_eq, shpOf, Try.f30, ↓reduceIte, Nat.reduceAdd, Nat.reduceLT, Nat.reduceEqDiff, Nat.reduceLeDiff, Nat.succ_ne_zero, Nat.zero_ne_one, Nat.one_ne_zero, ne_eq, not_false_eq_true, true_and, and_true, Nat.reduceMul, Nat.reduceSub, Int.reduceToNat, Int.toNat_zero, Int.toNat_one, Nat.zero_mul, Nat.one_mul, Int.reduceLT, Int.reduceLE, Int.le_refl, Int.zero_lt_one, Int.toNat_natCast, List.take_length, Int.cast_ofNat_Int, Int.reduceAdd, Int.reduceSub, Int.reduceBEq, Int.reduceBNe, ge_iff_le, gt_iff_lt, decide_true, decide_false, Int.lt_irrefl, Nat.zero_add, Nat.add_zero])))
  all_goals (simp only [*, if_true, if_false] at hK; exact hK)
theorem within_w (m : Nat) (hm : 1 ≤ m) (n : Int) (K : AV → Hp → Prop) (hK : K (.v (.bool (decide (0 ≤ n) && decide (n ≤ 9007199254740992)))) []) : wpF C m 61 [.v (.int .i64 n)] [] K := by
  obtain ⟨m, rfl⟩ : ∃ j, m = j + 1 := ⟨m - 1, by omega⟩; simp only [wpF, bodyA, fn_61, C_P, ok_61, C_prim, primOf, true_and]; simp (maxSteps := 4000000) only [EV, EVF, XV, cond_true, cond_false, Bool.false_eq_true, Bool.true_eq_false, eq_self, normsOf, cutsOf, heapOf, quietOf, drawsOf, drawmOf, drawfOf, opnOf, coldOf, shutOf, iceOf, extOf, extOverlaps_eq, overB_eq, extCmp_eq, shpOf, Try.f61, ↓reduceIte, Nat.reduceAdd, Nat.reduceLT, Nat.reduceEqDiff, Nat.reduceLeDiff, Nat.succ_ne_zero, Nat.zero_ne_one, Nat.one_ne_zero, ne_eq, not_false_eq_true, true_and, and_true, Nat.reduceMul, Nat.reduceSub, Int.reduceToNat, Int.toNat_zero, Int.toNat_one, Nat.zero_mul, Nat.one_mul, Int.reduceLT, Int.reduceLE, Int.le_refl, Int.zero_lt_one, Int.toNat_natCast, List.take_length, Int.cast_ofNat_Int, Int.reduceAdd, Int.reduceSub, Int.reduceBEq, Int.reduceBNe, ge_iff_le, gt_iff_lt, decide_true, decide_false, Int.lt_irrefl, Nat.zero_add, Nat.add_zero]
  repeat' ((first | refine IF_dec (fun h => ?_) (fun h => ?_) | refine IF_beq (fun h => ?_) (fun h => ?_) | refine IF_bne (fun h => ?_) (fun h => ?_) | refine IF_of (fun h => ?_) (fun h => ?_)) <;> (try (simp (maxSteps := 4000000) only [EV, EVF, XV, cond_true, cond_false, Bool.false_eq_true, Bool.true_eq_false, eq_self, normsOf, cutsOf, heapOf, quietOf, drawsOf, drawmOf, drawfOf, opnOf, coldOf, shutOf, iceOf, extOf, extOverlaps_eq, overB_eq, extCmp_eq, shpOf, Try.f61, ↓reduceIte, Nat.reduceAdd, Nat.reduceLT, Nat.reduceEqDiff, Nat.reduceLeDiff, Nat.succ_ne_zero, Nat.zero_ne_one, Nat.one_ne_zero, ne_eq, not_false_eq_true, true_and, and_true, Nat.reduceMul, Nat.reduceSub, Int.reduceToNat, Int.toNat_zero, Int.toNat_one, Nat.zero_mul, Nat.one_mul, Int.reduceLT, Int.reduceLE, Int.le_refl, Int.zero_lt_one, Int.toNat_natCast, List.take_length, Int.cast_ofNat_Int, Int.reduceAdd, Int.reduceSub, Int.reduceBEq, Int.reduceBNe, ge_iff_le, gt_iff_lt, decide_true, decide_false, Int.lt_irrefl, Nat.zero_add, Nat.add_zero])))
  all_goals (simp only [*, decide_true, decide_false, Bool.true_and, Bool.false_and] at hK; exact hK)
theorem c1_w (m : Nat) (hm : 1 ≤ m) (f : Fld) (K : AV → Hp → Prop) (hK : ∀ H, K (.v (.bool (!isOther f))) H) : wpF C m 63 [.agg [.v (.int .i64 f.1), .v (.string (mk f.2))]] [] K := by
  obtain ⟨m, rfl⟩ : ∃ j, m = j + 1 := ⟨m - 1, by omega⟩; simp only [wpF, bodyA, fn_63, C_P, ok_63, C_prim, primOf, true_and]; simp (maxSteps := 4000000) only [EV, EVF, XV, cond_true, cond_false, Bool.false_eq_true, Bool.true_eq_false, eq_self, normsOf, cutsOf, heapOf, quietOf, drawsOf, drawmOf, drawfOf, opnOf, coldOf, shutOf, iceOf, extOf, extOverlaps_eq, overB_eq, extCmp_eq, shpOf, Try.f63, ↓reduceIte, Nat.reduceAdd, Nat.reduceLT, Nat.reduceEqDiff, Nat.reduceLeDiff, Nat.succ_ne_zero, Nat.zero_ne_one, Nat.one_ne_zero, ne_eq, not_false_eq_true, true_and, and_true, Nat.reduceMul, Nat.reduceSub, Int.reduceToNat, Int.toNat_zero, Int.toNat_one, Nat.zero_mul, Nat.one_mul, Int.reduceLT, Int.reduceLE, Int.le_refl, Int.zero_lt_one, Int.toNat_natCast, List.take_length, Int.cast_ofNat_Int, Int.reduceAdd, Int.reduceSub, Int.reduceBEq, Int.reduceBNe, ge_iff_le, gt_iff_lt, decide_true, decide_false, Int.lt_irrefl, Nat.zero_add, Nat.add_zero]
  have h1 := hK [some (.var 58 [.v (.int .i64 f.1), .v (.string (mk f.2))])]
  unfold isOther at h1
  repeat' ((first | refine IF_dec (fun h => ?_) (fun h => ?_) | refine IF_beq (fun h => ?_) (fun h => ?_) | refine IF_bne (fun h => ?_) (fun h => ?_) | refine IF_of (fun h => ?_) (fun h => ?_)) <;> (try (simp (maxSteps := 4000000) only [EV, EVF, XV, cond_true, cond_false, Bool.false_eq_true, Bool.true_eq_false, eq_self, normsOf, cutsOf, heapOf, quietOf, drawsOf, drawmOf, drawfOf, opnOf, coldOf, shutOf, iceOf, extOf, extOverlaps_eq, overB_eq, extCmp_eq, shpOf, Try.f63, ↓reduceIte, Nat.reduceAdd, Nat.reduceLT, Nat.reduceEqDiff, Nat.reduceLeDiff, Nat.succ_ne_zero, Nat.zero_ne_one, Nat.one_ne_zero, ne_eq, not_false_eq_true, true_and, and_true, Nat.reduceMul, Nat.reduceSub, Int.reduceToNat, Int.toNat_zero, Int.toNat_one, Nat.zero_mul, Nat.one_mul, Int.reduceLT, Int.reduceLE, Int.le_refl, Int.zero_lt_one, Int.toNat_natCast, List.take_length, Int.cast_ofNat_Int, Int.reduceAdd, Int.reduceSub, Int.reduceBEq, Int.reduceBNe, ge_iff_le, gt_iff_lt, decide_true, decide_false, Int.lt_irrefl, Nat.zero_add, Nat.add_zero])))
  · simpa [h] using h1
  · rw [show (f.1 == 4) = false by simp [h], Bool.false_or, Bool.not_not] at h1
    exact h1
theorem clone_w (m : Nat) (hm : 1 ≤ m) (l : List Fld) (hl : l.length * 24 ≤ 140737488351232) (K : AV → Hp → Prop) (hK : K (.row 0 2 0 l.length) [some (.row 58 2 (l.map fv))]) : wpF C m 32 [.lst 2 (l.map fv)] [] K := by
  obtain ⟨m, rfl⟩ : ∃ j, m = j + 1 := ⟨m - 1, by omega⟩; simp only [wpF, bodyA, fn_32, C_P, ok_32, C_prim, primOf, true_and]; simp (maxSteps := 4000000) only [EV, EVF, XV, cond_true, cond_false, Bool.false_eq_true, Bool.true_eq_false, eq_self, normsOf, cutsOf, heapOf, quietOf, drawsOf, drawmOf, drawfOf, opnOf, coldOf, shutOf, iceOf, extOf, extOverlaps_eq, overB_eq, extCmp_eq, shpOf, Try.f32, ↓reduceIte, Nat.reduceAdd, Nat.reduceLT, Nat.reduceEqDiff, Nat.reduceLeDiff, Nat.succ_ne_zero, Nat.zero_ne_one, Nat.one_ne_zero, ne_eq, not_false_eq_true, true_and, and_true, Nat.reduceMul, Nat.reduceSub, Int.reduceToNat, Int.toNat_zero, Int.toNat_one, Nat.zero_mul, Nat.one_mul, Int.reduceLT, Int.reduceLE, Int.le_refl, Int.zero_lt_one, Int.toNat_natCast, List.take_length, Int.cast_ofNat_Int, Int.reduceAdd, Int.reduceSub, Int.reduceBEq, Int.reduceBNe, ge_iff_le, gt_iff_lt, decide_true, decide_false, Int.lt_irrefl, Nat.zero_add, Nat.add_zero]
  rintro b hb
  refine IF_of (fun h => ?_) (fun h => ?_)
  · have hl0 : l = [] := by simpa using hb h
    subst hl0
    simp (maxSteps := 4000000) only [EV, EVF, XV, cond_true, cond_false, Bool.false_eq_true, Bool.true_eq_false, eq_self, normsOf, cutsOf, heapOf, quietOf, drawsOf, drawmOf, drawfOf, opnOf, coldOf, shutOf, iceOf, extOf, extOverlaps_eq, overB_eq, extCmp_eq, shpOf, Try.f32, ↓reduceIte, Nat.reduceAdd, Nat.reduceLT, Nat.reduceEqDiff, Nat.reduceLeDiff, Nat.succ_ne_zero, Nat.zero_ne_one, Nat.one_ne_zero, ne_eq, not_false_eq_true, true_and, and_true, Nat.reduceMul, Nat.reduceSub, Int.reduceToNat, Int.toNat_zero, Int.toNat_one, Nat.zero_mul, Nat.one_mul, Int.reduceLT, Int.reduceLE, Int.le_refl, Int.zero_lt_one, Int.toNat_natCast, List.take_length, Int.cast_ofNat_Int, Int.reduceAdd, Int.reduceSub, Int.reduceBEq, Int.reduceBNe, ge_iff_le, gt_iff_lt, decide_true, decide_false, Int.lt_irrefl, Nat.zero_add, Nat.add_zero]
    exact hK
  · simp (maxSteps := 4000000) only [EV, EVF, XV, cond_true, cond_false, Bool.false_eq_true, Bool.true_eq_false, eq_self, normsOf, cutsOf, heapOf, quietOf, drawsOf, drawmOf, drawfOf, opnOf, coldOf, shutOf, iceOf, extOf, extOverlaps_eq, overB_eq, extCmp_eq, shpOf, Try.f32, ↓reduceIte, Nat.reduceAdd, Nat.reduceLT, Nat.reduceEqDiff, Nat.reduceLeDiff, Nat.succ_ne_zero, Nat.zero_ne_one, Nat.one_ne_zero, ne_eq, not_false_eq_true, true_and, and_true, Nat.reduceMul, Nat.reduceSub, Int.reduceToNat, Int.toNat_zero, Int.toNat_one, Nat.zero_mul, Nat.one_mul, Int.reduceLT, Int.reduceLE, Int.le_refl, Int.zero_lt_one, Int.toNat_natCast, List.take_length, Int.cast_ofNat_Int, Int.reduceAdd, Int.reduceSub, Int.reduceBEq, Int.reduceBNe, ge_iff_le, gt_iff_lt, decide_true, decide_false, Int.lt_irrefl, Nat.zero_add, Nat.add_zero]
    exact ⟨by omega, hK⟩
/-- The first that is to go. -/
def idxP (p : Fld → Bool) (l : List Fld) : Option Nat := l.findIdx? p
def idxW (o : Option Nat) : Int := match o with
  | some k => k
  | none => -1
theorem index1_w (m : Nat) (hm : 2 ≤ m) (l : List Fld) (hl : l.length ≤ 9223372036854775807) (K : AV → Hp → Prop) (hK : K (.v (.int .i64 (idxW (idxP (fun f => !isOther f) l)))) []) : wpF C m 71 [.lst 2 (l.map fv), .fn 63 [] []] [] K := by
  obtain ⟨m, rfl⟩ : ∃ j, m = j + 1 := ⟨m - 1, by omega⟩; simp only [wpF, bodyA, fn_71, C_P, ok_71, C_prim, primOf, true_and]; simp (maxSteps := 4000000) only [EV, EVF, XV, cond_true, cond_false, Bool.false_eq_true, Bool.true_eq_false, eq_self, normsOf, cutsOf, heapOf, quietOf, drawsOf, drawmOf, drawfOf, opnOf, coldOf, shutOf, iceOf, extOf, extOverlaps_eq, overB_eq, extCmp_eq, shpOf, Try.f71, ↓reduceIte, Nat.reduceAdd, Nat.reduceLT, Nat.reduceEqDiff, Nat.reduceLeDiff, Nat.succ_ne_zero, Nat.zero_ne_one, Nat.one_ne_zero, ne_eq, not_false_eq_true, true_and, and_true, Nat.reduceMul, Nat.reduceSub, Int.reduceToNat, Int.toNat_zero, Int.toNat_one, Nat.zero_mul, Nat.one_mul, Int.reduceLT, Int.reduceLE, Int.le_refl, Int.zero_lt_one, Int.toNat_natCast, List.take_length, Int.cast_ofNat_Int, Int.reduceAdd, Int.reduceSub, Int.reduceBEq, Int.reduceBNe, ge_iff_le, gt_iff_lt, decide_true, decide_false, Int.lt_irrefl, Nat.zero_add, Nat.add_zero]
  refine loop_at (fun k : Nat => ⟨[(0, .lst 2 (l.map fv)), (1, .fn 63 [] []), (7, .v (.int .i64 l.length)), (8, .v (.int .i64 k))], []⟩) (fun k => k ≤ l.length ∧ idxP (fun f => !isOther f) l = (idxP (fun f => !isOther f) (l.drop k)).map (· + k)) (fun k => l.length - k) 0 ⟨by simp, by simp⟩ rfl ?_
  rintro k ⟨h1, h2⟩
  by_cases hk : k < l.length
  · obtain ⟨f, hf, hd⟩ := drop_at hk
    have hf' := map_at (f := fv) hf
    have hk' : ((k : Int) < l.length) := by omega
    rw [hd] at h2
    simp (maxSteps := 4000000) only [EV, EVF, XV, cond_true, cond_false, Bool.false_eq_true, Bool.true_eq_false, eq_self, normsOf, cutsOf, heapOf, quietOf, drawsOf, drawmOf, drawfOf, opnOf, coldOf, shutOf, iceOf, extOf, extOverlaps_eq, overB_eq, extCmp_eq, shpOf, Try.f71, ↓reduceIte, Nat.reduceAdd, Nat.reduceLT, Nat.reduceEqDiff, Nat.reduceLeDiff, Nat.succ_ne_zero, Nat.zero_ne_one, Nat.one_ne_zero, ne_eq, not_false_eq_true, true_and, and_true, Nat.reduceMul, Nat.reduceSub, Int.reduceToNat, Int.toNat_zero, Int.toNat_one, Nat.zero_mul, Nat.one_mul, Int.reduceLT, Int.reduceLE, Int.le_refl, Int.zero_lt_one, Int.toNat_natCast, List.take_length, Int.cast_ofNat_Int, Int.reduceAdd, Int.reduceSub, Int.reduceBEq, Int.reduceBNe, ge_iff_le, gt_iff_lt, decide_true, decide_false, Int.lt_irrefl, Nat.zero_add, Nat.add_zero, hk', hf', fv, decide_true]
    refine c1_w m (by omega) _ _ fun H => ?_
    simp (maxSteps := 4000000) only [EV, EVF, XV, cond_true, cond_false, Bool.false_eq_true, Bool.true_eq_false, eq_self, normsOf, cutsOf, heapOf, quietOf, drawsOf, drawmOf, drawfOf, opnOf, coldOf, shutOf, iceOf, extOf, extOverlaps_eq, overB_eq, extCmp_eq, shpOf, Try.f71, ↓reduceIte, Nat.reduceAdd, Nat.reduceLT, Nat.reduceEqDiff, Nat.reduceLeDiff, Nat.succ_ne_zero, Nat.zero_ne_one, Nat.one_ne_zero, ne_eq, not_false_eq_true, true_and, and_true, Nat.reduceMul, Nat.reduceSub, Int.reduceToNat, Int.toNat_zero, Int.toNat_one, Nat.zero_mul, Nat.one_mul, Int.reduceLT, Int.reduceLE, Int.le_refl, Int.zero_lt_one, Int.toNat_natCast, List.take_length, Int.cast_ofNat_Int, Int.reduceAdd, Int.reduceSub, Int.reduceBEq, Int.reduceBNe, ge_iff_le, gt_iff_lt, decide_true, decide_false, Int.lt_irrefl, Nat.zero_add, Nat.add_zero]
    repeat' ((first | refine IF_dec (fun h => ?_) (fun h => ?_) | refine IF_beq (fun h => ?_) (fun h => ?_) | refine IF_bne (fun h => ?_) (fun h => ?_) | refine IF_of (fun h => ?_) (fun h => ?_)) <;> (try (simp (maxSteps := 4000000) only [EV, EVF, XV, cond_true, cond_false, Bool.false_eq_true, Bool.true_eq_false, eq_self, normsOf, cutsOf, heapOf, quietOf, drawsOf, drawmOf, drawfOf, opnOf, coldOf, shutOf, iceOf, extOf, extOverlaps_eq, overB_eq, extCmp_eq, shpOf, Try.f71, ↓reduceIte, Nat.reduceAdd, Nat.reduceLT, Nat.reduceEqDiff, Nat.reduceLeDiff, Nat.succ_ne_zero, Nat.zero_ne_one, Nat.one_ne_zero, ne_eq, not_false_eq_true, true_and, and_true, Nat.reduceMul, Nat.reduceSub, Int.reduceToNat, Int.toNat_zero, Int.toNat_one, Nat.zero_mul, Nat.one_mul, Int.reduceLT, Int.reduceLE, Int.le_refl, Int.zero_lt_one, Int.toNat_natCast, List.take_length, Int.cast_ofNat_Int, Int.reduceAdd, Int.reduceSub, Int.reduceBEq, Int.reduceBNe, ge_iff_le, gt_iff_lt, decide_true, decide_false, Int.lt_irrefl, Nat.zero_add, Nat.add_zero])))
    · have e : idxP (fun f => !isOther f) l = some k := by rw [h2]; simp_all [idxP, List.findIdx?_cons]
      rw [e] at hK
      exact hK
    · have e : idxP (fun f => !isOther f) l = (idxP (fun f => !isOther f) (l.drop (k + 1))).map (· + (k + 1)) := by
        rw [h2]
        rw [idxP, List.findIdx?_cons, if_neg (by rw [h]; simp), Option.map_map]
        unfold idxP
        congr 1
        funext x
        simp only [Function.comp]
        omega
      exact ⟨k + 1, ⟨by omega, e⟩, by omega, by rw [wrap64 (by omega) (by omega)]; rfl⟩
  · have hk2 : k = l.length := by omega
    subst hk2
    simp (maxSteps := 4000000) only [EV, EVF, XV, cond_true, cond_false, Bool.false_eq_true, Bool.true_eq_false, eq_self, normsOf, cutsOf, heapOf, quietOf, drawsOf, drawmOf, drawfOf, opnOf, coldOf, shutOf, iceOf, extOf, extOverlaps_eq, overB_eq, extCmp_eq, shpOf, Try.f71, ↓reduceIte, Nat.reduceAdd, Nat.reduceLT, Nat.reduceEqDiff, Nat.reduceLeDiff, Nat.succ_ne_zero, Nat.zero_ne_one, Nat.one_ne_zero, ne_eq, not_false_eq_true, true_and, and_true, Nat.reduceMul, Nat.reduceSub, Int.reduceToNat, Int.toNat_zero, Int.toNat_one, Nat.zero_mul, Nat.one_mul, Int.reduceLT, Int.reduceLE, Int.le_refl, Int.zero_lt_one, Int.toNat_natCast, List.take_length, Int.cast_ofNat_Int, Int.reduceAdd, Int.reduceSub, Int.reduceBEq, Int.reduceBNe, ge_iff_le, gt_iff_lt, decide_true, decide_false, Int.lt_irrefl, Nat.zero_add, Nat.add_zero, Int.lt_irrefl, decide_false]
    rw [List.drop_length] at h2
    rw [h2] at hK
    exact hK
theorem putRow_take (xs ys : List (List AV)) {i : Nat} (h : i ≤ xs.length) : (putRow xs i ys).take i = xs.take i := by
  unfold putRow
  simp [List.take_append, List.take_take, h]
theorem take_set_snoc {α : Type} {xs : List α} {i : Nat} (x : α) (h : i < xs.length) : (xs.set i x).take (i + 1) = xs.take i ++ [x] := by
  rw [take_snoc' (l := xs.set i x) (k := i) (c := x) (by simp [h]), List.take_set_of_le (Nat.le_refl _)]
theorem del1_w (m : Nat) (hm : 3 ≤ m) (l : List Fld) (hl : l.length * 24 ≤ 140737488351232) (K : AV → Hp → Prop) (hK : K (.row 1 2 0 (l.filter isOther).length) [none, some (.row 58 2 ((l.filter isOther).map fv))]) :
    wpF C m 62 [.row 0 2 0 l.length, .fn 63 [] []] [some (.row 58 2 (l.map fv))] K := by
  obtain ⟨m, rfl⟩ : ∃ j, m = j + 1 := ⟨m - 1, by omega⟩; simp only [wpF, bodyA, fn_62, C_P, ok_62, C_prim, primOf, true_and]; simp (maxSteps := 4000000) only [EV, EVF, XV, cond_true, cond_false, Bool.false_eq_true, Bool.true_eq_false, eq_self, normsOf, cutsOf, heapOf, quietOf, drawsOf, drawmOf, drawfOf, opnOf, coldOf, shutOf, iceOf, extOf, extOverlaps_eq, overB_eq, extCmp_eq, shpOf, Try.f62, ↓reduceIte, Nat.reduceAdd, Nat.reduceLT, Nat.reduceEqDiff, Nat.reduceLeDiff, Nat.succ_ne_zero, Nat.zero_ne_one, Nat.one_ne_zero, ne_eq, not_false_eq_true, true_and, and_true, Nat.reduceMul, Nat.reduceSub, Int.reduceToNat, Int.toNat_zero, Int.toNat_one, Nat.zero_mul, Nat.one_mul, Int.reduceLT, Int.reduceLE, Int.le_refl, Int.zero_lt_one, Int.toNat_natCast, List.take_length, Int.cast_ofNat_Int, Int.reduceAdd, Int.reduceSub, Int.reduceBEq, Int.reduceBNe, ge_iff_le, gt_iff_lt, decide_true, decide_false, Int.lt_irrefl, Nat.zero_add, Nat.add_zero]
  refine index1_w m (by omega) l (by omega) _ ?_
  simp (maxSteps := 4000000) only [EV, EVF, XV, cond_true, cond_false, Bool.false_eq_true, Bool.true_eq_false, eq_self, normsOf, cutsOf, heapOf, quietOf, drawsOf, drawmOf, drawfOf, opnOf, coldOf, shutOf, iceOf, extOf, extOverlaps_eq, overB_eq, extCmp_eq, shpOf, Try.f62, ↓reduceIte, Nat.reduceAdd, Nat.reduceLT, Nat.reduceEqDiff, Nat.reduceLeDiff, Nat.succ_ne_zero, Nat.zero_ne_one, Nat.one_ne_zero, ne_eq, not_false_eq_true, true_and, and_true, Nat.reduceMul, Nat.reduceSub, Int.reduceToNat, Int.toNat_zero, Int.toNat_one, Nat.zero_mul, Nat.one_mul, Int.reduceLT, Int.reduceLE, Int.le_refl, Int.zero_lt_one, Int.toNat_natCast, List.take_length, Int.cast_ofNat_Int, Int.reduceAdd, Int.reduceSub, Int.reduceBEq, Int.reduceBNe, ge_iff_le, gt_iff_lt, decide_true, decide_false, Int.lt_irrefl, Nat.zero_add, Nat.add_zero]
  cases hi : idxP (fun f => !isOther f) l with
  | none =>
    have e1 : (idxW none == -1) = true := rfl
    have e3 : l.filter isOther = l := by
      rw [List.filter_eq_self]
      intro f hf
      have := List.findIdx?_eq_none_iff.1 hi f hf
      simpa using this
    rw [e3] at hK
    simp (maxSteps := 4000000) only [EV, EVF, XV, cond_true, cond_false, Bool.false_eq_true, Bool.true_eq_false, eq_self, normsOf, cutsOf, heapOf, quietOf, drawsOf, drawmOf, drawfOf, opnOf, coldOf, shutOf, iceOf, extOf, extOverlaps_eq, overB_eq, extCmp_eq, shpOf, Try.f62, ↓reduceIte, Nat.reduceAdd, Nat.reduceLT, Nat.reduceEqDiff, Nat.reduceLeDiff, Nat.succ_ne_zero, Nat.zero_ne_one, Nat.one_ne_zero, ne_eq, not_false_eq_true, true_and, and_true, Nat.reduceMul, Nat.reduceSub, Int.reduceToNat, Int.toNat_zero, Int.toNat_one, Nat.zero_mul, Nat.one_mul, Int.reduceLT, Int.reduceLE, Int.le_refl, Int.zero_lt_one, Int.toNat_natCast, List.take_length, Int.cast_ofNat_Int, Int.reduceAdd, Int.reduceSub, Int.reduceBEq, Int.reduceBNe, ge_iff_le, gt_iff_lt, decide_true, decide_false, Int.lt_irrefl, Nat.zero_add, Nat.add_zero, e1]
    exact hK
  | some k =>
    have e1 : (idxW (some k) == -1) = false := by simp [idxW]
    have e2 : idxW (some k) = (k : Int) := rfl
    obtain ⟨hk, hk2⟩ := List.findIdx?_eq_some_iff_getElem.1 hi
    have w1 : ∀ j : Nat, j < l.length → IntKind.i64.wrap ((j : Int) + 1) = ((j + 1 : Nat) : Int) := fun j hj => by rw [wrap64 (by omega) (by omega)]; rfl
    simp (maxSteps := 4000000) only [EV, EVF, XV, cond_true, cond_false, Bool.false_eq_true, Bool.true_eq_false, eq_self, normsOf, cutsOf, heapOf, quietOf, drawsOf, drawmOf, drawfOf, opnOf, coldOf, shutOf, iceOf, extOf, extOverlaps_eq, overB_eq, extCmp_eq, shpOf, Try.f62, ↓reduceIte, Nat.reduceAdd, Nat.reduceLT, Nat.reduceEqDiff, Nat.reduceLeDiff, Nat.succ_ne_zero, Nat.zero_ne_one, Nat.one_ne_zero, ne_eq, not_false_eq_true, true_and, and_true, Nat.reduceMul, Nat.reduceSub, Int.reduceToNat, Int.toNat_zero, Int.toNat_one, Nat.zero_mul, Nat.one_mul, Int.reduceLT, Int.reduceLE, Int.le_refl, Int.zero_lt_one, Int.toNat_natCast, List.take_length, Int.cast_ofNat_Int, Int.reduceAdd, Int.reduceSub, Int.reduceBEq, Int.reduceBNe, ge_iff_le, gt_iff_lt, decide_true, decide_false, Int.lt_irrefl, Nat.zero_add, Nat.add_zero, e1]
    simp (maxSteps := 4000000) only [EV, EVF, XV, cond_true, cond_false, Bool.false_eq_true, Bool.true_eq_false, eq_self, normsOf, cutsOf, heapOf, quietOf, drawsOf, drawmOf, drawfOf, opnOf, coldOf, shutOf, iceOf, extOf, extOverlaps_eq, overB_eq, extCmp_eq, shpOf, Try.f62, ↓reduceIte, Nat.reduceAdd, Nat.reduceLT, Nat.reduceEqDiff, Nat.reduceLeDiff, Nat.succ_ne_zero, Nat.zero_ne_one, Nat.one_ne_zero, ne_eq, not_false_eq_true, true_and, and_true, Nat.reduceMul, Nat.reduceSub, Int.reduceToNat, Int.toNat_zero, Int.toNat_one, Nat.zero_mul, Nat.one_mul, Int.reduceLT, Int.reduceLE, Int.le_refl, Int.zero_lt_one, Int.toNat_natCast, List.take_length, Int.cast_ofNat_Int, Int.reduceAdd, Int.reduceSub, Int.reduceBEq, Int.reduceBNe, ge_iff_le, gt_iff_lt, decide_true, decide_false, Int.lt_irrefl, Nat.zero_add, Nat.add_zero, e2]
    rw [w1 k hk]
    refine loop_at (fun p : Nat × Nat × List Fld => ⟨[(0, .row 0 2 0 l.length), (1, .fn 63 [] []), (5, .v (.int .i64 p.1)), (6, .v (.int .i64 p.2.1))], [some (.row 58 2 (p.2.2.map fv))]⟩)
      (fun p => p.1 < p.2.1 ∧ p.2.1 ≤ l.length ∧ p.2.2.length = l.length ∧ p.2.2.take p.1 = (l.take p.2.1).filter isOther ∧ p.2.2.drop p.2.1 = l.drop p.2.1) (fun p => l.length - p.2.1) (k, k + 1, l) ⟨by simp, hk, rfl, ?_, rfl⟩ rfl ?_
    · rw [take_snoc' (List.getElem?_eq_getElem hk), List.filter_append]
      have h1 : isOther l[k] = false := by simpa using hk2.1
      rw [List.filter_cons_of_neg (by rw [h1]; simp), List.filter_nil, List.append_nil]
      refine (List.filter_eq_self.2 fun f hf => ?_).symm
      obtain ⟨j, hj, rfl⟩ := List.mem_take_iff_getElem.1 hf
      have := hk2.2 j (by omega)
      simpa using this
    rintro ⟨i, j, xs⟩ ⟨h1, h2, h3, h4, h5⟩
    simp only at h1 h2 h3 h4 h5
    by_cases hj : j < l.length
    · obtain ⟨f, hf, hd⟩ := drop_at hj
      have hfx : xs[j]? = some f := by
        have := congrArg (fun r => r[0]?) h5
        simp only [List.getElem?_drop, Nat.add_zero] at this
        rw [this, hf]
      have hf' := map_at (f := fv) hfx
      have hj' : ((j : Int) < l.length) := by omega
      simp (maxSteps := 4000000) only [EV, EVF, XV, cond_true, cond_false, Bool.false_eq_true, Bool.true_eq_false, eq_self, normsOf, cutsOf, heapOf, quietOf, drawsOf, drawmOf, drawfOf, opnOf, coldOf, shutOf, iceOf, extOf, extOverlaps_eq, overB_eq, extCmp_eq, shpOf, Try.f62, ↓reduceIte, Nat.reduceAdd, Nat.reduceLT, Nat.reduceEqDiff, Nat.reduceLeDiff, Nat.succ_ne_zero, Nat.zero_ne_one, Nat.one_ne_zero, ne_eq, not_false_eq_true, true_and, and_true, Nat.reduceMul, Nat.reduceSub, Int.reduceToNat, Int.toNat_zero, Int.toNat_one, Nat.zero_mul, Nat.one_mul, Int.reduceLT, Int.reduceLE, Int.le_refl, Int.zero_lt_one, Int.toNat_natCast, List.take_length, Int.cast_ofNat_Int, Int.reduceAdd, Int.reduceSub, Int.reduceBEq, Int.reduceBNe, ge_iff_le, gt_iff_lt, decide_true, decide_false, Int.lt_irrefl, Nat.zero_add, Nat.add_zero, hj', hf', fv, decide_true]
      refine c1_w m (by omega) _ _ fun H => ?_
      obtain ⟨g, hg⟩ : ∃ g, xs[i]? = some g := ⟨_, List.getElem?_eq_getElem (by omega)⟩
      have hg' := map_at (f := fv) hg
      simp (maxSteps := 4000000) only [EV, EVF, XV, cond_true, cond_false, Bool.false_eq_true, Bool.true_eq_false, eq_self, normsOf, cutsOf, heapOf, quietOf, drawsOf, drawmOf, drawfOf, opnOf, coldOf, shutOf, iceOf, extOf, extOverlaps_eq, overB_eq, extCmp_eq, shpOf, Try.f62, ↓reduceIte, Nat.reduceAdd, Nat.reduceLT, Nat.reduceEqDiff, Nat.reduceLeDiff, Nat.succ_ne_zero, Nat.zero_ne_one, Nat.one_ne_zero, ne_eq, not_false_eq_true, true_and, and_true, Nat.reduceMul, Nat.reduceSub, Int.reduceToNat, Int.toNat_zero, Int.toNat_one, Nat.zero_mul, Nat.one_mul, Int.reduceLT, Int.reduceLE, Int.le_refl, Int.zero_lt_one, Int.toNat_natCast, List.take_length, Int.cast_ofNat_Int, Int.reduceAdd, Int.reduceSub, Int.reduceBEq, Int.reduceBNe, ge_iff_le, gt_iff_lt, decide_true, decide_false, Int.lt_irrefl, Nat.zero_add, Nat.add_zero]
      have e3 := take_snoc' hf
      repeat' ((first | refine IF_dec (fun h => ?_) (fun h => ?_) | refine IF_beq (fun h => ?_) (fun h => ?_) | refine IF_bne (fun h => ?_) (fun h => ?_) | refine IF_of (fun h => ?_) (fun h => ?_)) <;> (try (simp (maxSteps := 4000000) only [EV, EVF, XV, cond_true, cond_false, Bool.false_eq_true, Bool.true_eq_false, eq_self, normsOf, cutsOf, heapOf, quietOf, drawsOf, drawmOf, drawfOf, opnOf, coldOf, shutOf, iceOf, extOf, extOverlaps_eq, overB_eq, extCmp_eq, shpOf, Try.f62, ↓reduceIte, Nat.reduceAdd, Nat.reduceLT, Nat.reduceEqDiff, Nat.reduceLeDiff, Nat.succ_ne_zero, Nat.zero_ne_one, Nat.one_ne_zero, ne_eq, not_false_eq_true, true_and, and_true, Nat.reduceMul, Nat.reduceSub, Int.reduceToNat, Int.toNat_zero, Int.toNat_one, Nat.zero_mul, Nat.one_mul, Int.reduceLT, Int.reduceLE, Int.le_refl, Int.zero_lt_one, Int.toNat_natCast, List.take_length, Int.cast_ofNat_Int, Int.reduceAdd, Int.reduceSub, Int.reduceBEq, Int.reduceBNe, ge_iff_le, gt_iff_lt, decide_true, decide_false, Int.lt_irrefl, Nat.zero_add, Nat.add_zero, hg', fv])))
      · refine ⟨by omega, ?_⟩
        have hk1 : isOther f = true := by simpa using h
        rw [w1 i (by omega), w1 j hj]
        refine ⟨(i + 1, j + 1, xs.set i f), ⟨by simp only; omega, hj, by simpa using h3, ?_, ?_⟩, by simp only; omega, ?_⟩
        · rw [take_set_snoc f (by omega), h4, e3, List.filter_append]
          simp [hk1]
        · rw [List.drop_set_of_lt (by simp only; omega), ← List.drop_drop, h5, List.drop_drop]
        · simp [fv]
      · have hk1 : isOther f = false := by simpa using h
        rw [w1 j hj]
        refine ⟨(i, j + 1, xs), ⟨by simp only; omega, hj, h3, ?_, ?_⟩, by simp only; omega, rfl⟩
        · rw [h4, e3, List.filter_append]
          simp [hk1]
        · rw [← List.drop_drop, h5, List.drop_drop]
    · have hj2 : j = l.length := by omega
      subst hj2
      simp (maxSteps := 4000000) only [EV, EVF, XV, cond_true, cond_false, Bool.false_eq_true, Bool.true_eq_false, eq_self, normsOf, cutsOf, heapOf, quietOf, drawsOf, drawmOf, drawfOf, opnOf, coldOf, shutOf, iceOf, extOf, extOverlaps_eq, overB_eq, extCmp_eq, shpOf, Try.f62, ↓reduceIte, Nat.reduceAdd, Nat.reduceLT, Nat.reduceEqDiff, Nat.reduceLeDiff, Nat.succ_ne_zero, Nat.zero_ne_one, Nat.one_ne_zero, ne_eq, not_false_eq_true, true_and, and_true, Nat.reduceMul, Nat.reduceSub, Int.reduceToNat, Int.toNat_zero, Int.toNat_one, Nat.zero_mul, Nat.one_mul, Int.reduceLT, Int.reduceLE, Int.le_refl, Int.zero_lt_one, Int.toNat_natCast, List.take_length, Int.cast_ofNat_Int, Int.reduceAdd, Int.reduceSub, Int.reduceBEq, Int.reduceBNe, ge_iff_le, gt_iff_lt, decide_true, decide_false, Int.lt_irrefl, Nat.zero_add, Nat.add_zero, Int.lt_irrefl, decide_false]
      refine ⟨by omega, by simp, by omega, ?_⟩
      rw [List.take_length] at h4
      have hil : i = (l.filter isOther).length := by
        rw [← h4, List.length_take]
        omega
      rw [Nat.sub_zero, putRow_take _ _ (by simp; omega), ← List.map_take, h4]
      rw [← hil] at hK
      exact hK
end Go.Ai

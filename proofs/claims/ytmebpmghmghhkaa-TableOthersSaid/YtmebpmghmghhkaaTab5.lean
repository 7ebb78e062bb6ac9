/- What a desk does, walked: the rows change. -/
import Derived.Test.YtmebpmghmghhkaaTab1
import Derived.Test.YtmebpmghmghhkaaTab2
set_option linter.unusedVariables false
set_option linter.unusedSimpArgs false
set_option maxRecDepth 100000
set_option maxHeartbeats 4000000
namespace Go.Ai
open Go.Proofs
def deskq (q n : Nat) (o : Opr) (i : Nat) (h : Bool) : List AV := [.row q 6 0 n, .v (.int .i64 o.kind), .v (.string (mk o.key)), .v (.string (mk o.value)), .v (.int .i64 o.rev), .v (.string (mk o.to)), .v (.int .i64 o.life), .v (.string (mk o.note)), .v (.int .i64 i), .v (.bool h)]
def rp0 (e n : Int) : AV := .agg [.v (.int .i64 e), .v (.int .i64 n), .v (.string (mk [])), .v (.slice none 0 0)]
theorem remove_w (m : Nat) (hm : 2 ≤ m) (t : List Rec) (ht : t.length ≤ 1000000000) (o : Opr) (i : Nat) (r : Rec) (hr : t[i]? = some r) (K : AV → Hp → Prop) (hK : ∀ A, K (rp0 0 r.rev) [some (.var 62 (deskq 3 (t.length - 1) o i true)), none, A, some (.row 47 6 ((t.take i ++ t.drop (i + 1)).map rcv))]) : wpF C m 38 [.ptr 0 0] (dskH t o i true) K := by
  have hi : i < t.length := (List.getElem?_eq_some_iff.1 hr).1
  have hrev := fun (m : Nat) (hm : 1 ≤ m) K => rev_w m hm t o i r hr K
  have hdel := fun (m : Nat) (hm : 1 ≤ m) K => deleter_w m hm t ht i hi K
  have w1 : IntKind.i64.wrap ((i : Int) + 1) = ((i + 1 : Nat) : Int) := by rw [wrap64 (by omega) (by omega)]; omega
  unfold dskH deskv at hrev ⊢
  obtain ⟨m, rfl⟩ : ∃ j, m = j + 1 := ⟨m - 1, by omega⟩; simp only [wpF, bodyA, fn_38, C_P, ok_38, C_prim, primOf, true_and]; simp (maxSteps := 4000000) only [EV, EVF, XV, cond_true, cond_false, Bool.false_eq_true, Bool.true_eq_false, eq_self, normsOf, cutsOf, heapOf, quietOf, drawsOf, drawmOf, drawfOf, opnOf, coldOf, shutOf, iceOf, extOf, extOverlaps_eq, overB_eq, extCmp_eq, shpOf, Try.f38, ↓reduceIte, Nat.reduceAdd, Nat.reduceLT, Nat.reduceEqDiff, Nat.reduceLeDiff, Nat.succ_ne_zero, Nat.zero_ne_one, Nat.one_ne_zero, ne_eq, not_false_eq_true, true_and, and_true, Nat.reduceMul, Nat.reduceSub, Int.reduceToNat, Int.toNat_zero, Int.toNat_one, Nat.zero_mul, Nat.one_mul, Int.reduceLT, Int.reduceLE, Int.le_refl, Int.zero_lt_one, Int.toNat_natCast, List.take_length, Int.cast_ofNat_Int, Int.reduceAdd, Int.reduceSub, Int.reduceBEq, Int.reduceBNe, ge_iff_le, gt_iff_lt, decide_true, decide_false, Int.lt_irrefl, Nat.zero_add, Nat.add_zero]
  refine hrev m (by omega) _ ?_
  simp (maxSteps := 4000000) only [EV, EVF, XV, cond_true, cond_false, Bool.false_eq_true, Bool.true_eq_false, eq_self, normsOf, cutsOf, heapOf, quietOf, drawsOf, drawmOf, drawfOf, opnOf, coldOf, shutOf, iceOf, extOf, extOverlaps_eq, overB_eq, extCmp_eq, shpOf, Try.f38, ↓reduceIte, Nat.reduceAdd, Nat.reduceLT, Nat.reduceEqDiff, Nat.reduceLeDiff, Nat.succ_ne_zero, Nat.zero_ne_one, Nat.one_ne_zero, ne_eq, not_false_eq_true, true_and, and_true, Nat.reduceMul, Nat.reduceSub, Int.reduceToNat, Int.toNat_zero, Int.toNat_one, Nat.zero_mul, Nat.one_mul, Int.reduceLT, Int.reduceLE, Int.le_refl, Int.zero_lt_one, Int.toNat_natCast, List.take_length, Int.cast_ofNat_Int, Int.reduceAdd, Int.reduceSub, Int.reduceBEq, Int.reduceBNe, ge_iff_le, gt_iff_lt, decide_true, decide_false, Int.lt_irrefl, Nat.zero_add, Nat.add_zero, w1]
  repeat' (first | (refine hdel m (by omega) _ ?_; simp (maxSteps := 4000000) only [EV, EVF, XV, cond_true, cond_false, Bool.false_eq_true, Bool.true_eq_false, eq_self, normsOf, cutsOf, heapOf, quietOf, drawsOf, drawmOf, drawfOf, opnOf, coldOf, shutOf, iceOf, extOf, extOverlaps_eq, overB_eq, extCmp_eq, shpOf, Try.f38, ↓reduceIte, Nat.reduceAdd, Nat.reduceLT, Nat.reduceEqDiff, Nat.reduceLeDiff, Nat.succ_ne_zero, Nat.zero_ne_one, Nat.one_ne_zero, ne_eq, not_false_eq_true, true_and, and_true, Nat.reduceMul, Nat.reduceSub, Int.reduceToNat, Int.toNat_zero, Int.toNat_one, Nat.zero_mul, Nat.one_mul, Int.reduceLT, Int.reduceLE, Int.le_refl, Int.zero_lt_one, Int.toNat_natCast, List.take_length, Int.cast_ofNat_Int, Int.reduceAdd, Int.reduceSub, Int.reduceBEq, Int.reduceBNe, ge_iff_le, gt_iff_lt, decide_true, decide_false, Int.lt_irrefl, Nat.zero_add, Nat.add_zero, w1]) | apply And.intro)
  all_goals exact hK _
theorem remove0_w (m : Nat) (hm : 2 ≤ m) (t : List Rec) (o : Opr) (i : Nat) (K : AV → Hp → Prop) (hK : ∀ A, K (rp0 70 0) (dskH t o i false ++ [A])) : wpF C m 38 [.ptr 0 0] (dskH t o i false) K := by
  unfold dskH deskv at *
  obtain ⟨m, rfl⟩ : ∃ j, m = j + 1 := ⟨m - 1, by omega⟩; simp only [wpF, bodyA, fn_38, C_P, ok_38, C_prim, primOf, true_and]; simp (maxSteps := 4000000) only [EV, EVF, XV, cond_true, cond_false, Bool.false_eq_true, Bool.true_eq_false, eq_self, normsOf, cutsOf, heapOf, quietOf, drawsOf, drawmOf, drawfOf, opnOf, coldOf, shutOf, iceOf, extOf, extOverlaps_eq, overB_eq, extCmp_eq, shpOf, Try.f38, ↓reduceIte, Nat.reduceAdd, Nat.reduceLT, Nat.reduceEqDiff, Nat.reduceLeDiff, Nat.succ_ne_zero, Nat.zero_ne_one, Nat.one_ne_zero, ne_eq, not_false_eq_true, true_and, and_true, Nat.reduceMul, Nat.reduceSub, Int.reduceToNat, Int.toNat_zero, Int.toNat_one, Nat.zero_mul, Nat.one_mul, Int.reduceLT, Int.reduceLE, Int.le_refl, Int.zero_lt_one, Int.toNat_natCast, List.take_length, Int.cast_ofNat_Int, Int.reduceAdd, Int.reduceSub, Int.reduceBEq, Int.reduceBNe, ge_iff_le, gt_iff_lt, decide_true, decide_false, Int.lt_irrefl, Nat.zero_add, Nat.add_zero]
  refine fault_w m (by omega) _ _ fun H => ?_
  simp (maxSteps := 4000000) only [EV, EVF, XV, cond_true, cond_false, Bool.false_eq_true, Bool.true_eq_false, eq_self, normsOf, cutsOf, heapOf, quietOf, drawsOf, drawmOf, drawfOf, opnOf, coldOf, shutOf, iceOf, extOf, extOverlaps_eq, overB_eq, extCmp_eq, shpOf, Try.f38, ↓reduceIte, Nat.reduceAdd, Nat.reduceLT, Nat.reduceEqDiff, Nat.reduceLeDiff, Nat.succ_ne_zero, Nat.zero_ne_one, Nat.one_ne_zero, ne_eq, not_false_eq_true, true_and, and_true, Nat.reduceMul, Nat.reduceSub, Int.reduceToNat, Int.toNat_zero, Int.toNat_one, Nat.zero_mul, Nat.one_mul, Int.reduceLT, Int.reduceLE, Int.le_refl, Int.zero_lt_one, Int.toNat_natCast, List.take_length, Int.cast_ofNat_Int, Int.reduceAdd, Int.reduceSub, Int.reduceBEq, Int.reduceBNe, ge_iff_le, gt_iff_lt, decide_true, decide_false, Int.lt_irrefl, Nat.zero_add, Nat.add_zero]
  exact hK _
theorem put0_w (m : Nat) (hm : 2 ≤ m) (t : List Rec) (ht : t.length ≤ 1000000000) (o : Opr) (i : Nat) (hi : i ≤ t.length) (K : AV → Hp → Prop) (hK1 : 20 ≤ t.length → ∀ A B, K (rp0 50 0) (dskH t o i false ++ [A, B])) (hK2 : ¬ 20 ≤ t.length → ∀ A B D, K (rp0 0 1) [some (.var 62 (deskq 5 (t.length + 1) o i false)), none, A, B, D, some (.row 47 6 ((t.take i ++ ⟨o.key, o.value, 1, 0, [], []⟩ :: t.drop i).map rcv))]) : wpF C m 37 [.ptr 0 0] (dskH t o i false) K := by
  have hins := fun (m : Nat) (hm : 1 ≤ m) K => insertr_w m hm t ht i hi ⟨o.key, o.value, 1, 0, [], []⟩ K
  unfold dskH deskv at *
  unfold rcv at hins
  simp only [List.map_nil] at hins
  obtain ⟨m, rfl⟩ : ∃ j, m = j + 1 := ⟨m - 1, by omega⟩; simp only [wpF, bodyA, fn_37, C_P, ok_37, C_prim, primOf, true_and]; simp (maxSteps := 4000000) only [EV, EVF, XV, cond_true, cond_false, Bool.false_eq_true, Bool.true_eq_false, eq_self, normsOf, cutsOf, heapOf, quietOf, drawsOf, drawmOf, drawfOf, opnOf, coldOf, shutOf, iceOf, extOf, extOverlaps_eq, overB_eq, extCmp_eq, shpOf, Try.f37, ↓reduceIte, Nat.reduceAdd, Nat.reduceLT, Nat.reduceEqDiff, Nat.reduceLeDiff, Nat.succ_ne_zero, Nat.zero_ne_one, Nat.one_ne_zero, ne_eq, not_false_eq_true, true_and, and_true, Nat.reduceMul, Nat.reduceSub, Int.reduceToNat, Int.toNat_zero, Int.toNat_one, Nat.zero_mul, Nat.one_mul, Int.reduceLT, Int.reduceLE, Int.le_refl, Int.zero_lt_one, Int.toNat_natCast, List.take_length, Int.cast_ofNat_Int, Int.reduceAdd, Int.reduceSub, Int.reduceBEq, Int.reduceBNe, ge_iff_le, gt_iff_lt, decide_true, decide_false, Int.lt_irrefl, Nat.zero_add, Nat.add_zero]
  refine IF_dec (fun h => ?_) (fun h => ?_)
  · simp (maxSteps := 4000000) only [EV, EVF, XV, cond_true, cond_false, Bool.false_eq_true, Bool.true_eq_false, eq_self, normsOf, cutsOf, heapOf, quietOf, drawsOf, drawmOf, drawfOf, opnOf, coldOf, shutOf, iceOf, extOf, extOverlaps_eq, overB_eq, extCmp_eq, shpOf, Try.f37, ↓reduceIte, Nat.reduceAdd, Nat.reduceLT, Nat.reduceEqDiff, Nat.reduceLeDiff, Nat.succ_ne_zero, Nat.zero_ne_one, Nat.one_ne_zero, ne_eq, not_false_eq_true, true_and, and_true, Nat.reduceMul, Nat.reduceSub, Int.reduceToNat, Int.toNat_zero, Int.toNat_one, Nat.zero_mul, Nat.one_mul, Int.reduceLT, Int.reduceLE, Int.le_refl, Int.zero_lt_one, Int.toNat_natCast, List.take_length, Int.cast_ofNat_Int, Int.reduceAdd, Int.reduceSub, Int.reduceBEq, Int.reduceBNe, ge_iff_le, gt_iff_lt, decide_true, decide_false, Int.lt_irrefl, Nat.zero_add, Nat.add_zero]
    refine fault_w m (by omega) _ _ fun H => ?_
    simp (maxSteps := 4000000) only [EV, EVF, XV, cond_true, cond_false, Bool.false_eq_true, Bool.true_eq_false, eq_self, normsOf, cutsOf, heapOf, quietOf, drawsOf, drawmOf, drawfOf, opnOf, coldOf, shutOf, iceOf, extOf, extOverlaps_eq, overB_eq, extCmp_eq, shpOf, Try.f37, ↓reduceIte, Nat.reduceAdd, Nat.reduceLT, Nat.reduceEqDiff, Nat.reduceLeDiff, Nat.succ_ne_zero, Nat.zero_ne_one, Nat.one_ne_zero, ne_eq, not_false_eq_true, true_and, and_true, Nat.reduceMul, Nat.reduceSub, Int.reduceToNat, Int.toNat_zero, Int.toNat_one, Nat.zero_mul, Nat.one_mul, Int.reduceLT, Int.reduceLE, Int.le_refl, Int.zero_lt_one, Int.toNat_natCast, List.take_length, Int.cast_ofNat_Int, Int.reduceAdd, Int.reduceSub, Int.reduceBEq, Int.reduceBNe, ge_iff_le, gt_iff_lt, decide_true, decide_false, Int.lt_irrefl, Nat.zero_add, Nat.add_zero]
    exact hK1 (by omega) _ _
  · simp (maxSteps := 4000000) only [EV, EVF, XV, cond_true, cond_false, Bool.false_eq_true, Bool.true_eq_false, eq_self, normsOf, cutsOf, heapOf, quietOf, drawsOf, drawmOf, drawfOf, opnOf, coldOf, shutOf, iceOf, extOf, extOverlaps_eq, overB_eq, extCmp_eq, shpOf, Try.f37, ↓reduceIte, Nat.reduceAdd, Nat.reduceLT, Nat.reduceEqDiff, Nat.reduceLeDiff, Nat.succ_ne_zero, Nat.zero_ne_one, Nat.one_ne_zero, ne_eq, not_false_eq_true, true_and, and_true, Nat.reduceMul, Nat.reduceSub, Int.reduceToNat, Int.toNat_zero, Int.toNat_one, Nat.zero_mul, Nat.one_mul, Int.reduceLT, Int.reduceLE, Int.le_refl, Int.zero_lt_one, Int.toNat_natCast, List.take_length, Int.cast_ofNat_Int, Int.reduceAdd, Int.reduceSub, Int.reduceBEq, Int.reduceBNe, ge_iff_le, gt_iff_lt, decide_true, decide_false, Int.lt_irrefl, Nat.zero_add, Nat.add_zero]
    repeat' (first | (refine hins m (by omega) _ ?_; simp (maxSteps := 4000000) only [EV, EVF, XV, cond_true, cond_false, Bool.false_eq_true, Bool.true_eq_false, eq_self, normsOf, cutsOf, heapOf, quietOf, drawsOf, drawmOf, drawfOf, opnOf, coldOf, shutOf, iceOf, extOf, extOverlaps_eq, overB_eq, extCmp_eq, shpOf, Try.f37, ↓reduceIte, Nat.reduceAdd, Nat.reduceLT, Nat.reduceEqDiff, Nat.reduceLeDiff, Nat.succ_ne_zero, Nat.zero_ne_one, Nat.one_ne_zero, ne_eq, not_false_eq_true, true_and, and_true, Nat.reduceMul, Nat.reduceSub, Int.reduceToNat, Int.toNat_zero, Int.toNat_one, Nat.zero_mul, Nat.one_mul, Int.reduceLT, Int.reduceLE, Int.le_refl, Int.zero_lt_one, Int.toNat_natCast, List.take_length, Int.cast_ofNat_Int, Int.reduceAdd, Int.reduceSub, Int.reduceBEq, Int.reduceBNe, ge_iff_le, gt_iff_lt, decide_true, decide_false, Int.lt_irrefl, Nat.zero_add, Nat.add_zero]) | apply And.intro)
    all_goals exact hK2 (by omega) _ _ _
/-- How far a scan goes. -/
def scanB (o : Opr) (r : Rec) : Bool := !(!decide (o.to = []) && !decide (cmpL r.key o.to < 0))
def scanSt (t : List Rec) (o : Opr) (i : Nat) (h : Bool) (k : Nat) (X : List (List AV)) : St := match X with
  | [] => ⟨[(0, .ptr 0 0), (2, .ptr 2 0), (13, .row 1 6 i (t.length - i)), (14, .v (.int .i64 ((t.length - i : Nat) : Int))), (15, .v (.int .i64 k))], dskH t o i h ++ [some (.var 37 [.v (.int .i64 0), .v (.int .i64 0), .v (.string (mk [])), .v (.slice none 0 0)])]⟩
  | x :: xs => ⟨[(0, .ptr 0 0), (2, .ptr 2 0), (13, .row 1 6 i (t.length - i)), (14, .v (.int .i64 ((t.length - i : Nat) : Int))), (15, .v (.int .i64 k))], dskH t o i h ++ [some (.var 37 [.v (.int .i64 0), .v (.int .i64 0), .v (.string (mk [])), .row 3 1 0 (xs.length + 1)]), some (.row 9 1 (x :: xs))]⟩
theorem scanSt_nil {t : List Rec} {o : Opr} {i : Nat} {h : Bool} {k : Nat} : scanSt t o i h k [] = ⟨[(0, .ptr 0 0), (2, .ptr 2 0), (13, .row 1 6 i (t.length - i)), (14, .v (.int .i64 ((t.length - i : Nat) : Int))), (15, .v (.int .i64 k))], dskH t o i h ++ [some (.var 37 [.v (.int .i64 0), .v (.int .i64 0), .v (.string (mk [])), .v (.slice none 0 0)])]⟩ := rfl
theorem scanSt_cons {t : List Rec} {o : Opr} {i : Nat} {h : Bool} {k : Nat} {x : List AV} {xs : List (List AV)} : scanSt t o i h k (x :: xs) = ⟨[(0, .ptr 0 0), (2, .ptr 2 0), (13, .row 1 6 i (t.length - i)), (14, .v (.int .i64 ((t.length - i : Nat) : Int))), (15, .v (.int .i64 k))], dskH t o i h ++ [some (.var 37 [.v (.int .i64 0), .v (.int .i64 0), .v (.string (mk [])), .row 3 1 0 (xs.length + 1)]), some (.row 9 1 (x :: xs))]⟩ := rfl
theorem scanSt_ne {t : List Rec} {o : Opr} {i : Nat} {h : Bool} {k : Nat} {X : List (List AV)} (hX : X ≠ []) : scanSt t o i h k X = ⟨[(0, .ptr 0 0), (2, .ptr 2 0), (13, .row 1 6 i (t.length - i)), (14, .v (.int .i64 ((t.length - i : Nat) : Int))), (15, .v (.int .i64 k))], dskH t o i h ++ [some (.var 37 [.v (.int .i64 0), .v (.int .i64 0), .v (.string (mk [])), .row 3 1 0 X.length]), some (.row 9 1 X)]⟩ := by
  cases X with
  | nil => exact absurd rfl hX
  | cons x xs => rfl
theorem scan_w (m : Nat) (hm : 1 ≤ m) (t : List Rec) (ht : t.length ≤ 1000000000) (o : Opr) (i : Nat) (h : Bool) (hi : i ≤ t.length) (K : AV → Hp → Prop) (hK : K (.agg [.v (.int .i64 0), .v (.int .i64 0), .v (.string (mk [])), .lst 1 ((scanS t o i).map tv)]) (dskH t o i h)) : wpF C m 41 [.ptr 0 0] (dskH t o i h) K := by
  unfold dskH deskv
  obtain ⟨m, rfl⟩ : ∃ j, m = j + 1 := ⟨m - 1, by omega⟩; simp only [wpF, bodyA, fn_41, C_P, ok_41, C_prim, primOf, true_and]; simp (maxSteps := 4000000) only [EV, EVF, XV, cond_true, cond_false, Bool.false_eq_true, Bool.true_eq_false, eq_self, normsOf, cutsOf, heapOf, quietOf, drawsOf, drawmOf, drawfOf, opnOf, coldOf, shutOf, iceOf, extOf, extOverlaps_eq, overB_eq, extCmp_eq, shpOf, Try.f41, ↓reduceIte, Nat.reduceAdd, Nat.reduceLT, Nat.reduceEqDiff, Nat.reduceLeDiff, Nat.succ_ne_zero, Nat.zero_ne_one, Nat.one_ne_zero, ne_eq, not_false_eq_true, true_and, and_true, Nat.reduceMul, Nat.reduceSub, Int.reduceToNat, Int.toNat_zero, Int.toNat_one, Nat.zero_mul, Nat.one_mul, Int.reduceLT, Int.reduceLE, Int.le_refl, Int.zero_lt_one, Int.toNat_natCast, List.take_length, Int.cast_ofNat_Int, Int.reduceAdd, Int.reduceSub, Int.reduceBEq, Int.reduceBNe, ge_iff_le, gt_iff_lt, decide_true, decide_false, Int.lt_irrefl, Nat.zero_add, Nat.add_zero]
  refine ⟨by omega, ?_⟩
  refine loop_at (fun p : Nat => scanSt t o i h p (((t.drop i).take p).map fun r => tv r.key)) (fun k => k ≤ 5 ∧ i + k ≤ t.length ∧ scanS t o i = ((t.drop i).take k).map (·.key) ++ (((t.drop (i + k)).takeWhile (scanB o)).take (5 - k)).map (·.key)) (fun k => 5 - k) 0 ⟨by simp, by omega, by simp only [List.take_zero, List.map_nil, List.nil_append, Nat.add_zero, Nat.sub_zero]; rfl⟩ rfl ?_
  rintro k ⟨h1, h2, h3⟩
  obtain ⟨X, hX⟩ : ∃ X, ((t.drop i).take k).map (fun r => tv r.key) = X := ⟨_, rfl⟩
  have hXl : X.length = k := by
    rw [← hX, List.length_map, List.length_take, List.length_drop]
    omega
  have hend : ∀ ks, (((t.drop (i + k)).takeWhile (scanB o)).take (5 - k)).map (·.key) = ks → ks = [] → (scanS t o i).map tv = X := fun ks e1 e2 => by
    rw [h3, e1, e2, List.append_nil, ← hX, List.map_map]
    rfl
  rw [hX]
  by_cases hk : i + k < t.length
  · obtain ⟨d, hf, hd⟩ := drop_at hk
    have hm' := map_at (f := rcv) hf
    have q1 : ((k : Int) < ((t.length - i : Nat) : Int)) = True := eq_true (by omega)
    have q2 : ((k : Int) < ((t.length : Int) - (i : Int))) = True := eq_true (by omega)
    have w1 : IntKind.i64.wrap ((k : Int) + 1) = ((k + 1 : Nat) : Int) := by rw [wrap64 (by omega) (by omega)]; rfl
    have hmem : (t.drop i)[k]? = some d := by rw [List.getElem?_drop, hf]
    by_cases h5 : k = 5
    · have e5 : ((X.length : Int) == 5) = true := by rw [hXl, h5]; rfl
      have e := hend _ rfl (by rw [h5]; rfl)
      rw [e] at hK
      unfold dskH deskv at hK
      rcases X with _ | ⟨x, xs⟩
      · simp at hXl
        omega
      simp only [List.length_cons] at e5
      simp only [scanSt_nil, scanSt_cons, dskH, deskv, List.cons_append, List.nil_append]
      simp (maxSteps := 4000000) only [EV, EVF, XV, cond_true, cond_false, Bool.false_eq_true, Bool.true_eq_false, eq_self, normsOf, cutsOf, heapOf, quietOf, drawsOf, drawmOf, drawfOf, opnOf, coldOf, shutOf, iceOf, extOf, extOverlaps_eq, overB_eq, extCmp_eq, shpOf, Try.f41, ↓reduceIte, Nat.reduceAdd, Nat.reduceLT, Nat.reduceEqDiff, Nat.reduceLeDiff, Nat.succ_ne_zero, Nat.zero_ne_one, Nat.one_ne_zero, ne_eq, not_false_eq_true, true_and, and_true, Nat.reduceMul, Nat.reduceSub, Int.reduceToNat, Int.toNat_zero, Int.toNat_one, Nat.zero_mul, Nat.one_mul, Int.reduceLT, Int.reduceLE, Int.le_refl, Int.zero_lt_one, Int.toNat_natCast, List.take_length, Int.cast_ofNat_Int, Int.reduceAdd, Int.reduceSub, Int.reduceBEq, Int.reduceBNe, ge_iff_le, gt_iff_lt, decide_true, decide_false, Int.lt_irrefl, Nat.zero_add, Nat.add_zero, q1, q2, hm', rcv, w1, e5]
      exact hK
    have e5 : ((X.length : Int) == 5) = false := by rw [hXl]; simp; omega
    by_cases hb : scanB o d = true
    · have hsc : scanS t o i = ((t.drop i).take (k + 1)).map (·.key) ++ (((t.drop (i + (k + 1))).takeWhile (scanB o)).take (5 - (k + 1))).map (·.key) := by
        rw [h3, hd, List.takeWhile_cons, if_pos hb, show 5 - k = (5 - (k + 1)) + 1 by omega, List.take_succ_cons, take_snoc' hmem, List.map_append, List.append_assoc]
        rfl
      have hX2 : ((t.drop i).take (k + 1)).map (fun r => tv r.key) = X ++ [tv d.key] := by
        rw [take_snoc' hmem, List.map_append, hX]
        rfl
      have hto : o.to = [] ∨ (¬ o.to = [] ∧ cmpL d.key o.to < 0) := by
        unfold scanB at hb
        by_cases h1 : o.to = []
        · exact .inl h1
        · refine .inr ⟨h1, ?_⟩
          simpa [h1] using hb
      have hbd : X.length ≤ 5 := by omega
      obtain ⟨Y, hY⟩ : ∃ Y, Y = X := ⟨_, rfl⟩
      rw [← hY] at hX2
      rcases hto with hto | ⟨hto, hlt⟩
      all_goals
        rcases X with _ | ⟨x, xs⟩
        all_goals
          try simp only [List.length_cons] at e5 hbd
          simp only [scanSt_nil, scanSt_cons, dskH, deskv, List.cons_append, List.nil_append]
          first
            | simp (maxSteps := 4000000) only [EV, EVF, XV, cond_true, cond_false, Bool.false_eq_true, Bool.true_eq_false, eq_self, normsOf, cutsOf, heapOf, quietOf, drawsOf, drawmOf, drawfOf, opnOf, coldOf, shutOf, iceOf, extOf, extOverlaps_eq, overB_eq, extCmp_eq, shpOf, Try.f41, ↓reduceIte, Nat.reduceAdd, Nat.reduceLT, Nat.reduceEqDiff, Nat.reduceLeDiff, Nat.succ_ne_zero, Nat.zero_ne_one, Nat.one_ne_zero, ne_eq, not_false_eq_true, true_and, and_true, Nat.reduceMul, Nat.reduceSub, Int.reduceToNat, Int.toNat_zero, Int.toNat_one, Nat.zero_mul, Nat.one_mul, Int.reduceLT, Int.reduceLE, Int.le_refl, Int.zero_lt_one, Int.toNat_natCast, List.take_length, Int.cast_ofNat_Int, Int.reduceAdd, Int.reduceSub, Int.reduceBEq, Int.reduceBNe, ge_iff_le, gt_iff_lt, decide_true, decide_false, Int.lt_irrefl, Nat.zero_add, Nat.add_zero, q1, q2, hm', rcv, w1, e5, less_cmp, eq_false hto, eq_true hlt, Bool.not_false, Bool.not_true]
            | simp (maxSteps := 4000000) only [EV, EVF, XV, cond_true, cond_false, Bool.false_eq_true, Bool.true_eq_false, eq_self, normsOf, cutsOf, heapOf, quietOf, drawsOf, drawmOf, drawfOf, opnOf, coldOf, shutOf, iceOf, extOf, extOverlaps_eq, overB_eq, extCmp_eq, shpOf, Try.f41, ↓reduceIte, Nat.reduceAdd, Nat.reduceLT, Nat.reduceEqDiff, Nat.reduceLeDiff, Nat.succ_ne_zero, Nat.zero_ne_one, Nat.one_ne_zero, ne_eq, not_false_eq_true, true_and, and_true, Nat.reduceMul, Nat.reduceSub, Int.reduceToNat, Int.toNat_zero, Int.toNat_one, Nat.zero_mul, Nat.one_mul, Int.reduceLT, Int.reduceLE, Int.le_refl, Int.zero_lt_one, Int.toNat_natCast, List.take_length, Int.cast_ofNat_Int, Int.reduceAdd, Int.reduceSub, Int.reduceBEq, Int.reduceBNe, ge_iff_le, gt_iff_lt, decide_true, decide_false, Int.lt_irrefl, Nat.zero_add, Nat.add_zero, q1, q2, hm', rcv, w1, e5, less_cmp, eq_true hto, Bool.not_false, Bool.not_true]
          first
            | refine And.intro (by omega) ?_
            | skip
          exact ⟨k + 1, ⟨by omega, by omega, hsc⟩, by omega, by rw [hX2, scanSt_ne (by simp)]; subst hY; simp [dskH, deskv, tv]⟩
    · have hto : ¬ o.to = [] ∧ ¬ cmpL d.key o.to < 0 := by
        unfold scanB at hb
        by_cases h1 : o.to = []
        · simp [h1] at hb
        · refine ⟨h1, fun hc => hb ?_⟩
          simp [h1, hc]
      have e := hend _ rfl (by rw [hd, List.takeWhile_cons, if_neg hb]; simp)
      rw [e] at hK
      unfold dskH deskv at hK
      rcases X with _ | ⟨x, xs⟩
      all_goals
        try simp only [List.length_cons] at e5
        simp only [scanSt_nil, scanSt_cons, dskH, deskv, List.cons_append, List.nil_append]
        simp (maxSteps := 4000000) only [EV, EVF, XV, cond_true, cond_false, Bool.false_eq_true, Bool.true_eq_false, eq_self, normsOf, cutsOf, heapOf, quietOf, drawsOf, drawmOf, drawfOf, opnOf, coldOf, shutOf, iceOf, extOf, extOverlaps_eq, overB_eq, extCmp_eq, shpOf, Try.f41, ↓reduceIte, Nat.reduceAdd, Nat.reduceLT, Nat.reduceEqDiff, Nat.reduceLeDiff, Nat.succ_ne_zero, Nat.zero_ne_one, Nat.one_ne_zero, ne_eq, not_false_eq_true, true_and, and_true, Nat.reduceMul, Nat.reduceSub, Int.reduceToNat, Int.toNat_zero, Int.toNat_one, Nat.zero_mul, Nat.one_mul, Int.reduceLT, Int.reduceLE, Int.le_refl, Int.zero_lt_one, Int.toNat_natCast, List.take_length, Int.cast_ofNat_Int, Int.reduceAdd, Int.reduceSub, Int.reduceBEq, Int.reduceBNe, ge_iff_le, gt_iff_lt, decide_true, decide_false, Int.lt_irrefl, Nat.zero_add, Nat.add_zero, q1, q2, hm', rcv, w1, e5, less_cmp, eq_false hto.1, eq_false hto.2, Bool.not_false]
        exact hK
  · have q1 : ((k : Int) < ((t.length - i : Nat) : Int)) = False := eq_false (by omega)
    have e := hend _ rfl (by rw [List.drop_of_length_le (by omega)]; simp)
    rw [e] at hK
    unfold dskH deskv at hK
    rcases X with _ | ⟨x, xs⟩
    all_goals
      simp only [scanSt_nil, scanSt_cons, dskH, deskv, List.cons_append, List.nil_append]
      simp (maxSteps := 4000000) only [EV, EVF, XV, cond_true, cond_false, Bool.false_eq_true, Bool.true_eq_false, eq_self, normsOf, cutsOf, heapOf, quietOf, drawsOf, drawmOf, drawfOf, opnOf, coldOf, shutOf, iceOf, extOf, extOverlaps_eq, overB_eq, extCmp_eq, shpOf, Try.f41, ↓reduceIte, Nat.reduceAdd, Nat.reduceLT, Nat.reduceEqDiff, Nat.reduceLeDiff, Nat.succ_ne_zero, Nat.zero_ne_one, Nat.one_ne_zero, ne_eq, not_false_eq_true, true_and, and_true, Nat.reduceMul, Nat.reduceSub, Int.reduceToNat, Int.toNat_zero, Int.toNat_one, Nat.zero_mul, Nat.one_mul, Int.reduceLT, Int.reduceLE, Int.le_refl, Int.zero_lt_one, Int.toNat_natCast, List.take_length, Int.cast_ofNat_Int, Int.reduceAdd, Int.reduceSub, Int.reduceBEq, Int.reduceBNe, ge_iff_le, gt_iff_lt, decide_true, decide_false, Int.lt_irrefl, Nat.zero_add, Nat.add_zero, q1]
      exact hK
end Go.Ai

/- RecordCarries: the machine's word. -/
import Derived.Test.YtejoagfpklpafaaLawR0
import Derived.Test.YtejoagfpklpafaaRecP
import Derived.Test.YtejoagfpklpafaaConvFit
set_option linter.unusedVariables false
set_option linter.unusedSimpArgs false
set_option maxRecDepth 100000
set_option maxHeartbeats 4000000
namespace Go.Ai
open Go.Proofs
/-- How many fields both versions know. -/
def cnt3 (l : List Fld) : Nat := (l.filter fun f => decide (f.1 ≤ 3)).length
theorem cnt3_le (l : List Fld) : cnt3 l ≤ l.length := List.length_filter_le _ _
theorem cnt3_cons (f : Fld) (l : List Fld) : cnt3 (f :: l) = (if f.1 ≤ 3 then 1 else 0) + cnt3 l := by
  unfold cnt3
  rw [List.filter_cons]
  by_cases h : f.1 ≤ 3 <;> simp [h]; omega
theorem dec_down {r : Rec} (h : RightP 2 r) (hl : (encL (knownF r ++ r.extra)).length ≤ 10000) : decodeR 1 (encL (knownF r ++ r.extra)) = ⟨downR r, 0⟩ := by
  have := by_down r
  unfold byS at this
  rw [enc_ok h hl] at this
  simp only [if_neg (show ¬ (0 : Int) = 1 by omega), if_true] at this
  rw [this]
  unfold downS
  rw [if_pos (show rightR 2 r = true from decide_eq_true h)]
theorem drop_known {r : Rec} (h : RightP 2 r) : (knownF r ++ r.extra).drop (cnt3 (knownF r ++ r.extra)) = (downR r).extra := by
  have h0 := h.2.2.2.2.2.2.2.1
  rw [knownF_eq r h0, ← ownF_eq r h0]
  have e3 : ∀ f ∈ ([(1, r.key), (2, r.value), (3, numS r.rev)] : List Fld).filter hasData, decide (f.1 ≤ 3) = true := fun f hf => by
    have := (List.mem_filter.1 hf).1
    simp only [List.mem_cons, List.not_mem_nil, or_false] at this
    rcases this with rfl | rfl | rfl <;> rfl
  have e4 : ∀ f ∈ ownF r ++ r.extra, ¬ decide (f.1 ≤ 3) = true := fun f hf => by
    rw [decide_eq_true_eq]
    rcases List.mem_append.1 hf with hf | hf
    · have := (own_right h).2.1 f hf
      omega
    · have : 5 < f.1 := (extra_tags h).2.2.2 f hf
      omega
  have hc : cnt3 (([(1, r.key), (2, r.value), (3, numS r.rev)] : List Fld).filter hasData ++ ownF r ++ r.extra) = (([(1, r.key), (2, r.value), (3, numS r.rev)] : List Fld).filter hasData).length := by
    unfold cnt3
    rw [List.append_assoc, List.filter_append, List.filter_eq_self.2 e3, List.filter_eq_nil_iff.2 e4, List.append_nil]
  rw [hc, List.append_assoc, List.drop_left]
  rfl
theorem rcarries_law (m : Nat) (hm : 12 ≤ m) (x : R5) (hx : r5k x) (raw : List (Int × Int)) (hrl : raw.length ≤ 140737488351232) (hr : ∀ p ∈ raw, i64ok p.1 ∧ i64ok p.2) (ts : List (List UInt8)) (htl : ts.length ≤ 140737488351232) (ht : ∀ t ∈ ts, t.length ≤ 140737488351232) : wpF C m 6 [.agg (r5w x), .lst 2 (raw.map rv), .lst 1 (ts.map tv)] [] fun r _ => r = .v (.bool true) := by
  obtain ⟨x0, x1, x2, x3, x4⟩ := hx
  have hright := record_right ts (a1 := x.b) (.inr rfl) x0 x2 x3 x4 (fun p hp => (hr p hp).1)
  have hlen := record_len ts hright
  have hrec := fun (m : Nat) (hm : 3 ≤ m) K => rec_w m hm 2 x.a x.b x.c x.d x.e raw ts x0 x1 x2 x3 x4 hr (by omega) (.inr rfl) K
  generalize recordS 2 x.a x.b x.c x.d x.e raw ts = r at hright hlen hrec
  unfold rcv at hrec
  unfold r5w
  have hl : r.extra.length ≤ 64 := (right_bd (extra_tags hright).2.1).1
  have hdl : (downR r).extra.length ≤ 64 := (right_bd (extra_tags (down_right hright)).2.1).1
  have hall := all_right hright
  have hll := (right_bd hall).1
  have he := fun (m : Nat) (hm : 7 ≤ m) K => encoder_w m hm 2 r (by omega) K
  have hd := fun (m : Nat) (hm : 8 ≤ m) K => pdecoder_w m hm 1 (encL (knownF r ++ r.extra)) (by omega) K
  have hdec := fun (m : Nat) (hm : 6 ≤ m) K => decode_w m hm (encL (knownF r ++ r.extra)) (by omega) K
  have hds := decode_encode hall (by omega)
  have hdk := drop_known hright
  rw [enc_ok hright (by omega)] at he
  rw [dec_down hright (by omega)] at hd
  unfold BE.av rcv at he
  unfold RE.av rcv at hd
  simp only at he hd
  have dk : (downR r).key = r.key := rfl
  have dv : (downR r).value = r.value := rfl
  have dr : (downR r).rev = r.rev := rfl
  have dl : (downR r).life = 0 := rfl
  have dn : (downR r).note = [] := rfl
  rw [dk, dv, dr, dl, dn] at hd
  generalize encL (knownF r ++ r.extra) = s at he hd hdec hds
  generalize (downR r).extra = ex at hd hdk hdl
  generalize knownF r ++ r.extra = l at hds hdk hll
  obtain ⟨m, rfl⟩ : ∃ j, m = j + 1 := ⟨m - 1, by omega⟩; simp only [wpF, bodyA, fn_6, C_P, ok_6, C_prim, primOf, true_and]; simp (maxSteps := 4000000) only [EV, EVF, XV, cond_true, cond_false, Bool.false_eq_true, Bool.true_eq_false, eq_self, normsOf, cutsOf, heapOf, quietOf, drawsOf, drawmOf, drawfOf, opnOf, coldOf, shutOf, iceOf, extOf, extOverlaps_eq, overB_eq, extCmp_eq, shpOf, Try.f6, ↓reduceIte, Nat.reduceAdd, Nat.reduceLT, Nat.reduceEqDiff, Nat.reduceLeDiff, Nat.succ_ne_zero, Nat.zero_ne_one, Nat.one_ne_zero, ne_eq, not_false_eq_true, true_and, and_true, Nat.reduceMul, Nat.reduceSub, Int.reduceToNat, Int.toNat_zero, Int.toNat_one, Nat.zero_mul, Nat.one_mul, Int.reduceLT, Int.reduceLE, Int.le_refl, Int.zero_lt_one, Int.toNat_natCast, List.take_length, Int.cast_ofNat_Int, Int.reduceAdd, Int.reduceSub, Int.reduceBEq, Int.reduceBNe, ge_iff_le, gt_iff_lt, decide_true, decide_false, Int.lt_irrefl, Nat.zero_add, Nat.add_zero]
  refine awake3_w m (by omega) _ fun H => ?_
  simp (maxSteps := 4000000) only [EV, EVF, XV, cond_true, cond_false, Bool.false_eq_true, Bool.true_eq_false, eq_self, normsOf, cutsOf, heapOf, quietOf, drawsOf, drawmOf, drawfOf, opnOf, coldOf, shutOf, iceOf, extOf, extOverlaps_eq, overB_eq, extCmp_eq, shpOf, Try.f6, ↓reduceIte, Nat.reduceAdd, Nat.reduceLT, Nat.reduceEqDiff, Nat.reduceLeDiff, Nat.succ_ne_zero, Nat.zero_ne_one, Nat.one_ne_zero, ne_eq, not_false_eq_true, true_and, and_true, Nat.reduceMul, Nat.reduceSub, Int.reduceToNat, Int.toNat_zero, Int.toNat_one, Nat.zero_mul, Nat.one_mul, Int.reduceLT, Int.reduceLE, Int.le_refl, Int.zero_lt_one, Int.toNat_natCast, List.take_length, Int.cast_ofNat_Int, Int.reduceAdd, Int.reduceSub, Int.reduceBEq, Int.reduceBNe, ge_iff_le, gt_iff_lt, decide_true, decide_false, Int.lt_irrefl, Nat.zero_add, Nat.add_zero]
  refine hrec m (by omega) _ fun H => ?_
  simp (maxSteps := 4000000) only [EV, EVF, XV, cond_true, cond_false, Bool.false_eq_true, Bool.true_eq_false, eq_self, normsOf, cutsOf, heapOf, quietOf, drawsOf, drawmOf, drawfOf, opnOf, coldOf, shutOf, iceOf, extOf, extOverlaps_eq, overB_eq, extCmp_eq, shpOf, Try.f6, ↓reduceIte, Nat.reduceAdd, Nat.reduceLT, Nat.reduceEqDiff, Nat.reduceLeDiff, Nat.succ_ne_zero, Nat.zero_ne_one, Nat.one_ne_zero, ne_eq, not_false_eq_true, true_and, and_true, Nat.reduceMul, Nat.reduceSub, Int.reduceToNat, Int.toNat_zero, Int.toNat_one, Nat.zero_mul, Nat.one_mul, Int.reduceLT, Int.reduceLE, Int.le_refl, Int.zero_lt_one, Int.toNat_natCast, List.take_length, Int.cast_ofNat_Int, Int.reduceAdd, Int.reduceSub, Int.reduceBEq, Int.reduceBNe, ge_iff_le, gt_iff_lt, decide_true, decide_false, Int.lt_irrefl, Nat.zero_add, Nat.add_zero]
  refine he m (by omega) _ fun H => ?_
  simp (maxSteps := 4000000) only [EV, EVF, XV, cond_true, cond_false, Bool.false_eq_true, Bool.true_eq_false, eq_self, normsOf, cutsOf, heapOf, quietOf, drawsOf, drawmOf, drawfOf, opnOf, coldOf, shutOf, iceOf, extOf, extOverlaps_eq, overB_eq, extCmp_eq, shpOf, Try.f6, ↓reduceIte, Nat.reduceAdd, Nat.reduceLT, Nat.reduceEqDiff, Nat.reduceLeDiff, Nat.succ_ne_zero, Nat.zero_ne_one, Nat.one_ne_zero, ne_eq, not_false_eq_true, true_and, and_true, Nat.reduceMul, Nat.reduceSub, Int.reduceToNat, Int.toNat_zero, Int.toNat_one, Nat.zero_mul, Nat.one_mul, Int.reduceLT, Int.reduceLE, Int.le_refl, Int.zero_lt_one, Int.toNat_natCast, List.take_length, Int.cast_ofNat_Int, Int.reduceAdd, Int.reduceSub, Int.reduceBEq, Int.reduceBNe, ge_iff_le, gt_iff_lt, decide_true, decide_false, Int.lt_irrefl, Nat.zero_add, Nat.add_zero]
  refine hdec m (by omega) _ (fun e H he' => ?_) (fun l' he' => ?_)
  · rw [hds] at he'
    simp at he'
  obtain rfl : l = l' := by
    rw [hds] at he'
    simpa using he'
  simp (maxSteps := 4000000) only [EV, EVF, XV, cond_true, cond_false, Bool.false_eq_true, Bool.true_eq_false, eq_self, normsOf, cutsOf, heapOf, quietOf, drawsOf, drawmOf, drawfOf, opnOf, coldOf, shutOf, iceOf, extOf, extOverlaps_eq, overB_eq, extCmp_eq, shpOf, Try.f6, ↓reduceIte, Nat.reduceAdd, Nat.reduceLT, Nat.reduceEqDiff, Nat.reduceLeDiff, Nat.succ_ne_zero, Nat.zero_ne_one, Nat.one_ne_zero, ne_eq, not_false_eq_true, true_and, and_true, Nat.reduceMul, Nat.reduceSub, Int.reduceToNat, Int.toNat_zero, Int.toNat_one, Nat.zero_mul, Nat.one_mul, Int.reduceLT, Int.reduceLE, Int.le_refl, Int.zero_lt_one, Int.toNat_natCast, List.take_length, Int.cast_ofNat_Int, Int.reduceAdd, Int.reduceSub, Int.reduceBEq, Int.reduceBNe, ge_iff_le, gt_iff_lt, decide_true, decide_false, Int.lt_irrefl, Nat.zero_add, Nat.add_zero]
  refine hd m (by omega) _ fun H => ?_
  simp (maxSteps := 4000000) only [EV, EVF, XV, cond_true, cond_false, Bool.false_eq_true, Bool.true_eq_false, eq_self, normsOf, cutsOf, heapOf, quietOf, drawsOf, drawmOf, drawfOf, opnOf, coldOf, shutOf, iceOf, extOf, extOverlaps_eq, overB_eq, extCmp_eq, shpOf, Try.f6, ↓reduceIte, Nat.reduceAdd, Nat.reduceLT, Nat.reduceEqDiff, Nat.reduceLeDiff, Nat.succ_ne_zero, Nat.zero_ne_one, Nat.one_ne_zero, ne_eq, not_false_eq_true, true_and, and_true, Nat.reduceMul, Nat.reduceSub, Int.reduceToNat, Int.toNat_zero, Int.toNat_one, Nat.zero_mul, Nat.one_mul, Int.reduceLT, Int.reduceLE, Int.le_refl, Int.zero_lt_one, Int.toNat_natCast, List.take_length, Int.cast_ofNat_Int, Int.reduceAdd, Int.reduceSub, Int.reduceBEq, Int.reduceBNe, ge_iff_le, gt_iff_lt, decide_true, decide_false, Int.lt_irrefl, Nat.zero_add, Nat.add_zero]
  refine loop_at (fun k : Nat => ⟨[(7, .v (.bool true)), (8, .ptr 0 0), (11, .row 1 2 0 l.length), (13, .ptr 2 0), (15, .v (.int .i64 (cnt3 (l.take k) : Nat))), (16, .v (.int .i64 k))], [some (.var 24 (rcv r)), some (.row 46 2 (l.map fv)), some (.var 24 [.v (.string (mk r.key)), .v (.string (mk r.value)), .v (.int .i64 r.rev), .v (.int .i64 0), .v (.string (mk [])), .lst 2 (ex.map fv)])]⟩) (fun k => k ≤ l.length) (fun k => l.length - k) 0 (by omega) rfl ?_
  intro k hk
  simp only [rcv]
  by_cases hk2 : k < l.length
  · obtain ⟨f, hf, hd'⟩ := drop_at hk2
    have hf' := map_at (f := fv) hf
    have hk' : ((k : Int) < l.length) = True := eq_true (by omega)
    have w1 : IntKind.i64.wrap ((k : Int) + 1) = ((k + 1 : Nat) : Int) := by rw [wrap64 (by omega) (by omega)]; rfl
    have hcs := cnt3_le (l.take k)
    have hct : cnt3 (l.take (k + 1)) = cnt3 (l.take k) + if f.1 ≤ 3 then 1 else 0 := by
      rw [take_snoc' hf]
      unfold cnt3
      rw [List.filter_append, List.length_append]
      by_cases h : f.1 ≤ 3 <;> simp [h]
    rw [List.length_take] at hcs
    have w2 : IntKind.i64.wrap (((cnt3 (l.take k) : Nat) : Int) + 1) = ((cnt3 (l.take k) + 1 : Nat) : Int) := by rw [wrap64 (by omega) (by omega)]; rfl
    simp (maxSteps := 4000000) only [EV, EVF, XV, cond_true, cond_false, Bool.false_eq_true, Bool.true_eq_false, eq_self, normsOf, cutsOf, heapOf, quietOf, drawsOf, drawmOf, drawfOf, opnOf, coldOf, shutOf, iceOf, extOf, extOverlaps_eq, overB_eq, extCmp_eq, shpOf, Try.f6, ↓reduceIte, Nat.reduceAdd, Nat.reduceLT, Nat.reduceEqDiff, Nat.reduceLeDiff, Nat.succ_ne_zero, Nat.zero_ne_one, Nat.one_ne_zero, ne_eq, not_false_eq_true, true_and, and_true, Nat.reduceMul, Nat.reduceSub, Int.reduceToNat, Int.toNat_zero, Int.toNat_one, Nat.zero_mul, Nat.one_mul, Int.reduceLT, Int.reduceLE, Int.le_refl, Int.zero_lt_one, Int.toNat_natCast, List.take_length, Int.cast_ofNat_Int, Int.reduceAdd, Int.reduceSub, Int.reduceBEq, Int.reduceBNe, ge_iff_le, gt_iff_lt, decide_true, decide_false, Int.lt_irrefl, Nat.zero_add, Nat.add_zero, hk', hf', fv, w1, w2]
    refine IF_dec (fun h3 => ?_) (fun h3 => ?_)
    · simp (maxSteps := 4000000) only [EV, EVF, XV, cond_true, cond_false, Bool.false_eq_true, Bool.true_eq_false, eq_self, normsOf, cutsOf, heapOf, quietOf, drawsOf, drawmOf, drawfOf, opnOf, coldOf, shutOf, iceOf, extOf, extOverlaps_eq, overB_eq, extCmp_eq, shpOf, Try.f6, ↓reduceIte, Nat.reduceAdd, Nat.reduceLT, Nat.reduceEqDiff, Nat.reduceLeDiff, Nat.succ_ne_zero, Nat.zero_ne_one, Nat.one_ne_zero, ne_eq, not_false_eq_true, true_and, and_true, Nat.reduceMul, Nat.reduceSub, Int.reduceToNat, Int.toNat_zero, Int.toNat_one, Nat.zero_mul, Nat.one_mul, Int.reduceLT, Int.reduceLE, Int.le_refl, Int.zero_lt_one, Int.toNat_natCast, List.take_length, Int.cast_ofNat_Int, Int.reduceAdd, Int.reduceSub, Int.reduceBEq, Int.reduceBNe, ge_iff_le, gt_iff_lt, decide_true, decide_false, Int.lt_irrefl, Nat.zero_add, Nat.add_zero, w1, w2]
      refine ⟨k + 1, by omega, by omega, ?_⟩
      rw [hct, if_pos h3]
    · simp (maxSteps := 4000000) only [EV, EVF, XV, cond_true, cond_false, Bool.false_eq_true, Bool.true_eq_false, eq_self, normsOf, cutsOf, heapOf, quietOf, drawsOf, drawmOf, drawfOf, opnOf, coldOf, shutOf, iceOf, extOf, extOverlaps_eq, overB_eq, extCmp_eq, shpOf, Try.f6, ↓reduceIte, Nat.reduceAdd, Nat.reduceLT, Nat.reduceEqDiff, Nat.reduceLeDiff, Nat.succ_ne_zero, Nat.zero_ne_one, Nat.one_ne_zero, ne_eq, not_false_eq_true, true_and, and_true, Nat.reduceMul, Nat.reduceSub, Int.reduceToNat, Int.toNat_zero, Int.toNat_one, Nat.zero_mul, Nat.one_mul, Int.reduceLT, Int.reduceLE, Int.le_refl, Int.zero_lt_one, Int.toNat_natCast, List.take_length, Int.cast_ofNat_Int, Int.reduceAdd, Int.reduceSub, Int.reduceBEq, Int.reduceBNe, ge_iff_le, gt_iff_lt, decide_true, decide_false, Int.lt_irrefl, Nat.zero_add, Nat.add_zero, w1, w2]
      refine ⟨k + 1, by omega, by omega, ?_⟩
      rw [hct, if_neg h3]
      rfl
  · have hk3 : k = l.length := by omega
    subst hk3
    have hcs := cnt3_le l
    have hs := fun (m : Nat) (hm : 1 ≤ m) K => same_w m hm ex ex (by omega) K
    rw [decide_eq_true rfl] at hs
    have hdk' : (l.map fv).drop (cnt3 l) = ex.map fv := by rw [← List.map_drop, hdk]
    rw [List.take_length]
    simp (maxSteps := 4000000) only [EV, EVF, XV, cond_true, cond_false, Bool.false_eq_true, Bool.true_eq_false, eq_self, normsOf, cutsOf, heapOf, quietOf, drawsOf, drawmOf, drawfOf, opnOf, coldOf, shutOf, iceOf, extOf, extOverlaps_eq, overB_eq, extCmp_eq, shpOf, Try.f6, ↓reduceIte, Nat.reduceAdd, Nat.reduceLT, Nat.reduceEqDiff, Nat.reduceLeDiff, Nat.succ_ne_zero, Nat.zero_ne_one, Nat.one_ne_zero, ne_eq, not_false_eq_true, true_and, and_true, Nat.reduceMul, Nat.reduceSub, Int.reduceToNat, Int.toNat_zero, Int.toNat_one, Nat.zero_mul, Nat.one_mul, Int.reduceLT, Int.reduceLE, Int.le_refl, Int.zero_lt_one, Int.toNat_natCast, List.take_length, Int.cast_ofNat_Int, Int.reduceAdd, Int.reduceSub, Int.reduceBEq, Int.reduceBNe, ge_iff_le, gt_iff_lt, decide_true, decide_false, Int.lt_irrefl, Nat.zero_add, Nat.add_zero, Int.lt_irrefl, decide_false]
    refine ⟨by omega, ?_⟩
    rw [List.take_of_length_le (by simp), hdk]
    refine hs m (by omega) _ ?_
    simp (maxSteps := 4000000) only [EV, EVF, XV, cond_true, cond_false, Bool.false_eq_true, Bool.true_eq_false, eq_self, normsOf, cutsOf, heapOf, quietOf, drawsOf, drawmOf, drawfOf, opnOf, coldOf, shutOf, iceOf, extOf, extOverlaps_eq, overB_eq, extCmp_eq, shpOf, Try.f6, ↓reduceIte, Nat.reduceAdd, Nat.reduceLT, Nat.reduceEqDiff, Nat.reduceLeDiff, Nat.succ_ne_zero, Nat.zero_ne_one, Nat.one_ne_zero, ne_eq, not_false_eq_true, true_and, and_true, Nat.reduceMul, Nat.reduceSub, Int.reduceToNat, Int.toNat_zero, Int.toNat_one, Nat.zero_mul, Nat.one_mul, Int.reduceLT, Int.reduceLE, Int.le_refl, Int.zero_lt_one, Int.toNat_natCast, List.take_length, Int.cast_ofNat_Int, Int.reduceAdd, Int.reduceSub, Int.reduceBEq, Int.reduceBNe, ge_iff_le, gt_iff_lt, decide_true, decide_false, Int.lt_irrefl, Nat.zero_add, Nat.add_zero, beq_self_eq_true]
end Go.Ai

/- TableScans: the machine's word. -/
import Derived.Test.YtmebpmghmghhkaaTabG
import Derived.Test.YtmebpmghmghhkaaTabFit
set_option linter.unusedVariables false
set_option linter.unusedSimpArgs false
set_option maxRecDepth 100000
set_option maxHeartbeats 4000000
namespace Go.Ai
open Go.Proofs
theorem cmp_snoc0 : ∀ {a b : List UInt8}, cmpL a (b ++ [0]) < 0 ↔ cmpL a b < 0 ∨ a = b
  | [], [] => by decide
  | [], y :: b => by simp [cmpL]
  | x :: a, [] => by
    simp only [List.nil_append, cmpL]
    have h0 : ¬ x < 0 := by simp
    rw [if_neg h0]
    split
    · simp
    · cases a <;> simp [cmpL]
  | x :: a, y :: b => by
    have ih := cmp_snoc0 (a := a) (b := b)
    rw [List.cons_append]
    simp only [cmpL]
    by_cases h1 : x < y
    · simp [h1]
    · rw [if_neg h1, if_neg h1]
      by_cases h2 : y < x
      · rw [if_pos h2, if_pos h2]
        have : ¬ x = y := fun hc => by
          rw [hc] at h2
          simp at h2
        simp [this]
      · rw [if_neg h2, if_neg h2, ih]
        have : x = y := by
          rcases u8_tri x y with h | h | h
          · exact absurd h h1
          · exact h
          · exact absurd h h2
        simp [this]
theorem posT_next {t : List Rec} {j : Nat} {x : Rec} (hs : Rise t) (hx : t[j]? = some x) : posT (x.key ++ [0]) t = j + 1 := by
  obtain ⟨j1, j2⟩ := List.getElem?_eq_some_iff.1 hx
  have hp := List.pairwise_iff_getElem.1 hs
  refine pos_eq (by omega) (fun r hr => ?_) (fun r hr => ?_)
  · obtain ⟨a, ha⟩ := List.mem_iff_getElem?.1 hr
    have hal : a < j + 1 := by
      have := (List.getElem?_eq_some_iff.1 ha).1
      simp at this
      omega
    rw [List.getElem?_take_of_lt hal] at ha
    obtain ⟨a1, a2⟩ := List.getElem?_eq_some_iff.1 ha
    refine cmp_snoc0.2 ?_
    rcases Nat.lt_or_ge a j with h | h
    · have := hp a j a1 j1 h
      rw [a2, j2] at this
      exact .inl this
    · have : a = j := by omega
      subst this
      rw [hx] at ha
      simp only [Option.some.injEq] at ha
      exact .inr (by rw [ha])
  · obtain ⟨a, ha⟩ := List.mem_iff_getElem?.1 hr
    rw [List.getElem?_drop] at ha
    obtain ⟨a1, a2⟩ := List.getElem?_eq_some_iff.1 ha
    have := hp j (j + 1 + a) j1 a1 (by omega)
    rw [j2, a2] at this
    intro hc
    rcases cmp_snoc0.1 hc with h | h
    · exact cmp_not this h
    · exact cmp_ne this h.symm
theorem scan_plain {t : List Rec} {k : List UInt8} {n : Nat} (ht : tabR t = true) (hk : k.length ≤ 16) (hn : posT k t = n) : doS t (opScan k) = ⟨t, ⟨0, 0, [], ((t.drop n).take 5).map (·.key)⟩⟩ := by
  have hc : checkS 2 (opScan k) = 0 := by
    unfold checkS opScan numP
    rw [if_neg, if_neg, if_neg]
    · simp
    · simp
      omega
    · simp
  unfold doS
  rw [if_pos ⟨ht, hc⟩, show (opScan k).key = k from rfl, hn]
  unfold stepS scanS
  have e : (t.drop n).takeWhile (fun r => true) = t.drop n := by
    induction t.drop n with
    | nil => rfl
    | cons x l ih => simp [ih]
  simp only [opScan]
  simp [e]
theorem posT_nil {t : List Rec} (ht : tabR t = true) : posT [] t = 0 := by
  cases t with
  | nil => rfl
  | cons r t =>
    rw [posT_cons, if_neg]
    cases r.key <;> simp [cmpL]
theorem tscans_law (m : Nat) (hm : 30 ≤ m) (raw : List R5) (hrl : raw.length * 40 ≤ 140737488351232) (hr : ∀ r ∈ raw, r5k r) : wpF C m 6 [.lst 5 (raw.map r5w)] [] fun r _ => r = .v (.bool true) := by
  have htb := fun (m : Nat) (hm : 6 ≤ m) K => table_w m hm raw (by omega) hr K
  have tT := table_T (raw := raw)
  have tR := table_right (raw := raw)
  have tK := table_key hr
  generalize tableS raw = t at *
  have htl := (tabR_iff.1 tR).2.2
  have hs := (tabR_iff.1 tR).1
  obtain ⟨m, rfl⟩ : ∃ j, m = j + 1 := ⟨m - 1, by omega⟩; simp only [wpF, bodyA, fn_6, C_P, ok_6, C_prim, primOf, true_and]; simp (maxSteps := 4000000) only [EV, EVF, XV, cond_true, cond_false, Bool.false_eq_true, Bool.true_eq_false, eq_self, normsOf, cutsOf, heapOf, quietOf, drawsOf, drawmOf, drawfOf, opnOf, coldOf, shutOf, iceOf, extOf, extOverlaps_eq, overB_eq, extCmp_eq, shpOf, Try.f6, ↓reduceIte, Nat.reduceAdd, Nat.reduceLT, Nat.reduceEqDiff, Nat.reduceLeDiff, Nat.succ_ne_zero, Nat.zero_ne_one, Nat.one_ne_zero, ne_eq, not_false_eq_true, true_and, and_true, Nat.reduceMul, Nat.reduceSub, Int.reduceToNat, Int.toNat_zero, Int.toNat_one, Nat.zero_mul, Nat.one_mul, Int.reduceLT, Int.reduceLE, Int.le_refl, Int.zero_lt_one, Int.toNat_natCast, List.take_length, Int.cast_ofNat_Int, Int.reduceAdd, Int.reduceSub, Int.reduceBEq, Int.reduceBNe, ge_iff_le, gt_iff_lt, decide_true, decide_false, Int.lt_irrefl, Nat.zero_add, Nat.add_zero]
  refine awake12_w m (by omega) _ fun H => ?_
  simp (maxSteps := 4000000) only [EV, EVF, XV, cond_true, cond_false, Bool.false_eq_true, Bool.true_eq_false, eq_self, normsOf, cutsOf, heapOf, quietOf, drawsOf, drawmOf, drawfOf, opnOf, coldOf, shutOf, iceOf, extOf, extOverlaps_eq, overB_eq, extCmp_eq, shpOf, Try.f6, ↓reduceIte, Nat.reduceAdd, Nat.reduceLT, Nat.reduceEqDiff, Nat.reduceLeDiff, Nat.succ_ne_zero, Nat.zero_ne_one, Nat.one_ne_zero, ne_eq, not_false_eq_true, true_and, and_true, Nat.reduceMul, Nat.reduceSub, Int.reduceToNat, Int.toNat_zero, Int.toNat_one, Nat.zero_mul, Nat.one_mul, Int.reduceLT, Int.reduceLE, Int.le_refl, Int.zero_lt_one, Int.toNat_natCast, List.take_length, Int.cast_ofNat_Int, Int.reduceAdd, Int.reduceSub, Int.reduceBEq, Int.reduceBNe, ge_iff_le, gt_iff_lt, decide_true, decide_false, Int.lt_irrefl, Nat.zero_add, Nat.add_zero]
  refine htb m (by omega) _ fun H => ?_
  simp (maxSteps := 4000000) only [EV, EVF, XV, cond_true, cond_false, Bool.false_eq_true, Bool.true_eq_false, eq_self, normsOf, cutsOf, heapOf, quietOf, drawsOf, drawmOf, drawfOf, opnOf, coldOf, shutOf, iceOf, extOf, extOverlaps_eq, overB_eq, extCmp_eq, shpOf, Try.f6, ↓reduceIte, Nat.reduceAdd, Nat.reduceLT, Nat.reduceEqDiff, Nat.reduceLeDiff, Nat.succ_ne_zero, Nat.zero_ne_one, Nat.one_ne_zero, ne_eq, not_false_eq_true, true_and, and_true, Nat.reduceMul, Nat.reduceSub, Int.reduceToNat, Int.toNat_zero, Int.toNat_one, Nat.zero_mul, Nat.one_mul, Int.reduceLT, Int.reduceLE, Int.le_refl, Int.zero_lt_one, Int.toNat_natCast, List.take_length, Int.cast_ofNat_Int, Int.reduceAdd, Int.reduceSub, Int.reduceBEq, Int.reduceBNe, ge_iff_le, gt_iff_lt, decide_true, decide_false, Int.lt_irrefl, Nat.zero_add, Nat.add_zero]
  refine loop_at (fun p : Nat × List UInt8 => ⟨[(3, .v (.bool true)), (4, .lst 6 (t.map rcv)), (5, .v (.string (mk p.2))), (6, .v (.int .i64 (min (5 * p.1) t.length : Nat))), (7, .v (.int .i64 p.1))], []⟩) (fun p => p.1 ≤ 8 ∧ p.2.length ≤ 6 ∧ posT p.2 t = min (5 * p.1) t.length) (fun p => 8 - p.1) (0, []) ⟨by simp, by simp, by simp [posT_nil tR]⟩ rfl ?_
  rintro ⟨i, from_⟩ ⟨h1, h2, h3⟩
  simp only at h1 h2 h3 ⊢
  obtain ⟨n, hn⟩ : ∃ n, min (5 * i) t.length = n := ⟨_, rfl⟩
  rw [hn] at h3 ⊢
  by_cases hi : i < 8
  rotate_left
  · obtain rfl : i = 8 := by omega
    have hnl : n = t.length := by omega
    subst hnl
    simp (maxSteps := 4000000) only [EV, EVF, XV, cond_true, cond_false, Bool.false_eq_true, Bool.true_eq_false, eq_self, normsOf, cutsOf, heapOf, quietOf, drawsOf, drawmOf, drawfOf, opnOf, coldOf, shutOf, iceOf, extOf, extOverlaps_eq, overB_eq, extCmp_eq, shpOf, Try.f6, ↓reduceIte, Nat.reduceAdd, Nat.reduceLT, Nat.reduceEqDiff, Nat.reduceLeDiff, Nat.succ_ne_zero, Nat.zero_ne_one, Nat.one_ne_zero, ne_eq, not_false_eq_true, true_and, and_true, Nat.reduceMul, Nat.reduceSub, Int.reduceToNat, Int.toNat_zero, Int.toNat_one, Nat.zero_mul, Nat.one_mul, Int.reduceLT, Int.reduceLE, Int.le_refl, Int.zero_lt_one, Int.toNat_natCast, List.take_length, Int.cast_ofNat_Int, Int.reduceAdd, Int.reduceSub, Int.reduceBEq, Int.reduceBNe, ge_iff_le, gt_iff_lt, decide_true, decide_false, Int.lt_irrefl, Nat.zero_add, Nat.add_zero, beq_self_eq_true]
  have q1 : ((i : Int) < 8) = True := eq_true (by omega)
  have w1 : IntKind.i64.wrap ((i : Int) + 1) = ((i + 1 : Nat) : Int) := by rw [wrap64 (by omega) (by omega)]; omega
  have hnl : n ≤ t.length := by omega
  have w2 : IntKind.i64.wrap ((t.length : Int) - (n : Int)) = ((t.length - n : Nat) : Int) := by rw [wrap64 (by omega) (by omega)]; omega
  have hd := fun (m : Nat) (hm : 12 ≤ m) K => do_w m hm t tT (opScan from_) K
  rw [scan_plain tR (by omega) h3] at hd
  have s1 := fun (m : Nat) (hm : 3 ≤ m) K => rsame12_w m hm t t tT K
  rw [decide_eq_true rfl] at s1
  obtain ⟨ks, hks⟩ : ∃ ks, ((t.drop n).take 5).map (·.key) = ks := ⟨_, rfl⟩
  rw [hks] at hd
  have hkl : ks.length = min 5 (t.length - n) := by
    rw [← hks]
    simp
  have hka : ∀ k, k < ks.length → ∃ r, t[n + k]? = some r ∧ ks[k]? = some r.key := fun k hk => by
    obtain ⟨r, hr, _⟩ := drop_at (l := t) (k := n + k) (by omega)
    refine ⟨r, hr, ?_⟩
    rw [← hks, List.getElem?_map, List.getElem?_take_of_lt (by omega), List.getElem?_drop, hr]
    rfl
  unfold DoR.av opScan opv rpv at hd
  simp only at hd
  have hmin : (if ((t.length - n : Nat) : Int) < 5 then ((t.length - n : Nat) : Int) else 5) = (ks.length : Int) := by
    split <;> omega
  simp (maxSteps := 4000000) only [EV, EVF, XV, cond_true, cond_false, Bool.false_eq_true, Bool.true_eq_false, eq_self, normsOf, cutsOf, heapOf, quietOf, drawsOf, drawmOf, drawfOf, opnOf, coldOf, shutOf, iceOf, extOf, extOverlaps_eq, overB_eq, extCmp_eq, shpOf, Try.f6, ↓reduceIte, Nat.reduceAdd, Nat.reduceLT, Nat.reduceEqDiff, Nat.reduceLeDiff, Nat.succ_ne_zero, Nat.zero_ne_one, Nat.one_ne_zero, ne_eq, not_false_eq_true, true_and, and_true, Nat.reduceMul, Nat.reduceSub, Int.reduceToNat, Int.toNat_zero, Int.toNat_one, Nat.zero_mul, Nat.one_mul, Int.reduceLT, Int.reduceLE, Int.le_refl, Int.zero_lt_one, Int.toNat_natCast, List.take_length, Int.cast_ofNat_Int, Int.reduceAdd, Int.reduceSub, Int.reduceBEq, Int.reduceBNe, ge_iff_le, gt_iff_lt, decide_true, decide_false, Int.lt_irrefl, Nat.zero_add, Nat.add_zero, q1]
  refine hd m (by omega) _ fun H => ?_
  simp (maxSteps := 4000000) only [EV, EVF, XV, cond_true, cond_false, Bool.false_eq_true, Bool.true_eq_false, eq_self, normsOf, cutsOf, heapOf, quietOf, drawsOf, drawmOf, drawfOf, opnOf, coldOf, shutOf, iceOf, extOf, extOverlaps_eq, overB_eq, extCmp_eq, shpOf, Try.f6, ↓reduceIte, Nat.reduceAdd, Nat.reduceLT, Nat.reduceEqDiff, Nat.reduceLeDiff, Nat.succ_ne_zero, Nat.zero_ne_one, Nat.one_ne_zero, ne_eq, not_false_eq_true, true_and, and_true, Nat.reduceMul, Nat.reduceSub, Int.reduceToNat, Int.toNat_zero, Int.toNat_one, Nat.zero_mul, Nat.one_mul, Int.reduceLT, Int.reduceLE, Int.le_refl, Int.zero_lt_one, Int.toNat_natCast, List.take_length, Int.cast_ofNat_Int, Int.reduceAdd, Int.reduceSub, Int.reduceBEq, Int.reduceBNe, ge_iff_le, gt_iff_lt, decide_true, decide_false, Int.lt_irrefl, Nat.zero_add, Nat.add_zero, eq_false (show ¬ (5 : Int) < (ks.length : Int) by omega)]
  refine s1 m (by omega) _ fun H => ?_
  simp (maxSteps := 4000000) only [EV, EVF, XV, cond_true, cond_false, Bool.false_eq_true, Bool.true_eq_false, eq_self, normsOf, cutsOf, heapOf, quietOf, drawsOf, drawmOf, drawfOf, opnOf, coldOf, shutOf, iceOf, extOf, extOverlaps_eq, overB_eq, extCmp_eq, shpOf, Try.f6, ↓reduceIte, Nat.reduceAdd, Nat.reduceLT, Nat.reduceEqDiff, Nat.reduceLeDiff, Nat.succ_ne_zero, Nat.zero_ne_one, Nat.one_ne_zero, ne_eq, not_false_eq_true, true_and, and_true, Nat.reduceMul, Nat.reduceSub, Int.reduceToNat, Int.toNat_zero, Int.toNat_one, Nat.zero_mul, Nat.one_mul, Int.reduceLT, Int.reduceLE, Int.le_refl, Int.zero_lt_one, Int.toNat_natCast, List.take_length, Int.cast_ofNat_Int, Int.reduceAdd, Int.reduceSub, Int.reduceBEq, Int.reduceBNe, ge_iff_le, gt_iff_lt, decide_true, decide_false, Int.lt_irrefl, Nat.zero_add, Nat.add_zero, Bool.not_true, w2, hmin, bne_self_eq_false]
  refine loop_at (fun k : Nat => ⟨[(3, .v (.bool true)), (4, .lst 6 (t.map rcv)), (6, .v (.int .i64 (n + k : Nat))), (7, .v (.int .i64 i)), (9, .ptr 0 0), (10, .v (.int .i64 k))], [some (.var 37 [.v (.int .i64 0), .v (.int .i64 0), .v (.string (mk [])), .lst 1 (ks.map tv)])]⟩) (fun k => k ≤ ks.length) (fun k => ks.length - k) 0 (by omega) rfl ?_
  intro k hk
  by_cases hkl2 : k < ks.length
  · obtain ⟨r, hr1, hr2⟩ := hka k hkl2
    have hm1 : (t.map rcv)[n + k]? = some [.v (.string (mk r.key)), .v (.string (mk r.value)), .v (.int .i64 r.rev), .v (.int .i64 r.life), .v (.string (mk r.note)), .lst 2 (r.extra.map fv)] := map_at (f := rcv) hr1
    have hm2 : (ks.map tv)[k]? = some [.v (.string (mk r.key))] := map_at (f := tv) hr2
    have hnk := (List.getElem?_eq_some_iff.1 hr1).1
    have q2 : ((k : Int) < (ks.length : Int)) = True := eq_true (by omega)
    have q3 : (((n + k : Nat) : Int) < (t.length : Int)) = True := eq_true (by omega)
    have w3 : IntKind.i64.wrap ((k : Int) + 1) = ((k + 1 : Nat) : Int) := by rw [wrap64 (by omega) (by omega)]; omega
    have w4 : IntKind.i64.wrap (((n + k : Nat) : Int) + 1) = ((n + (k + 1) : Nat) : Int) := by rw [wrap64 (by omega) (by omega)]; omega
    generalize hnk' : n + k = nk at *
    simp (maxSteps := 4000000) only [EV, EVF, XV, cond_true, cond_false, Bool.false_eq_true, Bool.true_eq_false, eq_self, normsOf, cutsOf, heapOf, quietOf, drawsOf, drawmOf, drawfOf, opnOf, coldOf, shutOf, iceOf, extOf, extOverlaps_eq, overB_eq, extCmp_eq, shpOf, Try.f6, ↓reduceIte, Nat.reduceAdd, Nat.reduceLT, Nat.reduceEqDiff, Nat.reduceLeDiff, Nat.succ_ne_zero, Nat.zero_ne_one, Nat.one_ne_zero, ne_eq, not_false_eq_true, true_and, and_true, Nat.reduceMul, Nat.reduceSub, Int.reduceToNat, Int.toNat_zero, Int.toNat_one, Nat.zero_mul, Nat.one_mul, Int.reduceLT, Int.reduceLE, Int.le_refl, Int.zero_lt_one, Int.toNat_natCast, List.take_length, Int.cast_ofNat_Int, Int.reduceAdd, Int.reduceSub, Int.reduceBEq, Int.reduceBNe, ge_iff_le, gt_iff_lt, decide_true, decide_false, Int.lt_irrefl, Nat.zero_add, Nat.add_zero, q2, q3, hm1, hm2, decide_true, Bool.not_true, w3, w4]
    exact ⟨k + 1, by omega, by omega, rfl⟩
  obtain rfl : k = ks.length := by omega
  by_cases h0 : ks.length = 0
  · have hke : ks = [] := List.length_eq_zero_iff.1 h0
    have hnt : n = t.length := by omega
    subst hke hnt
    simp (maxSteps := 4000000) only [EV, EVF, XV, cond_true, cond_false, Bool.false_eq_true, Bool.true_eq_false, eq_self, normsOf, cutsOf, heapOf, quietOf, drawsOf, drawmOf, drawfOf, opnOf, coldOf, shutOf, iceOf, extOf, extOverlaps_eq, overB_eq, extCmp_eq, shpOf, Try.f6, ↓reduceIte, Nat.reduceAdd, Nat.reduceLT, Nat.reduceEqDiff, Nat.reduceLeDiff, Nat.succ_ne_zero, Nat.zero_ne_one, Nat.one_ne_zero, ne_eq, not_false_eq_true, true_and, and_true, Nat.reduceMul, Nat.reduceSub, Int.reduceToNat, Int.toNat_zero, Int.toNat_one, Nat.zero_mul, Nat.one_mul, Int.reduceLT, Int.reduceLE, Int.le_refl, Int.zero_lt_one, Int.toNat_natCast, List.take_length, Int.cast_ofNat_Int, Int.reduceAdd, Int.reduceSub, Int.reduceBEq, Int.reduceBNe, ge_iff_le, gt_iff_lt, decide_true, decide_false, Int.lt_irrefl, Nat.zero_add, Nat.add_zero, Int.lt_irrefl, List.map_nil, beq_self_eq_true, List.length_nil]
  · have q4 : ((ks.length : Int) == 0) = false := by rw [beq_eq_false_iff_ne]; omega
    obtain ⟨r, hr1, hr2⟩ := hka (ks.length - 1) (by omega)
    have hm2 : (ks.map tv)[ks.length - 1]? = some [.v (.string (mk r.key))] := map_at (f := tv) hr2
    have w5 : IntKind.i64.wrap ((ks.length : Int) - 1) = ((ks.length - 1 : Nat) : Int) := by rw [wrap64 (by omega) (by omega)]; omega
    have hnext := posT_next hs hr1
    have hrk := tK r (List.mem_of_getElem? hr1)
    generalize hlast : ks.length - 1 = last at *
    have q5 : ((last : Int) < (ks.length : Int)) = True := eq_true (by omega)
    simp (maxSteps := 4000000) only [EV, EVF, XV, cond_true, cond_false, Bool.false_eq_true, Bool.true_eq_false, eq_self, normsOf, cutsOf, heapOf, quietOf, drawsOf, drawmOf, drawfOf, opnOf, coldOf, shutOf, iceOf, extOf, extOverlaps_eq, overB_eq, extCmp_eq, shpOf, Try.f6, ↓reduceIte, Nat.reduceAdd, Nat.reduceLT, Nat.reduceEqDiff, Nat.reduceLeDiff, Nat.succ_ne_zero, Nat.zero_ne_one, Nat.one_ne_zero, ne_eq, not_false_eq_true, true_and, and_true, Nat.reduceMul, Nat.reduceSub, Int.reduceToNat, Int.toNat_zero, Int.toNat_one, Nat.zero_mul, Nat.one_mul, Int.reduceLT, Int.reduceLE, Int.le_refl, Int.zero_lt_one, Int.toNat_natCast, List.take_length, Int.cast_ofNat_Int, Int.reduceAdd, Int.reduceSub, Int.reduceBEq, Int.reduceBNe, ge_iff_le, gt_iff_lt, decide_true, decide_false, Int.lt_irrefl, Nat.zero_add, Nat.add_zero, Int.lt_irrefl, q4, w5, q5, hm2, w1]
    refine ⟨by omega, (i + 1, r.key ++ [0]), ⟨by simp only; omega, by simp; omega, ?_⟩, by simp only; omega, ?_⟩
    · simp only
      rw [hnext]
      omega
    · rw [show min (5 * (i + 1)) t.length = n + ks.length by omega]
end Go.Ai

/- Where a key is; Right and Check of tables; walked. -/
import Derived.Test.YtmebpmghmghhkaaTab2
import Derived.Test.YtmebpmghmghhkaaRec3
set_option linter.unusedVariables false
set_option linter.unusedSimpArgs false
set_option maxRecDepth 100000
set_option maxHeartbeats 4000000
namespace Go.Ai
open Go.Proofs
theorem pos_eq {k : List UInt8} {t : List Rec} {i : Nat} (hi : i ≤ t.length) (h1 : ∀ r ∈ t.take i, cmpL r.key k < 0) (h2 : ∀ r ∈ t.drop i, ¬ cmpL r.key k < 0) : posT k t = i := by
  have e : t = t.take i ++ t.drop i := (List.take_append_drop i t).symm
  unfold posT
  rw [show t.takeWhile (fun r => decide (cmpL r.key k < 0)) = (t.take i ++ t.drop i).takeWhile (fun r => decide (cmpL r.key k < 0)) by rw [← e]]
  rw [List.takeWhile_append_of_pos (by
    intro r hr
    exact decide_eq_true (h1 r hr))]
  have h3 : (t.drop i).takeWhile (fun r => decide (cmpL r.key k < 0)) = [] := by
    cases hd : t.drop i with
    | nil => rfl
    | cons r l =>
      rw [List.takeWhile_cons, decide_eq_false (h2 r (by rw [hd]; simp))]
      rfl
  rw [h3, List.append_nil, List.length_take]
  omega
theorem tabGo_pw : ∀ {t : List Rec} {k : List UInt8}, tabGo k t = true → t.Pairwise (fun a b => cmpL a.key b.key < 0) ∧ (∀ r ∈ t, cmpL k r.key < 0 ∧ rightR 2 r = true)
  | [], _, _ => by simp
  | x :: t, k, h => by
    unfold tabGo at h
    simp only [Bool.and_eq_true, decide_eq_true_eq] at h
    obtain ⟨h1, h2⟩ := tabGo_pw h.2
    refine ⟨List.pairwise_cons.2 ⟨fun r hr => (h2 r hr).1, h1⟩, fun r hr => ?_⟩
    rcases List.mem_cons.1 hr with rfl | hr
    · exact ⟨h.1.2, h.1.1⟩
    · exact ⟨cmp_trans h.1.2 (h2 r hr).1, (h2 r hr).2⟩
theorem search_w (m : Nat) (hm : 5 ≤ m) (l : List Rec) (hl : l.length ≤ 1000000000) (hs : l.Pairwise (fun a b => cmpL a.key b.key < 0)) (x : List UInt8) (K : AV → Hp → Prop) (hK : posT x l ≤ l.length → ∀ H, K (.tup [.v (.int .i64 (posT x l : Int)), .v (.bool (hereT x l (posT x l)))]) H) :
    wpF C m 34 [.lst 6 (l.map rcv), .v (.string (mk x)), .fn 35 [] []] [] K := by
  have hmono : ∀ {a b : Nat} {u v : Rec}, a < b → l[a]? = some u → l[b]? = some v → cmpL u.key v.key < 0 := fun {a b u v} hab ha hb => by
    obtain ⟨h1, h2⟩ := List.getElem?_eq_some_iff.1 ha
    obtain ⟨h3, h4⟩ := List.getElem?_eq_some_iff.1 hb
    have := List.pairwise_iff_getElem.1 hs a b h1 h3 hab
    rw [h2, h4] at this
    exact this
  obtain ⟨m, rfl⟩ : ∃ j, m = j + 1 := ⟨m - 1, by omega⟩; simp only [wpF, bodyA, fn_34, C_P, ok_34, C_prim, primOf, true_and]; simp (maxSteps := 4000000) only [EV, EVF, XV, cond_true, cond_false, Bool.false_eq_true, Bool.true_eq_false, eq_self, normsOf, cutsOf, heapOf, quietOf, drawsOf, drawmOf, drawfOf, opnOf, coldOf, shutOf, iceOf, extOf, extOverlaps_eq, overB_eq, extCmp_eq, shpOf, Try.f34, ↓reduceIte, Nat.reduceAdd, Nat.reduceLT, Nat.reduceEqDiff, Nat.reduceLeDiff, Nat.succ_ne_zero, Nat.zero_ne_one, Nat.one_ne_zero, ne_eq, not_false_eq_true, true_and, and_true, Nat.reduceMul, Nat.reduceSub, Int.reduceToNat, Int.toNat_zero, Int.toNat_one, Nat.zero_mul, Nat.one_mul, Int.reduceLT, Int.reduceLE, Int.le_refl, Int.zero_lt_one, Int.toNat_natCast, List.take_length, Int.cast_ofNat_Int, Int.reduceAdd, Int.reduceSub, Int.reduceBEq, Int.reduceBNe, ge_iff_le, gt_iff_lt, decide_true, decide_false, Int.lt_irrefl, Nat.zero_add, Nat.add_zero]
  refine loop_at (fun p : Nat × Nat => ⟨[(0, .lst 6 (l.map rcv)), (1, .v (.string (mk x))), (2, .fn 35 [] []), (8, .v (.int .i64 l.length)), (9, .v (.int .i64 p.1)), (10, .v (.int .i64 p.2))], []⟩) (fun p => p.1 ≤ p.2 ∧ p.2 ≤ l.length ∧ (∀ k n, k < p.1 → l[k]? = some n → cmpL n.key x < 0) ∧ (∀ k n, p.2 ≤ k → l[k]? = some n → ¬ cmpL n.key x < 0)) (fun p => p.2 - p.1) (0, l.length) ⟨by simp, by simp, by simp, fun k n h1 h2 => by
    rw [List.getElem?_eq_none h1] at h2
    simp at h2⟩ rfl ?_
  rintro ⟨i, j⟩ ⟨hij, hjl, hlo, hhi⟩
  simp only at hij hjl hlo hhi
  by_cases hlt : i < j
  · have q1 : ((i : Int) < (j : Int)) = True := by simp; omega
    have w1 : IntKind.i64.wrap ((i : Int) + j) = ((i + j : Nat) : Int) := by rw [wrap64 (by omega) (by omega)]; omega
    simp (maxSteps := 4000000) only [EV, EVF, XV, cond_true, cond_false, Bool.false_eq_true, Bool.true_eq_false, eq_self, normsOf, cutsOf, heapOf, quietOf, drawsOf, drawmOf, drawfOf, opnOf, coldOf, shutOf, iceOf, extOf, extOverlaps_eq, overB_eq, extCmp_eq, shpOf, Try.f34, ↓reduceIte, Nat.reduceAdd, Nat.reduceLT, Nat.reduceEqDiff, Nat.reduceLeDiff, Nat.succ_ne_zero, Nat.zero_ne_one, Nat.one_ne_zero, ne_eq, not_false_eq_true, true_and, and_true, Nat.reduceMul, Nat.reduceSub, Int.reduceToNat, Int.toNat_zero, Int.toNat_one, Nat.zero_mul, Nat.one_mul, Int.reduceLT, Int.reduceLE, Int.le_refl, Int.zero_lt_one, Int.toNat_natCast, List.take_length, Int.cast_ofNat_Int, Int.reduceAdd, Int.reduceSub, Int.reduceBEq, Int.reduceBNe, ge_iff_le, gt_iff_lt, decide_true, decide_false, Int.lt_irrefl, Nat.zero_add, Nat.add_zero, q1, w1]
    have hw : IntKind.i64.wrap ((IntKind.u64.wrap ((i + j : Nat) : Int)).fdiv (2 ^ min 1 IntKind.u64.bits)) = (((i + j) / 2 : Nat) : Int) := by
      have h1 : IntKind.u64.wrap ((i + j : Nat) : Int) = ((i + j : Nat) : Int) := IntWalk.u64_in _ ⟨by omega, by omega⟩
      have h2 : min 1 IntKind.u64.bits = 1 := rfl
      rw [h1, h2, Int.pow_one, Int.fdiv_eq_ediv_of_nonneg _ (by omega), wrap64 (by omega) (by omega)]
      omega
    rw [hw]
    obtain ⟨h, hh⟩ : ∃ h, (i + j) / 2 = h := ⟨_, rfl⟩
    rw [hh]
    have hhl : h < l.length := by omega
    have hlh : l[h]? = some l[h] := List.getElem?_eq_getElem hhl
    generalize l[h] = y at hlh
    have hm' := map_at (f := rcv) hlh
    have hp := fun (m : Nat) (hm : 4 ≤ m) K => order_w m hm y x K
    unfold rcv at hp
    simp only [rcv] at hm'
    have w2 : IntKind.i64.wrap ((h : Int) + 1) = ((h + 1 : Nat) : Int) := by rw [wrap64 (by omega) (by omega)]; omega
    refine ⟨by omega, ?_⟩
    simp (maxSteps := 4000000) only [EV, EVF, XV, cond_true, cond_false, Bool.false_eq_true, Bool.true_eq_false, eq_self, normsOf, cutsOf, heapOf, quietOf, drawsOf, drawmOf, drawfOf, opnOf, coldOf, shutOf, iceOf, extOf, extOverlaps_eq, overB_eq, extCmp_eq, shpOf, Try.f34, ↓reduceIte, Nat.reduceAdd, Nat.reduceLT, Nat.reduceEqDiff, Nat.reduceLeDiff, Nat.succ_ne_zero, Nat.zero_ne_one, Nat.one_ne_zero, ne_eq, not_false_eq_true, true_and, and_true, Nat.reduceMul, Nat.reduceSub, Int.reduceToNat, Int.toNat_zero, Int.toNat_one, Nat.zero_mul, Nat.one_mul, Int.reduceLT, Int.reduceLE, Int.le_refl, Int.zero_lt_one, Int.toNat_natCast, List.take_length, Int.cast_ofNat_Int, Int.reduceAdd, Int.reduceSub, Int.reduceBEq, Int.reduceBNe, ge_iff_le, gt_iff_lt, decide_true, decide_false, Int.lt_irrefl, Nat.zero_add, Nat.add_zero, hm', w2, rcv]
    refine hp m (by omega) _ fun H => ?_
    simp (maxSteps := 4000000) only [EV, EVF, XV, cond_true, cond_false, Bool.false_eq_true, Bool.true_eq_false, eq_self, normsOf, cutsOf, heapOf, quietOf, drawsOf, drawmOf, drawfOf, opnOf, coldOf, shutOf, iceOf, extOf, extOverlaps_eq, overB_eq, extCmp_eq, shpOf, Try.f34, ↓reduceIte, Nat.reduceAdd, Nat.reduceLT, Nat.reduceEqDiff, Nat.reduceLeDiff, Nat.succ_ne_zero, Nat.zero_ne_one, Nat.one_ne_zero, ne_eq, not_false_eq_true, true_and, and_true, Nat.reduceMul, Nat.reduceSub, Int.reduceToNat, Int.toNat_zero, Int.toNat_one, Nat.zero_mul, Nat.one_mul, Int.reduceLT, Int.reduceLE, Int.le_refl, Int.zero_lt_one, Int.toNat_natCast, List.take_length, Int.cast_ofNat_Int, Int.reduceAdd, Int.reduceSub, Int.reduceBEq, Int.reduceBNe, ge_iff_le, gt_iff_lt, decide_true, decide_false, Int.lt_irrefl, Nat.zero_add, Nat.add_zero, hm', w2]
    refine IF_dec (fun hy => ?_) (fun hy => ?_)
    · simp (maxSteps := 4000000) only [EV, EVF, XV, cond_true, cond_false, Bool.false_eq_true, Bool.true_eq_false, eq_self, normsOf, cutsOf, heapOf, quietOf, drawsOf, drawmOf, drawfOf, opnOf, coldOf, shutOf, iceOf, extOf, extOverlaps_eq, overB_eq, extCmp_eq, shpOf, Try.f34, ↓reduceIte, Nat.reduceAdd, Nat.reduceLT, Nat.reduceEqDiff, Nat.reduceLeDiff, Nat.succ_ne_zero, Nat.zero_ne_one, Nat.one_ne_zero, ne_eq, not_false_eq_true, true_and, and_true, Nat.reduceMul, Nat.reduceSub, Int.reduceToNat, Int.toNat_zero, Int.toNat_one, Nat.zero_mul, Nat.one_mul, Int.reduceLT, Int.reduceLE, Int.le_refl, Int.zero_lt_one, Int.toNat_natCast, List.take_length, Int.cast_ofNat_Int, Int.reduceAdd, Int.reduceSub, Int.reduceBEq, Int.reduceBNe, ge_iff_le, gt_iff_lt, decide_true, decide_false, Int.lt_irrefl, Nat.zero_add, Nat.add_zero, hm', w2]
      refine ⟨(h + 1, j), ⟨by simp; omega, hjl, fun k n hk hn => ?_, hhi⟩, by simp; omega, rfl⟩
      rcases Nat.lt_or_ge k h with h1 | h1
      · exact cmp_trans (hmono h1 hn hlh) hy
      · have hkh : k = h := by simp at hk; omega
        rw [hkh, hlh] at hn
        simp only [Option.some.injEq] at hn
        rw [← hn]
        exact hy
    · simp (maxSteps := 4000000) only [EV, EVF, XV, cond_true, cond_false, Bool.false_eq_true, Bool.true_eq_false, eq_self, normsOf, cutsOf, heapOf, quietOf, drawsOf, drawmOf, drawfOf, opnOf, coldOf, shutOf, iceOf, extOf, extOverlaps_eq, overB_eq, extCmp_eq, shpOf, Try.f34, ↓reduceIte, Nat.reduceAdd, Nat.reduceLT, Nat.reduceEqDiff, Nat.reduceLeDiff, Nat.succ_ne_zero, Nat.zero_ne_one, Nat.one_ne_zero, ne_eq, not_false_eq_true, true_and, and_true, Nat.reduceMul, Nat.reduceSub, Int.reduceToNat, Int.toNat_zero, Int.toNat_one, Nat.zero_mul, Nat.one_mul, Int.reduceLT, Int.reduceLE, Int.le_refl, Int.zero_lt_one, Int.toNat_natCast, List.take_length, Int.cast_ofNat_Int, Int.reduceAdd, Int.reduceSub, Int.reduceBEq, Int.reduceBNe, ge_iff_le, gt_iff_lt, decide_true, decide_false, Int.lt_irrefl, Nat.zero_add, Nat.add_zero, hm', w2]
      refine ⟨(i, h), ⟨by simp; omega, by simp; omega, hlo, fun k n hk hn => ?_⟩, by simp; omega, rfl⟩
      rcases Nat.lt_or_ge h k with h1 | h1
      · exact fun hc => hy (cmp_trans (hmono h1 hlh hn) hc)
      · have hkh : k = h := by simp at hk; omega
        rw [hkh, hlh] at hn
        simp only [Option.some.injEq] at hn
        rw [← hn]
        exact hy
  · have hie : i = j := by omega
    subst hie
    have q1 : ((i : Int) < (i : Int)) = False := by simp
    have h1 : ∀ n ∈ l.take i, cmpL n.key x < 0 := fun n hn => by
      obtain ⟨k, hk⟩ := List.mem_iff_getElem?.1 hn
      have hki : k < i := by
        have := (List.getElem?_eq_some_iff.1 hk).1
        simp at this
        omega
      rw [List.getElem?_take_of_lt hki] at hk
      exact hlo k n hki hk
    have h2 : ∀ n ∈ l.drop i, ¬ cmpL n.key x < 0 := fun n hn => by
      obtain ⟨k, hk⟩ := List.mem_iff_getElem?.1 hn
      rw [List.getElem?_drop] at hk
      exact hhi (i + k) n (by omega) hk
    have hpe := pos_eq hjl h1 h2
    rw [hpe] at hK
    have hK' := hK hjl
    unfold hereT at hK'
    simp (maxSteps := 4000000) only [EV, EVF, XV, cond_true, cond_false, Bool.false_eq_true, Bool.true_eq_false, eq_self, normsOf, cutsOf, heapOf, quietOf, drawsOf, drawmOf, drawfOf, opnOf, coldOf, shutOf, iceOf, extOf, extOverlaps_eq, overB_eq, extCmp_eq, shpOf, Try.f34, ↓reduceIte, Nat.reduceAdd, Nat.reduceLT, Nat.reduceEqDiff, Nat.reduceLeDiff, Nat.succ_ne_zero, Nat.zero_ne_one, Nat.one_ne_zero, ne_eq, not_false_eq_true, true_and, and_true, Nat.reduceMul, Nat.reduceSub, Int.reduceToNat, Int.toNat_zero, Int.toNat_one, Nat.zero_mul, Nat.one_mul, Int.reduceLT, Int.reduceLE, Int.le_refl, Int.zero_lt_one, Int.toNat_natCast, List.take_length, Int.cast_ofNat_Int, Int.reduceAdd, Int.reduceSub, Int.reduceBEq, Int.reduceBNe, ge_iff_le, gt_iff_lt, decide_true, decide_false, Int.lt_irrefl, Nat.zero_add, Nat.add_zero, q1]
    refine IF_dec (fun h3 => ?_) (fun h3 => ?_)
    · have hil : i < l.length := by omega
      have hlh : l[i]? = some l[i] := List.getElem?_eq_getElem hil
      generalize l[i] = y at hlh
      have hm' := map_at (f := rcv) hlh
      have hp := fun (m : Nat) (hm : 4 ≤ m) K => order_w m hm y x K
      unfold rcv at hp
      simp only [rcv] at hm'
      simp (maxSteps := 4000000) only [EV, EVF, XV, cond_true, cond_false, Bool.false_eq_true, Bool.true_eq_false, eq_self, normsOf, cutsOf, heapOf, quietOf, drawsOf, drawmOf, drawfOf, opnOf, coldOf, shutOf, iceOf, extOf, extOverlaps_eq, overB_eq, extCmp_eq, shpOf, Try.f34, ↓reduceIte, Nat.reduceAdd, Nat.reduceLT, Nat.reduceEqDiff, Nat.reduceLeDiff, Nat.succ_ne_zero, Nat.zero_ne_one, Nat.one_ne_zero, ne_eq, not_false_eq_true, true_and, and_true, Nat.reduceMul, Nat.reduceSub, Int.reduceToNat, Int.toNat_zero, Int.toNat_one, Nat.zero_mul, Nat.one_mul, Int.reduceLT, Int.reduceLE, Int.le_refl, Int.zero_lt_one, Int.toNat_natCast, List.take_length, Int.cast_ofNat_Int, Int.reduceAdd, Int.reduceSub, Int.reduceBEq, Int.reduceBNe, ge_iff_le, gt_iff_lt, decide_true, decide_false, Int.lt_irrefl, Nat.zero_add, Nat.add_zero, hm', rcv]
      refine hp m (by omega) _ fun H => ?_
      have e0 : (cmpL y.key x == 0) = decide (y.key = x) := by
        rw [Bool.eq_iff_iff, beq_iff_eq, decide_eq_true_eq]
        exact ⟨cmp_zero, fun h => by rw [h]; exact cmp_self x⟩
      simp (maxSteps := 4000000) only [EV, EVF, XV, cond_true, cond_false, Bool.false_eq_true, Bool.true_eq_false, eq_self, normsOf, cutsOf, heapOf, quietOf, drawsOf, drawmOf, drawfOf, opnOf, coldOf, shutOf, iceOf, extOf, extOverlaps_eq, overB_eq, extCmp_eq, shpOf, Try.f34, ↓reduceIte, Nat.reduceAdd, Nat.reduceLT, Nat.reduceEqDiff, Nat.reduceLeDiff, Nat.succ_ne_zero, Nat.zero_ne_one, Nat.one_ne_zero, ne_eq, not_false_eq_true, true_and, and_true, Nat.reduceMul, Nat.reduceSub, Int.reduceToNat, Int.toNat_zero, Int.toNat_one, Nat.zero_mul, Nat.one_mul, Int.reduceLT, Int.reduceLE, Int.le_refl, Int.zero_lt_one, Int.toNat_natCast, List.take_length, Int.cast_ofNat_Int, Int.reduceAdd, Int.reduceSub, Int.reduceBEq, Int.reduceBNe, ge_iff_le, gt_iff_lt, decide_true, decide_false, Int.lt_irrefl, Nat.zero_add, Nat.add_zero, hm', e0]
      rw [hlh] at hK'
      simp only [Option.map_some, Option.some.injEq] at hK'
      exact hK' _
    · simp (maxSteps := 4000000) only [EV, EVF, XV, cond_true, cond_false, Bool.false_eq_true, Bool.true_eq_false, eq_self, normsOf, cutsOf, heapOf, quietOf, drawsOf, drawmOf, drawfOf, opnOf, coldOf, shutOf, iceOf, extOf, extOverlaps_eq, overB_eq, extCmp_eq, shpOf, Try.f34, ↓reduceIte, Nat.reduceAdd, Nat.reduceLT, Nat.reduceEqDiff, Nat.reduceLeDiff, Nat.succ_ne_zero, Nat.zero_ne_one, Nat.one_ne_zero, ne_eq, not_false_eq_true, true_and, and_true, Nat.reduceMul, Nat.reduceSub, Int.reduceToNat, Int.toNat_zero, Int.toNat_one, Nat.zero_mul, Nat.one_mul, Int.reduceLT, Int.reduceLE, Int.le_refl, Int.zero_lt_one, Int.toNat_natCast, List.take_length, Int.cast_ofNat_Int, Int.reduceAdd, Int.reduceSub, Int.reduceBEq, Int.reduceBNe, ge_iff_le, gt_iff_lt, decide_true, decide_false, Int.lt_irrefl, Nat.zero_add, Nat.add_zero]
      rw [List.getElem?_eq_none (by omega)] at hK'
      exact hK' _
/-- Rows that fit into memory. -/
def okT (t : List Rec) : Prop := t.length ≤ 1599289640400 ∧ ∀ r ∈ t, r.extra.length * 24 ≤ 140737488351232
theorem rightt_w (m : Nat) (hm : 5 ≤ m) (t : List Rec) (ht : okT t) (K : AV → Hp → Prop) (hK : ∀ H, K (.v (.bool (tabR t))) H) : wpF C m 20 [.lst 6 (t.map rcv)] [] K := by
  have hl1 := ht.1
  unfold tabR at hK
  have no : tabGo [] t = false → ∀ H, K (.v (.bool false)) H := fun h H => by
    have := hK H
    rwa [h, Bool.false_and] at this
  obtain ⟨m, rfl⟩ : ∃ j, m = j + 1 := ⟨m - 1, by omega⟩; simp only [wpF, bodyA, fn_20, C_P, ok_20, C_prim, primOf, true_and]; simp (maxSteps := 4000000) only [EV, EVF, XV, cond_true, cond_false, Bool.false_eq_true, Bool.true_eq_false, eq_self, normsOf, cutsOf, heapOf, quietOf, drawsOf, drawmOf, drawfOf, opnOf, coldOf, shutOf, iceOf, extOf, extOverlaps_eq, overB_eq, extCmp_eq, shpOf, Try.f20, ↓reduceIte, Nat.reduceAdd, Nat.reduceLT, Nat.reduceEqDiff, Nat.reduceLeDiff, Nat.succ_ne_zero, Nat.zero_ne_one, Nat.one_ne_zero, ne_eq, not_false_eq_true, true_and, and_true, Nat.reduceMul, Nat.reduceSub, Int.reduceToNat, Int.toNat_zero, Int.toNat_one, Nat.zero_mul, Nat.one_mul, Int.reduceLT, Int.reduceLE, Int.le_refl, Int.zero_lt_one, Int.toNat_natCast, List.take_length, Int.cast_ofNat_Int, Int.reduceAdd, Int.reduceSub, Int.reduceBEq, Int.reduceBNe, ge_iff_le, gt_iff_lt, decide_true, decide_false, Int.lt_irrefl, Nat.zero_add, Nat.add_zero]
  refine loop_at (fun p : Nat × List UInt8 => ⟨[(0, .lst 6 (t.map rcv)), (3, .v (.string (mk p.2))), (6, .lst 6 (t.map rcv)), (7, .v (.int .i64 t.length)), (8, .v (.int .i64 p.1))], []⟩) (fun p => p.1 ≤ t.length ∧ tabGo [] t = tabGo p.2 (t.drop p.1)) (fun p => t.length - p.1) (0, []) ⟨by simp, by simp⟩ rfl ?_
  rintro ⟨k, last⟩ ⟨h1, h2⟩
  simp only at h1 h2
  by_cases hk : k < t.length
  · obtain ⟨d, hf, hd⟩ := drop_at hk
    have hf' := map_at (f := rcv) hf
    have hk' : ((k : Int) < t.length) = True := eq_true (by omega)
    have w1 : IntKind.i64.wrap ((k : Int) + 1) = ((k + 1 : Nat) : Int) := by rw [wrap64 (by omega) (by omega)]; rfl
    have hr := fun (m : Nat) (hm : 4 ≤ m) K => rightr_w m hm 2 d (ht.2 d (List.mem_of_getElem? hf)) K
    unfold rcv at hr
    rw [hd] at h2
    have h3 : tabGo [] t = (rightR 2 d && decide (cmpL last d.key < 0) && tabGo d.key (t.drop (k + 1))) := h2
    simp (maxSteps := 4000000) only [EV, EVF, XV, cond_true, cond_false, Bool.false_eq_true, Bool.true_eq_false, eq_self, normsOf, cutsOf, heapOf, quietOf, drawsOf, drawmOf, drawfOf, opnOf, coldOf, shutOf, iceOf, extOf, extOverlaps_eq, overB_eq, extCmp_eq, shpOf, Try.f20, ↓reduceIte, Nat.reduceAdd, Nat.reduceLT, Nat.reduceEqDiff, Nat.reduceLeDiff, Nat.succ_ne_zero, Nat.zero_ne_one, Nat.one_ne_zero, ne_eq, not_false_eq_true, true_and, and_true, Nat.reduceMul, Nat.reduceSub, Int.reduceToNat, Int.toNat_zero, Int.toNat_one, Nat.zero_mul, Nat.one_mul, Int.reduceLT, Int.reduceLE, Int.le_refl, Int.zero_lt_one, Int.toNat_natCast, List.take_length, Int.cast_ofNat_Int, Int.reduceAdd, Int.reduceSub, Int.reduceBEq, Int.reduceBNe, ge_iff_le, gt_iff_lt, decide_true, decide_false, Int.lt_irrefl, Nat.zero_add, Nat.add_zero, hk', hf', rcv, w1]
    refine hr m (by omega) _ fun H => ?_
    cases hy : rightR 2 d
    · simp (maxSteps := 4000000) only [EV, EVF, XV, cond_true, cond_false, Bool.false_eq_true, Bool.true_eq_false, eq_self, normsOf, cutsOf, heapOf, quietOf, drawsOf, drawmOf, drawfOf, opnOf, coldOf, shutOf, iceOf, extOf, extOverlaps_eq, overB_eq, extCmp_eq, shpOf, Try.f20, ↓reduceIte, Nat.reduceAdd, Nat.reduceLT, Nat.reduceEqDiff, Nat.reduceLeDiff, Nat.succ_ne_zero, Nat.zero_ne_one, Nat.one_ne_zero, ne_eq, not_false_eq_true, true_and, and_true, Nat.reduceMul, Nat.reduceSub, Int.reduceToNat, Int.toNat_zero, Int.toNat_one, Nat.zero_mul, Nat.one_mul, Int.reduceLT, Int.reduceLE, Int.le_refl, Int.zero_lt_one, Int.toNat_natCast, List.take_length, Int.cast_ofNat_Int, Int.reduceAdd, Int.reduceSub, Int.reduceBEq, Int.reduceBNe, ge_iff_le, gt_iff_lt, decide_true, decide_false, Int.lt_irrefl, Nat.zero_add, Nat.add_zero, Bool.not_false]
      exact no (by rw [h3, hy]; rfl) _
    simp (maxSteps := 4000000) only [EV, EVF, XV, cond_true, cond_false, Bool.false_eq_true, Bool.true_eq_false, eq_self, normsOf, cutsOf, heapOf, quietOf, drawsOf, drawmOf, drawfOf, opnOf, coldOf, shutOf, iceOf, extOf, extOverlaps_eq, overB_eq, extCmp_eq, shpOf, Try.f20, ↓reduceIte, Nat.reduceAdd, Nat.reduceLT, Nat.reduceEqDiff, Nat.reduceLeDiff, Nat.succ_ne_zero, Nat.zero_ne_one, Nat.one_ne_zero, ne_eq, not_false_eq_true, true_and, and_true, Nat.reduceMul, Nat.reduceSub, Int.reduceToNat, Int.toNat_zero, Int.toNat_one, Nat.zero_mul, Nat.one_mul, Int.reduceLT, Int.reduceLE, Int.le_refl, Int.zero_lt_one, Int.toNat_natCast, List.take_length, Int.cast_ofNat_Int, Int.reduceAdd, Int.reduceSub, Int.reduceBEq, Int.reduceBNe, ge_iff_le, gt_iff_lt, decide_true, decide_false, Int.lt_irrefl, Nat.zero_add, Nat.add_zero, Bool.not_true, less_cmp]
    have e1 : (decide (cmpL d.key last < 0) || decide (d.key = last)) = !decide (cmpL last d.key < 0) := by
      have hsw := cmp_swap last d.key
      rcases cmp_bd last d.key with h | h | h
      · have : ¬ d.key = last := fun hc => by rw [hc, cmp_self] at h; omega
        simp [this, hsw, h]
      · have := cmp_zero h
        simp [this, cmp_self]
      · simp [hsw, h]
    rw [e1]
    cases hlt : decide (cmpL last d.key < 0)
    · simp (maxSteps := 4000000) only [EV, EVF, XV, cond_true, cond_false, Bool.false_eq_true, Bool.true_eq_false, eq_self, normsOf, cutsOf, heapOf, quietOf, drawsOf, drawmOf, drawfOf, opnOf, coldOf, shutOf, iceOf, extOf, extOverlaps_eq, overB_eq, extCmp_eq, shpOf, Try.f20, ↓reduceIte, Nat.reduceAdd, Nat.reduceLT, Nat.reduceEqDiff, Nat.reduceLeDiff, Nat.succ_ne_zero, Nat.zero_ne_one, Nat.one_ne_zero, ne_eq, not_false_eq_true, true_and, and_true, Nat.reduceMul, Nat.reduceSub, Int.reduceToNat, Int.toNat_zero, Int.toNat_one, Nat.zero_mul, Nat.one_mul, Int.reduceLT, Int.reduceLE, Int.le_refl, Int.zero_lt_one, Int.toNat_natCast, List.take_length, Int.cast_ofNat_Int, Int.reduceAdd, Int.reduceSub, Int.reduceBEq, Int.reduceBNe, ge_iff_le, gt_iff_lt, decide_true, decide_false, Int.lt_irrefl, Nat.zero_add, Nat.add_zero, Bool.not_false]
      exact no (by rw [h3, hy, hlt]; rfl) _
    simp (maxSteps := 4000000) only [EV, EVF, XV, cond_true, cond_false, Bool.false_eq_true, Bool.true_eq_false, eq_self, normsOf, cutsOf, heapOf, quietOf, drawsOf, drawmOf, drawfOf, opnOf, coldOf, shutOf, iceOf, extOf, extOverlaps_eq, overB_eq, extCmp_eq, shpOf, Try.f20, ↓reduceIte, Nat.reduceAdd, Nat.reduceLT, Nat.reduceEqDiff, Nat.reduceLeDiff, Nat.succ_ne_zero, Nat.zero_ne_one, Nat.one_ne_zero, ne_eq, not_false_eq_true, true_and, and_true, Nat.reduceMul, Nat.reduceSub, Int.reduceToNat, Int.toNat_zero, Int.toNat_one, Nat.zero_mul, Nat.one_mul, Int.reduceLT, Int.reduceLE, Int.le_refl, Int.zero_lt_one, Int.toNat_natCast, List.take_length, Int.cast_ofNat_Int, Int.reduceAdd, Int.reduceSub, Int.reduceBEq, Int.reduceBNe, ge_iff_le, gt_iff_lt, decide_true, decide_false, Int.lt_irrefl, Nat.zero_add, Nat.add_zero, Bool.not_true, w1]
    rw [hy, hlt, Bool.true_and, Bool.true_and] at h3
    exact ⟨(k + 1, d.key), ⟨by simp only; omega, h3⟩, by simp only; omega, rfl⟩
  · have hk2 : k = t.length := by omega
    subst hk2
    rw [List.drop_length] at h2
    simp (maxSteps := 4000000) only [EV, EVF, XV, cond_true, cond_false, Bool.false_eq_true, Bool.true_eq_false, eq_self, normsOf, cutsOf, heapOf, quietOf, drawsOf, drawmOf, drawfOf, opnOf, coldOf, shutOf, iceOf, extOf, extOverlaps_eq, overB_eq, extCmp_eq, shpOf, Try.f20, ↓reduceIte, Nat.reduceAdd, Nat.reduceLT, Nat.reduceEqDiff, Nat.reduceLeDiff, Nat.succ_ne_zero, Nat.zero_ne_one, Nat.one_ne_zero, ne_eq, not_false_eq_true, true_and, and_true, Nat.reduceMul, Nat.reduceSub, Int.reduceToNat, Int.toNat_zero, Int.toNat_one, Nat.zero_mul, Nat.one_mul, Int.reduceLT, Int.reduceLE, Int.le_refl, Int.zero_lt_one, Int.toNat_natCast, List.take_length, Int.cast_ofNat_Int, Int.reduceAdd, Int.reduceSub, Int.reduceBEq, Int.reduceBNe, ge_iff_le, gt_iff_lt, decide_true, decide_false, Int.lt_irrefl, Nat.zero_add, Nat.add_zero, Int.lt_irrefl, decide_false]
    rw [h2] at hK
    unfold tabGo at hK
    rw [Bool.true_and] at hK
    rw [show decide ((t.length : Int) ≤ 20) = decide (t.length ≤ 20) by rw [decide_eq_decide]; omega]
    exact hK _
end Go.Ai

/- ConvertKeeps: the machine's word. -/
import Derived.Test.YtlpjaehliaeifaaConv3
import Derived.Test.YtlpjaehliaeifaaConvP
import Derived.Test.YtlpjaehliaeifaaConvFit
set_option linter.unusedVariables false
set_option linter.unusedSimpArgs false
set_option maxRecDepth 100000
set_option maxHeartbeats 4000000
namespace Go.Ai
open Go.Proofs
theorem upN_none {r : Rec} (h : ∀ f ∈ r.extra, 5 < f.1) : upN r = 0 := by
  unfold upN
  cases hx : r.extra with
  | nil => rfl
  | cons f l =>
    have := h f (by rw [hx]; exact List.mem_cons_self)
    rw [List.takeWhile_cons, decide_eq_false (by omega)]
    rfl
theorem takeWhile_all {p : Fld → Bool} : ∀ (a b : List Fld), (∀ f ∈ a, p f = true) → (∀ f ∈ b, p f = false) → (a ++ b).takeWhile p = a
  | [], [], _, _ => rfl
  | [], g :: b, _, h => by rw [List.nil_append, List.takeWhile_cons, h g List.mem_cons_self]; rfl
  | f :: a, b, h1, h2 => by
    rw [List.cons_append, List.takeWhile_cons, h1 f List.mem_cons_self, if_pos rfl, takeWhile_all a b (fun g hg => h1 g (List.mem_cons_of_mem _ hg)) h2]
theorem upN_down {r : Rec} (h : RightP 2 r) : upN r = 0 ∧ upN (downR r) = (ownF r).length := by
  obtain ⟨e1, e2, e3, e4⟩ := extra_tags h
  have e4' : ∀ f ∈ r.extra, 5 < f.1 := e4
  refine ⟨upN_none e4', ?_⟩
  unfold upN
  show ((ownF r ++ r.extra).takeWhile fun f => decide (f.1 ≤ 5)).length = _
  rw [takeWhile_all _ _ (fun f hf => decide_eq_true ((own_right h).2.1 f hf).2) (fun f hf => decide_eq_false (by have := e4' f hf; omega))]
theorem keeps {v : Int} {r : Rec} (hr : RightP v r) : toS v v r = ⟨r, 0⟩ ∧ ((v = 1 ∧ toS v (3 - v) r = ⟨rec0, 21⟩) ∨ ∃ x, toS v (3 - v) r = ⟨x, 0⟩ ∧ x.key = r.key ∧ x.value = r.value ∧ x.rev = r.rev ∧ x.extra.length ≤ 64 ∧ r.extra.length ≤ 64 ∧ x.extra.drop (upN x) = r.extra.drop (upN r)) := by
  have hv := hr.1
  have hR : rightR v r = true := decide_eq_true hr
  have hl := (right_bd (extra_tags hr).2.1).1
  refine ⟨?_, ?_⟩
  · unfold toS
    rw [if_pos ⟨hR, by rcases hv with rfl | rfl <;> decide⟩, if_neg (by omega), if_neg (by omega)]
  rcases hv with rfl | rfl
  · rw [show toS 1 (3 - 1) r = upS r by unfold toS; rw [if_pos ⟨hR, by decide⟩, if_pos (by decide)]]
    rcases up_cases r with ⟨h1, _⟩ | ⟨_, hc⟩ | ⟨_, u, hc⟩
    · rw [h1] at hR
      simp at hR
    · exact .inl ⟨rfl, hc⟩
    · obtain ⟨h2, hb⟩ := up_back hr hc
      refine .inr ⟨u, hc, ?_⟩
      have hul := (right_bd (extra_tags h2).2.1).1
      obtain ⟨n1, n2⟩ := upN_down h2
      rw [n1, ← hb, n2]
      refine ⟨rfl, rfl, rfl, hul, by rw [hb]; exact hl, ?_⟩
      simp [downR]
  · rw [show toS 2 (3 - 2) r = downS r by unfold toS; rw [if_pos ⟨hR, by decide⟩, if_neg (by decide), if_pos (by decide)]]
    obtain ⟨n1, n2⟩ := upN_down hr
    refine .inr ⟨downR r, by unfold downS; rw [if_pos hR], ?_⟩
    rw [n1, n2]
    refine ⟨rfl, rfl, rfl, (right_bd (extra_tags (down_right hr)).2.1).1, hl, ?_⟩
    simp [downR]
def keepH (x : R5) (a b : Rec) : Hp := [some (.var 25 (r5w x)), some (.var 24 (rcv a)), some (.var 24 (rcv b))]
def keepT (raw : List (Int × Int)) (ts : List (List UInt8)) (v : Int) : List (Nat × AV) := [(1, .lst 2 (raw.map rv)), (2, .lst 1 (ts.map tv)), (3, .ptr 0 0), (7, .v (.bool true)), (8, .v (.int .i64 v)), (9, .ptr 1 0), (10, .ptr 2 0)]
theorem keep_at {l : List Fld} {N k : Nat} (hN : N = (l.takeWhile fun f => decide (f.1 ≤ 5)).length) (h2 : N = k + ((l.drop k).takeWhile fun f => decide (f.1 ≤ 5)).length) (h1 : k ≤ l.length) :
    (∃ f : Fld, k < l.length ∧ (l.map fv)[k]? = some (fv f) ∧ (f.1 ≤ 5) = True ∧ N = (k + 1) + ((l.drop (k + 1)).takeWhile fun f => decide (f.1 ≤ 5)).length) ∨ (k = l.length ∧ N = k) ∨ (∃ f : Fld, k < l.length ∧ (l.map fv)[k]? = some (fv f) ∧ (f.1 ≤ 5) = False ∧ N = k) := by
  by_cases hk : k < l.length
  · obtain ⟨f, hf, hd⟩ := drop_at hk
    have hf' := map_at (f := fv) hf
    rw [hd, List.takeWhile_cons] at h2
    by_cases h : f.1 ≤ 5
    · rw [decide_eq_true h] at h2
      exact .inl ⟨f, hk, hf', eq_true h, by simp at h2 ⊢; omega⟩
    · rw [decide_eq_false h] at h2
      exact .inr (.inr ⟨f, hk, hf', eq_false h, by simpa using h2⟩)
  · have : k = l.length := by omega
    subst this
    rw [List.drop_length] at h2
    exact .inr (.inl ⟨rfl, by simpa using h2⟩)
theorem ckeeps_law (m : Nat) (hm : 12 ≤ m) (x : R5) (hx : r5k x) (raw : List (Int × Int)) (hrl : raw.length ≤ 140737488351232) (hr : ∀ p ∈ raw, i64ok p.1 ∧ i64ok p.2) (ts : List (List UInt8)) (htl : ts.length ≤ 140737488351232) (ht : ∀ t ∈ ts, t.length ≤ 140737488351232) : wpF C m 4 [.agg (r5w x), .lst 2 (raw.map rv), .lst 1 (ts.map tv)] [] fun r _ => r = .v (.bool true) := by
  obtain ⟨x0, x1, x2, x3, x4⟩ := hx
  have hright := fun (v : Int) (hv : v = 1 ∨ v = 2) => record_right ts (a1 := x.b) hv x0 x2 x3 x4 (fun p hp => (hr p hp).1)
  have hrec := fun (m : Nat) (hm : 3 ≤ m) (v : Int) (hv : v = 1 ∨ v = 2) K => rec_w m hm v x.a x.b x.c x.d x.e raw ts x0 x1 x2 x3 x4 hr (by omega) hv K
  unfold rcv at hrec
  unfold r5w
  obtain ⟨m, rfl⟩ : ∃ j, m = j + 1 := ⟨m - 1, by omega⟩; simp only [wpF, bodyA, fn_4, C_P, ok_4, C_prim, primOf, true_and]; simp (maxSteps := 4000000) only [EV, EVF, XV, cond_true, cond_false, Bool.false_eq_true, Bool.true_eq_false, eq_self, normsOf, cutsOf, heapOf, quietOf, drawsOf, drawmOf, opnOf, coldOf, shutOf, iceOf, extOf, extOverlaps_eq, overB_eq, extCmp_eq, shpOf, Try.f4, ↓reduceIte, Nat.reduceAdd, Nat.reduceLT, Nat.reduceEqDiff, Nat.reduceLeDiff, Nat.succ_ne_zero, Nat.zero_ne_one, Nat.one_ne_zero, ne_eq, not_false_eq_true, true_and, and_true, Nat.reduceMul, Nat.reduceSub, Int.reduceToNat, Int.toNat_zero, Int.toNat_one, Nat.zero_mul, Nat.one_mul, Int.reduceLT, Int.reduceLE, Int.le_refl, Int.zero_lt_one, Int.toNat_natCast, List.take_length, Int.cast_ofNat_Int, Int.reduceAdd, Int.reduceSub, Int.reduceBEq, Int.reduceBNe, ge_iff_le, gt_iff_lt, decide_true, decide_false, Int.lt_irrefl, Nat.zero_add, Nat.add_zero]
  refine awake4_w m (by omega) _ fun H => ?_
  simp (maxSteps := 4000000) only [EV, EVF, XV, cond_true, cond_false, Bool.false_eq_true, Bool.true_eq_false, eq_self, normsOf, cutsOf, heapOf, quietOf, drawsOf, drawmOf, opnOf, coldOf, shutOf, iceOf, extOf, extOverlaps_eq, overB_eq, extCmp_eq, shpOf, Try.f4, ↓reduceIte, Nat.reduceAdd, Nat.reduceLT, Nat.reduceEqDiff, Nat.reduceLeDiff, Nat.succ_ne_zero, Nat.zero_ne_one, Nat.one_ne_zero, ne_eq, not_false_eq_true, true_and, and_true, Nat.reduceMul, Nat.reduceSub, Int.reduceToNat, Int.toNat_zero, Int.toNat_one, Nat.zero_mul, Nat.one_mul, Int.reduceLT, Int.reduceLE, Int.le_refl, Int.zero_lt_one, Int.toNat_natCast, List.take_length, Int.cast_ofNat_Int, Int.reduceAdd, Int.reduceSub, Int.reduceBEq, Int.reduceBNe, ge_iff_le, gt_iff_lt, decide_true, decide_false, Int.lt_irrefl, Nat.zero_add, Nat.add_zero]
  refine loop_at (fun n : Nat => ⟨[(1, .lst 2 (raw.map rv)), (2, .lst 1 (ts.map tv)), (3, .ptr 0 0), (7, .v (.bool true)), (8, .v (.int .i64 ((n : Int) + 1)))], [some (.var 25 (r5w x))]⟩) (fun n => n ≤ 2) (fun n => 2 - n) 0 (by decide) rfl ?_
  intro n hn
  by_cases hn2 : n = 2
  · subst hn2
    simp (maxSteps := 4000000) only [EV, EVF, XV, cond_true, cond_false, Bool.false_eq_true, Bool.true_eq_false, eq_self, normsOf, cutsOf, heapOf, quietOf, drawsOf, drawmOf, opnOf, coldOf, shutOf, iceOf, extOf, extOverlaps_eq, overB_eq, extCmp_eq, shpOf, Try.f4, ↓reduceIte, Nat.reduceAdd, Nat.reduceLT, Nat.reduceEqDiff, Nat.reduceLeDiff, Nat.succ_ne_zero, Nat.zero_ne_one, Nat.one_ne_zero, ne_eq, not_false_eq_true, true_and, and_true, Nat.reduceMul, Nat.reduceSub, Int.reduceToNat, Int.toNat_zero, Int.toNat_one, Nat.zero_mul, Nat.one_mul, Int.reduceLT, Int.reduceLE, Int.le_refl, Int.zero_lt_one, Int.toNat_natCast, List.take_length, Int.cast_ofNat_Int, Int.reduceAdd, Int.reduceSub, Int.reduceBEq, Int.reduceBNe, ge_iff_le, gt_iff_lt, decide_true, decide_false, Int.lt_irrefl, Nat.zero_add, Nat.add_zero, r5w]
  have hv : (n : Int) + 1 = 1 ∨ (n : Int) + 1 = 2 := by omega
  have wn : IntKind.i64.wrap ((n : Int) + 1 + 1) = ((n + 1 : Nat) : Int) + 1 := by rw [wrap64 (by omega) (by omega)]; omega
  have hn0 : ((n : Int) + 1 = 1 ↔ n = 0) := by omega
  have hright := hright _ hv
  have hrec := fun (m : Nat) (hm : 3 ≤ m) K => hrec m hm _ hv K
  generalize hveq : (n : Int) + 1 = v at hv hright hrec wn
  have q0 : (v ≤ 2) = True := eq_true (by omega)
  have w3 : IntKind.i64.wrap (3 - v) = 3 - v := wrap64 (by omega) (by omega)
  generalize recordS v x.a x.b x.c x.d x.e raw ts = r at hright hrec
  obtain ⟨k1, k2⟩ := keeps hright
  have hl : r.extra.length ≤ 64 := (right_bd (extra_tags hright).2.1).1
  have ht1 := fun (m : Nat) (hm : 6 ≤ m) K => to_w m hm v (3 - v) r (by omega) K
  have ht2 := fun (m : Nat) (hm : 6 ≤ m) K => to_w m hm v v r (by omega) K
  have hs := fun (m : Nat) (hm : 2 ≤ m) K => samer_w m hm r r (by omega) K
  rw [k1] at ht2
  rw [decide_eq_true rfl] at hs
  have next : ∀ S : St, S = ⟨[(1, .lst 2 (raw.map rv)), (2, .lst 1 (ts.map tv)), (3, .ptr 0 0), (7, .v (.bool true)), (8, .v (.int .i64 (((n + 1 : Nat) : Int) + 1)))], [some (.var 25 (r5w x))]⟩ → ∃ a', a' ≤ 2 ∧ 2 - a' < 2 - n ∧ S = ⟨[(1, .lst 2 (raw.map rv)), (2, .lst 1 (ts.map tv)), (3, .ptr 0 0), (7, .v (.bool true)), (8, .v (.int .i64 ((a' : Int) + 1)))], [some (.var 25 (r5w x))]⟩ := fun S hS => ⟨n + 1, by omega, by omega, hS⟩
  rcases k2 with ⟨rfl, k2⟩ | ⟨x', k2, y1, y2, y3, y4, y5, y6⟩
  · rw [k2] at ht1
    unfold RE.av rcv at ht1 ht2
    unfold rcv at hs
    simp (maxSteps := 4000000) only [EV, EVF, XV, cond_true, cond_false, Bool.false_eq_true, Bool.true_eq_false, eq_self, normsOf, cutsOf, heapOf, quietOf, drawsOf, drawmOf, opnOf, coldOf, shutOf, iceOf, extOf, extOverlaps_eq, overB_eq, extCmp_eq, shpOf, Try.f4, ↓reduceIte, Nat.reduceAdd, Nat.reduceLT, Nat.reduceEqDiff, Nat.reduceLeDiff, Nat.succ_ne_zero, Nat.zero_ne_one, Nat.one_ne_zero, ne_eq, not_false_eq_true, true_and, and_true, Nat.reduceMul, Nat.reduceSub, Int.reduceToNat, Int.toNat_zero, Int.toNat_one, Nat.zero_mul, Nat.one_mul, Int.reduceLT, Int.reduceLE, Int.le_refl, Int.zero_lt_one, Int.toNat_natCast, List.take_length, Int.cast_ofNat_Int, Int.reduceAdd, Int.reduceSub, Int.reduceBEq, Int.reduceBNe, ge_iff_le, gt_iff_lt, decide_true, decide_false, Int.lt_irrefl, Nat.zero_add, Nat.add_zero, q0, w3, r5w]
    refine hrec m (by omega) _ fun H => ?_
    simp (maxSteps := 4000000) only [EV, EVF, XV, cond_true, cond_false, Bool.false_eq_true, Bool.true_eq_false, eq_self, normsOf, cutsOf, heapOf, quietOf, drawsOf, drawmOf, opnOf, coldOf, shutOf, iceOf, extOf, extOverlaps_eq, overB_eq, extCmp_eq, shpOf, Try.f4, ↓reduceIte, Nat.reduceAdd, Nat.reduceLT, Nat.reduceEqDiff, Nat.reduceLeDiff, Nat.succ_ne_zero, Nat.zero_ne_one, Nat.one_ne_zero, ne_eq, not_false_eq_true, true_and, and_true, Nat.reduceMul, Nat.reduceSub, Int.reduceToNat, Int.toNat_zero, Int.toNat_one, Nat.zero_mul, Nat.one_mul, Int.reduceLT, Int.reduceLE, Int.le_refl, Int.zero_lt_one, Int.toNat_natCast, List.take_length, Int.cast_ofNat_Int, Int.reduceAdd, Int.reduceSub, Int.reduceBEq, Int.reduceBNe, ge_iff_le, gt_iff_lt, decide_true, decide_false, Int.lt_irrefl, Nat.zero_add, Nat.add_zero, w3]
    refine ht1 m (by omega) _ fun H => ?_
    simp (maxSteps := 4000000) only [EV, EVF, XV, cond_true, cond_false, Bool.false_eq_true, Bool.true_eq_false, eq_self, normsOf, cutsOf, heapOf, quietOf, drawsOf, drawmOf, opnOf, coldOf, shutOf, iceOf, extOf, extOverlaps_eq, overB_eq, extCmp_eq, shpOf, Try.f4, ↓reduceIte, Nat.reduceAdd, Nat.reduceLT, Nat.reduceEqDiff, Nat.reduceLeDiff, Nat.succ_ne_zero, Nat.zero_ne_one, Nat.one_ne_zero, ne_eq, not_false_eq_true, true_and, and_true, Nat.reduceMul, Nat.reduceSub, Int.reduceToNat, Int.toNat_zero, Int.toNat_one, Nat.zero_mul, Nat.one_mul, Int.reduceLT, Int.reduceLE, Int.le_refl, Int.zero_lt_one, Int.toNat_natCast, List.take_length, Int.cast_ofNat_Int, Int.reduceAdd, Int.reduceSub, Int.reduceBEq, Int.reduceBNe, ge_iff_le, gt_iff_lt, decide_true, decide_false, Int.lt_irrefl, Nat.zero_add, Nat.add_zero]
    refine ht2 m (by omega) _ fun H => ?_
    simp (maxSteps := 4000000) only [EV, EVF, XV, cond_true, cond_false, Bool.false_eq_true, Bool.true_eq_false, eq_self, normsOf, cutsOf, heapOf, quietOf, drawsOf, drawmOf, opnOf, coldOf, shutOf, iceOf, extOf, extOverlaps_eq, overB_eq, extCmp_eq, shpOf, Try.f4, ↓reduceIte, Nat.reduceAdd, Nat.reduceLT, Nat.reduceEqDiff, Nat.reduceLeDiff, Nat.succ_ne_zero, Nat.zero_ne_one, Nat.one_ne_zero, ne_eq, not_false_eq_true, true_and, and_true, Nat.reduceMul, Nat.reduceSub, Int.reduceToNat, Int.toNat_zero, Int.toNat_one, Nat.zero_mul, Nat.one_mul, Int.reduceLT, Int.reduceLE, Int.le_refl, Int.zero_lt_one, Int.toNat_natCast, List.take_length, Int.cast_ofNat_Int, Int.reduceAdd, Int.reduceSub, Int.reduceBEq, Int.reduceBNe, ge_iff_le, gt_iff_lt, decide_true, decide_false, Int.lt_irrefl, Nat.zero_add, Nat.add_zero]
    refine hs m (by omega) _ fun H => ?_
    obtain rfl : n = 0 := by omega
    simp (maxSteps := 4000000) only [EV, EVF, XV, cond_true, cond_false, Bool.false_eq_true, Bool.true_eq_false, eq_self, normsOf, cutsOf, heapOf, quietOf, drawsOf, drawmOf, opnOf, coldOf, shutOf, iceOf, extOf, extOverlaps_eq, overB_eq, extCmp_eq, shpOf, Try.f4, ↓reduceIte, Nat.reduceAdd, Nat.reduceLT, Nat.reduceEqDiff, Nat.reduceLeDiff, Nat.succ_ne_zero, Nat.zero_ne_one, Nat.one_ne_zero, ne_eq, not_false_eq_true, true_and, and_true, Nat.reduceMul, Nat.reduceSub, Int.reduceToNat, Int.toNat_zero, Int.toNat_one, Nat.zero_mul, Nat.one_mul, Int.reduceLT, Int.reduceLE, Int.le_refl, Int.zero_lt_one, Int.toNat_natCast, List.take_length, Int.cast_ofNat_Int, Int.reduceAdd, Int.reduceSub, Int.reduceBEq, Int.reduceBNe, ge_iff_le, gt_iff_lt, decide_true, decide_false, Int.lt_irrefl, Nat.zero_add, Nat.add_zero, wn]
    exact next _ rfl
  rw [k2] at ht1
  obtain ⟨kx, vx, rx, lx, nx, ex⟩ := x'
  obtain ⟨kr, vr, rr, lr, nr, er⟩ := r
  simp only at y1 y2 y3 y4 y5 y6 hl
  subst y1 y2 y3
  generalize hA : upN ⟨kx, vx, rx, lr, nr, er⟩ = A at y6
  generalize hB : upN ⟨kx, vx, rx, lx, nx, ex⟩ = B at y6
  have hA' : A = (er.takeWhile fun f => decide (f.1 ≤ 5)).length := hA.symm
  have hB' : B = (ex.takeWhile fun f => decide (f.1 ≤ 5)).length := hB.symm
  have lA : A ≤ er.length := by rw [hA']; exact (List.takeWhile_prefix _).length_le
  have lB : B ≤ ex.length := by rw [hB']; exact (List.takeWhile_prefix _).length_le
  have lAB : ex.length - B = er.length - A := by have := congrArg List.length y6; simpa using this
  have wA : IntKind.i64.wrap ((er.length : Int) - (A : Int)) = ((er.length - A : Nat) : Int) := by rw [wrap64 (by omega) (by omega)]; omega
  have wB : IntKind.i64.wrap ((ex.length : Int) - (B : Int)) = ((er.length - A : Nat) : Int) := by rw [wrap64 (by omega) (by omega)]; omega
  unfold RE.av rcv at ht1 ht2
  unfold rcv at hs
  simp only at ht1 ht2 hs hrec
  simp (maxSteps := 4000000) only [EV, EVF, XV, cond_true, cond_false, Bool.false_eq_true, Bool.true_eq_false, eq_self, normsOf, cutsOf, heapOf, quietOf, drawsOf, drawmOf, opnOf, coldOf, shutOf, iceOf, extOf, extOverlaps_eq, overB_eq, extCmp_eq, shpOf, Try.f4, ↓reduceIte, Nat.reduceAdd, Nat.reduceLT, Nat.reduceEqDiff, Nat.reduceLeDiff, Nat.succ_ne_zero, Nat.zero_ne_one, Nat.one_ne_zero, ne_eq, not_false_eq_true, true_and, and_true, Nat.reduceMul, Nat.reduceSub, Int.reduceToNat, Int.toNat_zero, Int.toNat_one, Nat.zero_mul, Nat.one_mul, Int.reduceLT, Int.reduceLE, Int.le_refl, Int.zero_lt_one, Int.toNat_natCast, List.take_length, Int.cast_ofNat_Int, Int.reduceAdd, Int.reduceSub, Int.reduceBEq, Int.reduceBNe, ge_iff_le, gt_iff_lt, decide_true, decide_false, Int.lt_irrefl, Nat.zero_add, Nat.add_zero, q0, w3, r5w]
  refine hrec m (by omega) _ fun H => ?_
  simp (maxSteps := 4000000) only [EV, EVF, XV, cond_true, cond_false, Bool.false_eq_true, Bool.true_eq_false, eq_self, normsOf, cutsOf, heapOf, quietOf, drawsOf, drawmOf, opnOf, coldOf, shutOf, iceOf, extOf, extOverlaps_eq, overB_eq, extCmp_eq, shpOf, Try.f4, ↓reduceIte, Nat.reduceAdd, Nat.reduceLT, Nat.reduceEqDiff, Nat.reduceLeDiff, Nat.succ_ne_zero, Nat.zero_ne_one, Nat.one_ne_zero, ne_eq, not_false_eq_true, true_and, and_true, Nat.reduceMul, Nat.reduceSub, Int.reduceToNat, Int.toNat_zero, Int.toNat_one, Nat.zero_mul, Nat.one_mul, Int.reduceLT, Int.reduceLE, Int.le_refl, Int.zero_lt_one, Int.toNat_natCast, List.take_length, Int.cast_ofNat_Int, Int.reduceAdd, Int.reduceSub, Int.reduceBEq, Int.reduceBNe, ge_iff_le, gt_iff_lt, decide_true, decide_false, Int.lt_irrefl, Nat.zero_add, Nat.add_zero, w3]
  refine ht1 m (by omega) _ fun H => ?_
  simp (maxSteps := 4000000) only [EV, EVF, XV, cond_true, cond_false, Bool.false_eq_true, Bool.true_eq_false, eq_self, normsOf, cutsOf, heapOf, quietOf, drawsOf, drawmOf, opnOf, coldOf, shutOf, iceOf, extOf, extOverlaps_eq, overB_eq, extCmp_eq, shpOf, Try.f4, ↓reduceIte, Nat.reduceAdd, Nat.reduceLT, Nat.reduceEqDiff, Nat.reduceLeDiff, Nat.succ_ne_zero, Nat.zero_ne_one, Nat.one_ne_zero, ne_eq, not_false_eq_true, true_and, and_true, Nat.reduceMul, Nat.reduceSub, Int.reduceToNat, Int.toNat_zero, Int.toNat_one, Nat.zero_mul, Nat.one_mul, Int.reduceLT, Int.reduceLE, Int.le_refl, Int.zero_lt_one, Int.toNat_natCast, List.take_length, Int.cast_ofNat_Int, Int.reduceAdd, Int.reduceSub, Int.reduceBEq, Int.reduceBNe, ge_iff_le, gt_iff_lt, decide_true, decide_false, Int.lt_irrefl, Nat.zero_add, Nat.add_zero]
  refine ht2 m (by omega) _ fun H => ?_
  simp (maxSteps := 4000000) only [EV, EVF, XV, cond_true, cond_false, Bool.false_eq_true, Bool.true_eq_false, eq_self, normsOf, cutsOf, heapOf, quietOf, drawsOf, drawmOf, opnOf, coldOf, shutOf, iceOf, extOf, extOverlaps_eq, overB_eq, extCmp_eq, shpOf, Try.f4, ↓reduceIte, Nat.reduceAdd, Nat.reduceLT, Nat.reduceEqDiff, Nat.reduceLeDiff, Nat.succ_ne_zero, Nat.zero_ne_one, Nat.one_ne_zero, ne_eq, not_false_eq_true, true_and, and_true, Nat.reduceMul, Nat.reduceSub, Int.reduceToNat, Int.toNat_zero, Int.toNat_one, Nat.zero_mul, Nat.one_mul, Int.reduceLT, Int.reduceLE, Int.le_refl, Int.zero_lt_one, Int.toNat_natCast, List.take_length, Int.cast_ofNat_Int, Int.reduceAdd, Int.reduceSub, Int.reduceBEq, Int.reduceBNe, ge_iff_le, gt_iff_lt, decide_true, decide_false, Int.lt_irrefl, Nat.zero_add, Nat.add_zero]
  refine hs m (by omega) _ fun H => ?_
  simp (maxSteps := 4000000) only [EV, EVF, XV, cond_true, cond_false, Bool.false_eq_true, Bool.true_eq_false, eq_self, normsOf, cutsOf, heapOf, quietOf, drawsOf, drawmOf, opnOf, coldOf, shutOf, iceOf, extOf, extOverlaps_eq, overB_eq, extCmp_eq, shpOf, Try.f4, ↓reduceIte, Nat.reduceAdd, Nat.reduceLT, Nat.reduceEqDiff, Nat.reduceLeDiff, Nat.succ_ne_zero, Nat.zero_ne_one, Nat.one_ne_zero, ne_eq, not_false_eq_true, true_and, and_true, Nat.reduceMul, Nat.reduceSub, Int.reduceToNat, Int.toNat_zero, Int.toNat_one, Nat.zero_mul, Nat.one_mul, Int.reduceLT, Int.reduceLE, Int.le_refl, Int.zero_lt_one, Int.toNat_natCast, List.take_length, Int.cast_ofNat_Int, Int.reduceAdd, Int.reduceSub, Int.reduceBEq, Int.reduceBNe, ge_iff_le, gt_iff_lt, decide_true, decide_false, Int.lt_irrefl, Nat.zero_add, Nat.add_zero, bne_self_eq_false]
  refine loop_at (fun k : Nat => ⟨keepT raw ts v ++ [(14, .v (.int .i64 k)), (15, .v (.int .i64 0))], keepH x ⟨kx, vx, rx, lr, nr, er⟩ ⟨kx, vx, rx, lx, nx, ex⟩⟩) (fun k => k ≤ er.length ∧ A = k + ((er.drop k).takeWhile fun f => decide (f.1 ≤ 5)).length) (fun k => er.length - k) 0 ⟨by omega, by simpa using hA'⟩ rfl ?_
  rintro k ⟨h1, h2⟩
  have wk : IntKind.i64.wrap ((k : Int) + 1) = ((k + 1 : Nat) : Int) := by rw [wrap64 (by omega) (by omega)]; rfl
  simp only [keepT, keepH, rcv, r5w]
  rcases keep_at hA' h2 h1 with ⟨f, g1, g2, g3, g4⟩ | hend
  · have g0 : ((k : Int) < er.length) = True := eq_true (by omega)
    simp (maxSteps := 4000000) only [EV, EVF, XV, cond_true, cond_false, Bool.false_eq_true, Bool.true_eq_false, eq_self, normsOf, cutsOf, heapOf, quietOf, drawsOf, drawmOf, opnOf, coldOf, shutOf, iceOf, extOf, extOverlaps_eq, overB_eq, extCmp_eq, shpOf, Try.f4, ↓reduceIte, Nat.reduceAdd, Nat.reduceLT, Nat.reduceEqDiff, Nat.reduceLeDiff, Nat.succ_ne_zero, Nat.zero_ne_one, Nat.one_ne_zero, ne_eq, not_false_eq_true, true_and, and_true, Nat.reduceMul, Nat.reduceSub, Int.reduceToNat, Int.toNat_zero, Int.toNat_one, Nat.zero_mul, Nat.one_mul, Int.reduceLT, Int.reduceLE, Int.le_refl, Int.zero_lt_one, Int.toNat_natCast, List.take_length, Int.cast_ofNat_Int, Int.reduceAdd, Int.reduceSub, Int.reduceBEq, Int.reduceBNe, ge_iff_le, gt_iff_lt, decide_true, decide_false, Int.lt_irrefl, Nat.zero_add, Nat.add_zero, g0, g2, g3, fv, wk]
    exact ⟨k + 1, ⟨by omega, g4⟩, by omega, rfl⟩
  rcases hend with ⟨f1, f2⟩ | ⟨f, f1, f3, f4, f2⟩
  · have g0 : ((k : Int) < er.length) = False := eq_false (by omega)
    obtain rfl : A = k := by omega
    simp (maxSteps := 4000000) only [EV, EVF, XV, cond_true, cond_false, Bool.false_eq_true, Bool.true_eq_false, eq_self, normsOf, cutsOf, heapOf, quietOf, drawsOf, drawmOf, opnOf, coldOf, shutOf, iceOf, extOf, extOverlaps_eq, overB_eq, extCmp_eq, shpOf, Try.f4, ↓reduceIte, Nat.reduceAdd, Nat.reduceLT, Nat.reduceEqDiff, Nat.reduceLeDiff, Nat.succ_ne_zero, Nat.zero_ne_one, Nat.one_ne_zero, ne_eq, not_false_eq_true, true_and, and_true, Nat.reduceMul, Nat.reduceSub, Int.reduceToNat, Int.toNat_zero, Int.toNat_one, Nat.zero_mul, Nat.one_mul, Int.reduceLT, Int.reduceLE, Int.le_refl, Int.zero_lt_one, Int.toNat_natCast, List.take_length, Int.cast_ofNat_Int, Int.reduceAdd, Int.reduceSub, Int.reduceBEq, Int.reduceBNe, ge_iff_le, gt_iff_lt, decide_true, decide_false, Int.lt_irrefl, Nat.zero_add, Nat.add_zero, g0]
    refine loop_at (fun j : Nat => ⟨keepT raw ts v ++ [(14, .v (.int .i64 A)), (15, .v (.int .i64 j))], keepH x ⟨kx, vx, rx, lr, nr, er⟩ ⟨kx, vx, rx, lx, nx, ex⟩⟩) (fun j => j ≤ ex.length ∧ B = j + ((ex.drop j).takeWhile fun f => decide (f.1 ≤ 5)).length) (fun j => ex.length - j) 0 ⟨by omega, by simpa using hB'⟩ rfl ?_
    rintro j ⟨i1, i2⟩
    have wj : IntKind.i64.wrap ((j : Int) + 1) = ((j + 1 : Nat) : Int) := by rw [wrap64 (by omega) (by omega)]; rfl
    simp only [keepT, keepH, rcv, r5w]
    rcases keep_at hB' i2 i1 with ⟨f, g1, g2, g3, g4⟩ | hend
    · have g0 : ((j : Int) < ex.length) = True := eq_true (by omega)
      simp (maxSteps := 4000000) only [EV, EVF, XV, cond_true, cond_false, Bool.false_eq_true, Bool.true_eq_false, eq_self, normsOf, cutsOf, heapOf, quietOf, drawsOf, drawmOf, opnOf, coldOf, shutOf, iceOf, extOf, extOverlaps_eq, overB_eq, extCmp_eq, shpOf, Try.f4, ↓reduceIte, Nat.reduceAdd, Nat.reduceLT, Nat.reduceEqDiff, Nat.reduceLeDiff, Nat.succ_ne_zero, Nat.zero_ne_one, Nat.one_ne_zero, ne_eq, not_false_eq_true, true_and, and_true, Nat.reduceMul, Nat.reduceSub, Int.reduceToNat, Int.toNat_zero, Int.toNat_one, Nat.zero_mul, Nat.one_mul, Int.reduceLT, Int.reduceLE, Int.le_refl, Int.zero_lt_one, Int.toNat_natCast, List.take_length, Int.cast_ofNat_Int, Int.reduceAdd, Int.reduceSub, Int.reduceBEq, Int.reduceBNe, ge_iff_le, gt_iff_lt, decide_true, decide_false, Int.lt_irrefl, Nat.zero_add, Nat.add_zero, g0, g2, g3, fv, wj]
      exact ⟨j + 1, ⟨by omega, g4⟩, by omega, rfl⟩
    rcases hend with ⟨f1, f2⟩ | ⟨f, f1, f3, f4, f2⟩
    · have g0 : ((j : Int) < ex.length) = False := eq_false (by omega)
      obtain rfl : B = j := by omega
      simp (maxSteps := 4000000) only [EV, EVF, XV, cond_true, cond_false, Bool.false_eq_true, Bool.true_eq_false, eq_self, normsOf, cutsOf, heapOf, quietOf, drawsOf, drawmOf, opnOf, coldOf, shutOf, iceOf, extOf, extOverlaps_eq, overB_eq, extCmp_eq, shpOf, Try.f4, ↓reduceIte, Nat.reduceAdd, Nat.reduceLT, Nat.reduceEqDiff, Nat.reduceLeDiff, Nat.succ_ne_zero, Nat.zero_ne_one, Nat.one_ne_zero, ne_eq, not_false_eq_true, true_and, and_true, Nat.reduceMul, Nat.reduceSub, Int.reduceToNat, Int.toNat_zero, Int.toNat_one, Nat.zero_mul, Nat.one_mul, Int.reduceLT, Int.reduceLE, Int.le_refl, Int.zero_lt_one, Int.toNat_natCast, List.take_length, Int.cast_ofNat_Int, Int.reduceAdd, Int.reduceSub, Int.reduceBEq, Int.reduceBNe, ge_iff_le, gt_iff_lt, decide_true, decide_false, Int.lt_irrefl, Nat.zero_add, Nat.add_zero, g0, wA, wB, bne_self_eq_false]
      refine loop_at (fun i : Nat => ⟨keepT raw ts v ++ [(14, .v (.int .i64 A)), (15, .v (.int .i64 B)), (16, .v (.int .i64 i))], keepH x ⟨kx, vx, rx, lr, nr, er⟩ ⟨kx, vx, rx, lx, nx, ex⟩⟩) (fun i => i ≤ er.length - A) (fun i => er.length - A - i) 0 (by omega) rfl ?_
      intro i hi
      simp only [keepT, keepH, rcv, r5w]
      have wi : IntKind.i64.wrap ((i : Int) + 1) = ((i + 1 : Nat) : Int) := by rw [wrap64 (by omega) (by omega)]; rfl
      by_cases hi2 : i = er.length - A
      · have g0 : ((i : Int) < ((er.length - A : Nat) : Int)) = False := eq_false (by omega)
        simp (maxSteps := 4000000) only [EV, EVF, XV, cond_true, cond_false, Bool.false_eq_true, Bool.true_eq_false, eq_self, normsOf, cutsOf, heapOf, quietOf, drawsOf, drawmOf, opnOf, coldOf, shutOf, iceOf, extOf, extOverlaps_eq, overB_eq, extCmp_eq, shpOf, Try.f4, ↓reduceIte, Nat.reduceAdd, Nat.reduceLT, Nat.reduceEqDiff, Nat.reduceLeDiff, Nat.succ_ne_zero, Nat.zero_ne_one, Nat.one_ne_zero, ne_eq, not_false_eq_true, true_and, and_true, Nat.reduceMul, Nat.reduceSub, Int.reduceToNat, Int.toNat_zero, Int.toNat_one, Nat.zero_mul, Nat.one_mul, Int.reduceLT, Int.reduceLE, Int.le_refl, Int.zero_lt_one, Int.toNat_natCast, List.take_length, Int.cast_ofNat_Int, Int.reduceAdd, Int.reduceSub, Int.reduceBEq, Int.reduceBNe, ge_iff_le, gt_iff_lt, decide_true, decide_false, Int.lt_irrefl, Nat.zero_add, Nat.add_zero, g0, wA, wn]
        exact next _ rfl
      · have g0 : ((i : Int) < ((er.length - A : Nat) : Int)) = True := eq_true (by omega)
        obtain ⟨f, hf, _⟩ := drop_at (l := er) (k := A + i) (by omega)
        have hf2 : ex[B + i]? = some f := by
          have := congrArg (fun l => l[i]?) y6
          simp only [List.getElem?_drop] at this
          rw [this, hf]
        have g1 := map_at (f := fv) hf
        have g2 := map_at (f := fv) hf2
        have w1 : IntKind.i64.wrap ((A : Int) + (i : Int)) = ((A + i : Nat) : Int) := by rw [wrap64 (by omega) (by omega)]; omega
        have w2 : IntKind.i64.wrap ((B : Int) + (i : Int)) = ((B + i : Nat) : Int) := by rw [wrap64 (by omega) (by omega)]; omega
        simp (maxSteps := 4000000) only [EV, EVF, XV, cond_true, cond_false, Bool.false_eq_true, Bool.true_eq_false, eq_self, normsOf, cutsOf, heapOf, quietOf, drawsOf, drawmOf, opnOf, coldOf, shutOf, iceOf, extOf, extOverlaps_eq, overB_eq, extCmp_eq, shpOf, Try.f4, ↓reduceIte, Nat.reduceAdd, Nat.reduceLT, Nat.reduceEqDiff, Nat.reduceLeDiff, Nat.succ_ne_zero, Nat.zero_ne_one, Nat.one_ne_zero, ne_eq, not_false_eq_true, true_and, and_true, Nat.reduceMul, Nat.reduceSub, Int.reduceToNat, Int.toNat_zero, Int.toNat_one, Nat.zero_mul, Nat.one_mul, Int.reduceLT, Int.reduceLE, Int.le_refl, Int.zero_lt_one, Int.toNat_natCast, List.take_length, Int.cast_ofNat_Int, Int.reduceAdd, Int.reduceSub, Int.reduceBEq, Int.reduceBNe, ge_iff_le, gt_iff_lt, decide_true, decide_false, Int.lt_irrefl, Nat.zero_add, Nat.add_zero, g0, wA, w1, w2, g1, g2, fv, bne_self_eq_false, beq_self_eq_true, wi, mk_strEq]
        exact ⟨i + 1, by omega, by omega, rfl⟩
    · have g0 : ((j : Int) < ex.length) = True := eq_true (by omega)
      obtain rfl : B = j := by omega
      simp (maxSteps := 4000000) only [EV, EVF, XV, cond_true, cond_false, Bool.false_eq_true, Bool.true_eq_false, eq_self, normsOf, cutsOf, heapOf, quietOf, drawsOf, drawmOf, opnOf, coldOf, shutOf, iceOf, extOf, extOverlaps_eq, overB_eq, extCmp_eq, shpOf, Try.f4, ↓reduceIte, Nat.reduceAdd, Nat.reduceLT, Nat.reduceEqDiff, Nat.reduceLeDiff, Nat.succ_ne_zero, Nat.zero_ne_one, Nat.one_ne_zero, ne_eq, not_false_eq_true, true_and, and_true, Nat.reduceMul, Nat.reduceSub, Int.reduceToNat, Int.toNat_zero, Int.toNat_one, Nat.zero_mul, Nat.one_mul, Int.reduceLT, Int.reduceLE, Int.le_refl, Int.zero_lt_one, Int.toNat_natCast, List.take_length, Int.cast_ofNat_Int, Int.reduceAdd, Int.reduceSub, Int.reduceBEq, Int.reduceBNe, ge_iff_le, gt_iff_lt, decide_true, decide_false, Int.lt_irrefl, Nat.zero_add, Nat.add_zero, g0, f3, f4, fv, wA, wB, bne_self_eq_false]
      refine loop_at (fun i : Nat => ⟨keepT raw ts v ++ [(14, .v (.int .i64 A)), (15, .v (.int .i64 B)), (16, .v (.int .i64 i))], keepH x ⟨kx, vx, rx, lr, nr, er⟩ ⟨kx, vx, rx, lx, nx, ex⟩⟩) (fun i => i ≤ er.length - A) (fun i => er.length - A - i) 0 (by omega) rfl ?_
      intro i hi
      simp only [keepT, keepH, rcv, r5w]
      have wi : IntKind.i64.wrap ((i : Int) + 1) = ((i + 1 : Nat) : Int) := by rw [wrap64 (by omega) (by omega)]; rfl
      by_cases hi2 : i = er.length - A
      · have g0 : ((i : Int) < ((er.length - A : Nat) : Int)) = False := eq_false (by omega)
        simp (maxSteps := 4000000) only [EV, EVF, XV, cond_true, cond_false, Bool.false_eq_true, Bool.true_eq_false, eq_self, normsOf, cutsOf, heapOf, quietOf, drawsOf, drawmOf, opnOf, coldOf, shutOf, iceOf, extOf, extOverlaps_eq, overB_eq, extCmp_eq, shpOf, Try.f4, ↓reduceIte, Nat.reduceAdd, Nat.reduceLT, Nat.reduceEqDiff, Nat.reduceLeDiff, Nat.succ_ne_zero, Nat.zero_ne_one, Nat.one_ne_zero, ne_eq, not_false_eq_true, true_and, and_true, Nat.reduceMul, Nat.reduceSub, Int.reduceToNat, Int.toNat_zero, Int.toNat_one, Nat.zero_mul, Nat.one_mul, Int.reduceLT, Int.reduceLE, Int.le_refl, Int.zero_lt_one, Int.toNat_natCast, List.take_length, Int.cast_ofNat_Int, Int.reduceAdd, Int.reduceSub, Int.reduceBEq, Int.reduceBNe, ge_iff_le, gt_iff_lt, decide_true, decide_false, Int.lt_irrefl, Nat.zero_add, Nat.add_zero, g0, wA, wn]
        exact next _ rfl
      · have g0 : ((i : Int) < ((er.length - A : Nat) : Int)) = True := eq_true (by omega)
        obtain ⟨f, hf, _⟩ := drop_at (l := er) (k := A + i) (by omega)
        have hf2 : ex[B + i]? = some f := by
          have := congrArg (fun l => l[i]?) y6
          simp only [List.getElem?_drop] at this
          rw [this, hf]
        have g1 := map_at (f := fv) hf
        have g2 := map_at (f := fv) hf2
        have w1 : IntKind.i64.wrap ((A : Int) + (i : Int)) = ((A + i : Nat) : Int) := by rw [wrap64 (by omega) (by omega)]; omega
        have w2 : IntKind.i64.wrap ((B : Int) + (i : Int)) = ((B + i : Nat) : Int) := by rw [wrap64 (by omega) (by omega)]; omega
        simp (maxSteps := 4000000) only [EV, EVF, XV, cond_true, cond_false, Bool.false_eq_true, Bool.true_eq_false, eq_self, normsOf, cutsOf, heapOf, quietOf, drawsOf, drawmOf, opnOf, coldOf, shutOf, iceOf, extOf, extOverlaps_eq, overB_eq, extCmp_eq, shpOf, Try.f4, ↓reduceIte, Nat.reduceAdd, Nat.reduceLT, Nat.reduceEqDiff, Nat.reduceLeDiff, Nat.succ_ne_zero, Nat.zero_ne_one, Nat.one_ne_zero, ne_eq, not_false_eq_true, true_and, and_true, Nat.reduceMul, Nat.reduceSub, Int.reduceToNat, Int.toNat_zero, Int.toNat_one, Nat.zero_mul, Nat.one_mul, Int.reduceLT, Int.reduceLE, Int.le_refl, Int.zero_lt_one, Int.toNat_natCast, List.take_length, Int.cast_ofNat_Int, Int.reduceAdd, Int.reduceSub, Int.reduceBEq, Int.reduceBNe, ge_iff_le, gt_iff_lt, decide_true, decide_false, Int.lt_irrefl, Nat.zero_add, Nat.add_zero, g0, wA, w1, w2, g1, g2, fv, bne_self_eq_false, beq_self_eq_true, wi, mk_strEq]
        exact ⟨i + 1, by omega, by omega, rfl⟩
  · have g0 : ((k : Int) < er.length) = True := eq_true (by omega)
    obtain rfl : A = k := by omega
    simp (maxSteps := 4000000) only [EV, EVF, XV, cond_true, cond_false, Bool.false_eq_true, Bool.true_eq_false, eq_self, normsOf, cutsOf, heapOf, quietOf, drawsOf, drawmOf, opnOf, coldOf, shutOf, iceOf, extOf, extOverlaps_eq, overB_eq, extCmp_eq, shpOf, Try.f4, ↓reduceIte, Nat.reduceAdd, Nat.reduceLT, Nat.reduceEqDiff, Nat.reduceLeDiff, Nat.succ_ne_zero, Nat.zero_ne_one, Nat.one_ne_zero, ne_eq, not_false_eq_true, true_and, and_true, Nat.reduceMul, Nat.reduceSub, Int.reduceToNat, Int.toNat_zero, Int.toNat_one, Nat.zero_mul, Nat.one_mul, Int.reduceLT, Int.reduceLE, Int.le_refl, Int.zero_lt_one, Int.toNat_natCast, List.take_length, Int.cast_ofNat_Int, Int.reduceAdd, Int.reduceSub, Int.reduceBEq, Int.reduceBNe, ge_iff_le, gt_iff_lt, decide_true, decide_false, Int.lt_irrefl, Nat.zero_add, Nat.add_zero, g0, f3, f4, fv]
    refine loop_at (fun j : Nat => ⟨keepT raw ts v ++ [(14, .v (.int .i64 A)), (15, .v (.int .i64 j))], keepH x ⟨kx, vx, rx, lr, nr, er⟩ ⟨kx, vx, rx, lx, nx, ex⟩⟩) (fun j => j ≤ ex.length ∧ B = j + ((ex.drop j).takeWhile fun f => decide (f.1 ≤ 5)).length) (fun j => ex.length - j) 0 ⟨by omega, by simpa using hB'⟩ rfl ?_
    rintro j ⟨i1, i2⟩
    have wj : IntKind.i64.wrap ((j : Int) + 1) = ((j + 1 : Nat) : Int) := by rw [wrap64 (by omega) (by omega)]; rfl
    simp only [keepT, keepH, rcv, r5w]
    rcases keep_at hB' i2 i1 with ⟨f, g1, g2, g3, g4⟩ | hend
    · have g0 : ((j : Int) < ex.length) = True := eq_true (by omega)
      simp (maxSteps := 4000000) only [EV, EVF, XV, cond_true, cond_false, Bool.false_eq_true, Bool.true_eq_false, eq_self, normsOf, cutsOf, heapOf, quietOf, drawsOf, drawmOf, opnOf, coldOf, shutOf, iceOf, extOf, extOverlaps_eq, overB_eq, extCmp_eq, shpOf, Try.f4, ↓reduceIte, Nat.reduceAdd, Nat.reduceLT, Nat.reduceEqDiff, Nat.reduceLeDiff, Nat.succ_ne_zero, Nat.zero_ne_one, Nat.one_ne_zero, ne_eq, not_false_eq_true, true_and, and_true, Nat.reduceMul, Nat.reduceSub, Int.reduceToNat, Int.toNat_zero, Int.toNat_one, Nat.zero_mul, Nat.one_mul, Int.reduceLT, Int.reduceLE, Int.le_refl, Int.zero_lt_one, Int.toNat_natCast, List.take_length, Int.cast_ofNat_Int, Int.reduceAdd, Int.reduceSub, Int.reduceBEq, Int.reduceBNe, ge_iff_le, gt_iff_lt, decide_true, decide_false, Int.lt_irrefl, Nat.zero_add, Nat.add_zero, g0, g2, g3, fv, wj]
      exact ⟨j + 1, ⟨by omega, g4⟩, by omega, rfl⟩
    rcases hend with ⟨f1, f2⟩ | ⟨f, f1, f3, f4, f2⟩
    · have g0 : ((j : Int) < ex.length) = False := eq_false (by omega)
      obtain rfl : B = j := by omega
      simp (maxSteps := 4000000) only [EV, EVF, XV, cond_true, cond_false, Bool.false_eq_true, Bool.true_eq_false, eq_self, normsOf, cutsOf, heapOf, quietOf, drawsOf, drawmOf, opnOf, coldOf, shutOf, iceOf, extOf, extOverlaps_eq, overB_eq, extCmp_eq, shpOf, Try.f4, ↓reduceIte, Nat.reduceAdd, Nat.reduceLT, Nat.reduceEqDiff, Nat.reduceLeDiff, Nat.succ_ne_zero, Nat.zero_ne_one, Nat.one_ne_zero, ne_eq, not_false_eq_true, true_and, and_true, Nat.reduceMul, Nat.reduceSub, Int.reduceToNat, Int.toNat_zero, Int.toNat_one, Nat.zero_mul, Nat.one_mul, Int.reduceLT, Int.reduceLE, Int.le_refl, Int.zero_lt_one, Int.toNat_natCast, List.take_length, Int.cast_ofNat_Int, Int.reduceAdd, Int.reduceSub, Int.reduceBEq, Int.reduceBNe, ge_iff_le, gt_iff_lt, decide_true, decide_false, Int.lt_irrefl, Nat.zero_add, Nat.add_zero, g0, wA, wB, bne_self_eq_false]
      refine loop_at (fun i : Nat => ⟨keepT raw ts v ++ [(14, .v (.int .i64 A)), (15, .v (.int .i64 B)), (16, .v (.int .i64 i))], keepH x ⟨kx, vx, rx, lr, nr, er⟩ ⟨kx, vx, rx, lx, nx, ex⟩⟩) (fun i => i ≤ er.length - A) (fun i => er.length - A - i) 0 (by omega) rfl ?_
      intro i hi
      simp only [keepT, keepH, rcv, r5w]
      have wi : IntKind.i64.wrap ((i : Int) + 1) = ((i + 1 : Nat) : Int) := by rw [wrap64 (by omega) (by omega)]; rfl
      by_cases hi2 : i = er.length - A
      · have g0 : ((i : Int) < ((er.length - A : Nat) : Int)) = False := eq_false (by omega)
        simp (maxSteps := 4000000) only [EV, EVF, XV, cond_true, cond_false, Bool.false_eq_true, Bool.true_eq_false, eq_self, normsOf, cutsOf, heapOf, quietOf, drawsOf, drawmOf, opnOf, coldOf, shutOf, iceOf, extOf, extOverlaps_eq, overB_eq, extCmp_eq, shpOf, Try.f4, ↓reduceIte, Nat.reduceAdd, Nat.reduceLT, Nat.reduceEqDiff, Nat.reduceLeDiff, Nat.succ_ne_zero, Nat.zero_ne_one, Nat.one_ne_zero, ne_eq, not_false_eq_true, true_and, and_true, Nat.reduceMul, Nat.reduceSub, Int.reduceToNat, Int.toNat_zero, Int.toNat_one, Nat.zero_mul, Nat.one_mul, Int.reduceLT, Int.reduceLE, Int.le_refl, Int.zero_lt_one, Int.toNat_natCast, List.take_length, Int.cast_ofNat_Int, Int.reduceAdd, Int.reduceSub, Int.reduceBEq, Int.reduceBNe, ge_iff_le, gt_iff_lt, decide_true, decide_false, Int.lt_irrefl, Nat.zero_add, Nat.add_zero, g0, wA, wn]
        exact next _ rfl
      · have g0 : ((i : Int) < ((er.length - A : Nat) : Int)) = True := eq_true (by omega)
        obtain ⟨f, hf, _⟩ := drop_at (l := er) (k := A + i) (by omega)
        have hf2 : ex[B + i]? = some f := by
          have := congrArg (fun l => l[i]?) y6
          simp only [List.getElem?_drop] at this
          rw [this, hf]
        have g1 := map_at (f := fv) hf
        have g2 := map_at (f := fv) hf2
        have w1 : IntKind.i64.wrap ((A : Int) + (i : Int)) = ((A + i : Nat) : Int) := by rw [wrap64 (by omega) (by omega)]; omega
        have w2 : IntKind.i64.wrap ((B : Int) + (i : Int)) = ((B + i : Nat) : Int) := by rw [wrap64 (by omega) (by omega)]; omega
        simp (maxSteps := 4000000) only [EV, EVF, XV, cond_true, cond_false, Bool.false_eq_true, Bool.true_eq_false, eq_self, normsOf, cutsOf, heapOf, quietOf, drawsOf, drawmOf, opnOf, coldOf, shutOf, iceOf, extOf, extOverlaps_eq, overB_eq, extCmp_eq, shpOf, Try.f4, ↓reduceIte, Nat.reduceAdd, Nat.reduceLT, Nat.reduceEqDiff, Nat.reduceLeDiff, Nat.succ_ne_zero, Nat.zero_ne_one, Nat.one_ne_zero, ne_eq, not_false_eq_true, true_and, and_true, Nat.reduceMul, Nat.reduceSub, Int.reduceToNat, Int.toNat_zero, Int.toNat_one, Nat.zero_mul, Nat.one_mul, Int.reduceLT, Int.reduceLE, Int.le_refl, Int.zero_lt_one, Int.toNat_natCast, List.take_length, Int.cast_ofNat_Int, Int.reduceAdd, Int.reduceSub, Int.reduceBEq, Int.reduceBNe, ge_iff_le, gt_iff_lt, decide_true, decide_false, Int.lt_irrefl, Nat.zero_add, Nat.add_zero, g0, wA, w1, w2, g1, g2, fv, bne_self_eq_false, beq_self_eq_true, wi, mk_strEq]
        exact ⟨i + 1, by omega, by omega, rfl⟩
    · have g0 : ((j : Int) < ex.length) = True := eq_true (by omega)
      obtain rfl : B = j := by omega
      simp (maxSteps := 4000000) only [EV, EVF, XV, cond_true, cond_false, Bool.false_eq_true, Bool.true_eq_false, eq_self, normsOf, cutsOf, heapOf, quietOf, drawsOf, drawmOf, opnOf, coldOf, shutOf, iceOf, extOf, extOverlaps_eq, overB_eq, extCmp_eq, shpOf, Try.f4, ↓reduceIte, Nat.reduceAdd, Nat.reduceLT, Nat.reduceEqDiff, Nat.reduceLeDiff, Nat.succ_ne_zero, Nat.zero_ne_one, Nat.one_ne_zero, ne_eq, not_false_eq_true, true_and, and_true, Nat.reduceMul, Nat.reduceSub, Int.reduceToNat, Int.toNat_zero, Int.toNat_one, Nat.zero_mul, Nat.one_mul, Int.reduceLT, Int.reduceLE, Int.le_refl, Int.zero_lt_one, Int.toNat_natCast, List.take_length, Int.cast_ofNat_Int, Int.reduceAdd, Int.reduceSub, Int.reduceBEq, Int.reduceBNe, ge_iff_le, gt_iff_lt, decide_true, decide_false, Int.lt_irrefl, Nat.zero_add, Nat.add_zero, g0, f3, f4, fv, wA, wB, bne_self_eq_false]
      refine loop_at (fun i : Nat => ⟨keepT raw ts v ++ [(14, .v (.int .i64 A)), (15, .v (.int .i64 B)), (16, .v (.int .i64 i))], keepH x ⟨kx, vx, rx, lr, nr, er⟩ ⟨kx, vx, rx, lx, nx, ex⟩⟩) (fun i => i ≤ er.length - A) (fun i => er.length - A - i) 0 (by omega) rfl ?_
      intro i hi
      simp only [keepT, keepH, rcv, r5w]
      have wi : IntKind.i64.wrap ((i : Int) + 1) = ((i + 1 : Nat) : Int) := by rw [wrap64 (by omega) (by omega)]; rfl
      by_cases hi2 : i = er.length - A
      · have g0 : ((i : Int) < ((er.length - A : Nat) : Int)) = False := eq_false (by omega)
        simp (maxSteps := 4000000) only [EV, EVF, XV, cond_true, cond_false, Bool.false_eq_true, Bool.true_eq_false, eq_self, normsOf, cutsOf, heapOf, quietOf, drawsOf, drawmOf, opnOf, coldOf, shutOf, iceOf, extOf, extOverlaps_eq, overB_eq, extCmp_eq, shpOf, Try.f4, ↓reduceIte, Nat.reduceAdd, Nat.reduceLT, Nat.reduceEqDiff, Nat.reduceLeDiff, Nat.succ_ne_zero, Nat.zero_ne_one, Nat.one_ne_zero, ne_eq, not_false_eq_true, true_and, and_true, Nat.reduceMul, Nat.reduceSub, Int.reduceToNat, Int.toNat_zero, Int.toNat_one, Nat.zero_mul, Nat.one_mul, Int.reduceLT, Int.reduceLE, Int.le_refl, Int.zero_lt_one, Int.toNat_natCast, List.take_length, Int.cast_ofNat_Int, Int.reduceAdd, Int.reduceSub, Int.reduceBEq, Int.reduceBNe, ge_iff_le, gt_iff_lt, decide_true, decide_false, Int.lt_irrefl, Nat.zero_add, Nat.add_zero, g0, wA, wn]
        exact next _ rfl
      · have g0 : ((i : Int) < ((er.length - A : Nat) : Int)) = True := eq_true (by omega)
        obtain ⟨f, hf, _⟩ := drop_at (l := er) (k := A + i) (by omega)
        have hf2 : ex[B + i]? = some f := by
          have := congrArg (fun l => l[i]?) y6
          simp only [List.getElem?_drop] at this
          rw [this, hf]
        have g1 := map_at (f := fv) hf
        have g2 := map_at (f := fv) hf2
        have w1 : IntKind.i64.wrap ((A : Int) + (i : Int)) = ((A + i : Nat) : Int) := by rw [wrap64 (by omega) (by omega)]; omega
        have w2 : IntKind.i64.wrap ((B : Int) + (i : Int)) = ((B + i : Nat) : Int) := by rw [wrap64 (by omega) (by omega)]; omega
        simp (maxSteps := 4000000) only [EV, EVF, XV, cond_true, cond_false, Bool.false_eq_true, Bool.true_eq_false, eq_self, normsOf, cutsOf, heapOf, quietOf, drawsOf, drawmOf, opnOf, coldOf, shutOf, iceOf, extOf, extOverlaps_eq, overB_eq, extCmp_eq, shpOf, Try.f4, ↓reduceIte, Nat.reduceAdd, Nat.reduceLT, Nat.reduceEqDiff, Nat.reduceLeDiff, Nat.succ_ne_zero, Nat.zero_ne_one, Nat.one_ne_zero, ne_eq, not_false_eq_true, true_and, and_true, Nat.reduceMul, Nat.reduceSub, Int.reduceToNat, Int.toNat_zero, Int.toNat_one, Nat.zero_mul, Nat.one_mul, Int.reduceLT, Int.reduceLE, Int.le_refl, Int.zero_lt_one, Int.toNat_natCast, List.take_length, Int.cast_ofNat_Int, Int.reduceAdd, Int.reduceSub, Int.reduceBEq, Int.reduceBNe, ge_iff_le, gt_iff_lt, decide_true, decide_false, Int.lt_irrefl, Nat.zero_add, Nat.add_zero, g0, wA, w1, w2, g1, g2, fv, bne_self_eq_false, beq_self_eq_true, wi, mk_strEq]
        exact ⟨i + 1, by omega, by omega, rfl⟩
end Go.Ai

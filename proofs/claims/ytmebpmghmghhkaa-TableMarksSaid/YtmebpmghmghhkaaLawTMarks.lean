/- TableMarks: the machine's word. -/
import Derived.Test.YtmebpmghmghhkaaTabG
import Derived.Test.YtmebpmghmghhkaaTabFit
set_option linter.unusedVariables false
set_option linter.unusedSimpArgs false
set_option maxRecDepth 100000
set_option maxHeartbeats 4000000
namespace Go.Ai
open Go.Proofs
def txt1 : List UInt8 := [102, 105, 114, 115, 116]
def txt2 : List UInt8 := [115, 101, 99, 111, 110, 100]
def txtN : List UInt8 := [110, 111, 116, 101]
theorem rise_inj {t : List Rec} (hs : Rise t) {i j : Nat} {x y : Rec} (hi : t[i]? = some x) (hj : t[j]? = some y) (h : x.key = y.key) : i = j := by
  obtain ⟨i1, i2⟩ := List.getElem?_eq_some_iff.1 hi
  obtain ⟨j1, j2⟩ := List.getElem?_eq_some_iff.1 hj
  have hp := List.pairwise_iff_getElem.1 hs
  rcases Nat.lt_trichotomy i j with hlt | heq | hgt
  · have := hp i j i1 j1 hlt
    rw [i2, j2, h, cmp_self] at this
    omega
  · exact heq
  · have := hp j i j1 i1 hgt
    rw [i2, j2, h, cmp_self] at this
    omega
theorem marks_plain {t : List Rec} {k : List UInt8} {n : Int} (ht : tabR t = true) (hm : ∀ r ∈ t, r.rev = 9007199254740992 → 5 ≤ t.length) (hk : okK k) (hn : numP n) :
    let P := doS t (opPut k txt1)
    let M := doS P.t (opMark k n txtN)
    let V := doS M.t (opPut k txt2)
    P.r = faultS 50 ∨ ∃ a, P.r = ⟨0, a, [], []⟩ ∧ 0 < a ∧ a ≤ 9007199254740992 ∧ ((M.r = faultS 50 ∧ a = 9007199254740992) ∨ (M.r = ⟨0, a + 1, [], []⟩ ∧ a < 9007199254740992 ∧ ((V.r = faultS 50 ∧ a + 1 = 9007199254740992) ∨ (V.r = ⟨0, a + 2, [], []⟩ ∧
      ∃ (i : Nat) (y z : Rec), M.t[i]? = some y ∧ V.t[i]? = some z ∧ y.value = txt1 ∧ z.value = txt2 ∧ z.life = n ∧ z.note = txtN ∧ z.rev = a + 2 ∧ z.key = k ∧ Rise V.t ∧ V.t.length = M.t.length)))) := by
  intro P M V
  rcases put_plain (v := txt1) ht hm hk (by decide) with ⟨p1, _⟩ | ⟨x, p1, p2, p3, p4, p5⟩
  · exact .inl p1
  have uR := do_any (o := opPut k txt1) ht
  refine .inr ⟨x.rev, p3, p4, p5, ?_⟩
  obtain ⟨m1, m2, m3⟩ := do_cell uR (ck_mark (v := txtN) hk (by decide) hn) (by simp [opMark])
  have m4 := (m1.find (tabR_iff.1 uR).1).2.1
  have mR := (m1.find (tabR_iff.1 uR).1).1
  have em : ∀ b, cellC (opMark k n txtN) (some x) b = markC (opMark k n txtN) (some x) := fun _ => rfl
  rw [show (opMark k n txtN).key = k from rfl, p1, em] at m2 m4
  unfold markC at m2 m4
  simp only at m2 m4
  by_cases hx : x.rev = 9007199254740992
  · simp only [if_pos hx] at m2
    exact .inl ⟨m2, hx⟩
  simp only [if_neg hx] at m2 m4
  refine .inr ⟨m2, by omega, ?_⟩
  obtain ⟨v1, v2, v3⟩ := do_cell m3 (ck_put (v := txt2) hk (by decide)) (by simp [opPut])
  have v4 := (v1.find mR).2.1
  have vR := (v1.find mR).1
  have vL := (v1.find mR).2.2.2
  have ev : ∀ f b, cellC (opPut k txt2) f b = putC (opPut k txt2) f b := fun _ _ => rfl
  rw [show (opPut k txt2).key = k from rfl, m4, ev] at v1 v2 v4 vL
  unfold putC at v1 v2 v4 vL
  simp only at v1 v2 v4 vL
  by_cases hy : x.rev + 1 = 9007199254740992
  · simp only [if_pos hy] at v2
    exact .inl ⟨v2, hy⟩
  simp only [if_neg hy] at v1 v2 v4 vL
  refine .inr ⟨by rw [show x.rev + 2 = x.rev + 1 + 1 by omega]; exact v2, ?_⟩
  simp only [Option.isSome_some, if_true] at vL
  generalize hz : ({ putG (opPut k txt2) { markG (opMark k n txtN) x with rev := x.rev + 1 } with rev := x.rev + 1 + 1 } : Rec) = z at v1 v2 v4
  generalize hV : (doS (doS (doS t (opPut k txt1)).t (opMark k n txtN)).t (opPut k txt2)).t = vt at v1 v4 vR vL
  have hfin : z.value = txt2 ∧ z.life = n ∧ z.note = txtN ∧ z.rev = x.rev + 2 ∧ z.key = k := by
    rw [← hz]
    refine ⟨rfl, rfl, rfl, ?_, ?_⟩
    · simp only
      omega
    · exact (findT_mem p1).2
  have goal : ∀ (i : Nat) (y : Rec), (doS (doS t (opPut k txt1)).t (opMark k n txtN)).t[i]? = some y → y.key = k → vt[i]? = some z → ∃ (i : Nat) (y z : Rec), M.t[i]? = some y ∧ vt[i]? = some z ∧ y.value = txt1 ∧ z.value = txt2 ∧ z.life = n ∧ z.note = txtN ∧ z.rev = x.rev + 2 ∧ z.key = k ∧ Rise vt ∧ vt.length = M.t.length := by
    intro i y hy1 hy2 hv
    refine ⟨i, y, z, hy1, hv, ?_, hfin.1, hfin.2.1, hfin.2.2.1, hfin.2.2.2.1, hfin.2.2.2.2, vR, Nat.add_right_cancel vL⟩
    have he : findT k (doS (doS t (opPut k txt1)).t (opMark k n txtN)).t = some y := by
      have e := split_at hy1
      have hs' := mR
      rw [e] at hs'
      rw [e, findT_ins (rise_uniq (t := t) hs'), if_pos hy2]
    rw [m4] at he
    simp only [Option.some.injEq] at he
    rw [← he]
    exact p2
  generalize (doS (doS t (opPut k txt1)).t (opMark k n txtN)).t = mt at *
  generalize hfz : some z = fz at v1
  cases v1 with
  | same =>
    rw [m4] at hfz
    simp only [Option.some.injEq] at hfz
    have h1 := congrArg Rec.rev hfz
    rw [hfin.2.2.2.1] at h1
    simp only at h1
    omega
  | @set i r y hr hrk hyk =>
    simp only [Option.some.injEq] at hfz
    subst hfz
    exact goal i r hr hrk (by rw [List.getElem?_set_self (List.getElem?_eq_some_iff.1 hr).1])
  | @ins y hn' hl hyk =>
    rw [m4] at hn'
    simp at hn'
  | del hr hrk => simp at hfz
theorem tmarks_law (m : Nat) (hm : 30 ≤ m) (raw : List R5) (hrl : raw.length * 40 ≤ 140737488351232) (hr : ∀ r ∈ raw, r5k r) (key : Int) (hkey : i64ok key) (life : Int) (hlife : i64ok life) : wpF C m 9 [.lst 5 (raw.map r5w), .v (.int .i64 key), .v (.int .i64 life)] [] fun r _ => r = .v (.bool true) := by
  have htb := fun (m : Nat) (hm : 6 ≤ m) K => table_w m hm raw (by omega) hr K
  have hkw := fun (m : Nat) (hm : 2 ≤ m) K => key_w m hm key hkey K
  have hp := fun (m : Nat) (hm : 1 ≤ m) (c n : Int) (hn : n ≠ 0) K => pick12_w m hm c n hn K
  have hk : okK (keyS key) := key_small hkey
  have tT := table_T (raw := raw)
  have tR := table_right (raw := raw)
  have tE := table_extra (raw := raw)
  have tM := table_max (raw := raw)
  have c100 := pickN_bd hlife.1 hlife.2 (show (0 : Int) < 100 by omega)
  have hn : numP (pickN life 100) := ⟨by omega, by omega⟩
  generalize tableS raw = t at *
  generalize keyS key = k at *
  have pp := marks_plain tR tM hk hn
  simp only at pp
  have d1 := fun (m : Nat) (hm : 12 ≤ m) K => do_w m hm t tT (opPut k txt1) K
  have uR := do_any (o := opPut k txt1) tR
  have uE := do_ext (o := opPut k txt1) tE
  generalize doS t (opPut k txt1) = P at *
  have d2 := fun (m : Nat) (hm : 12 ≤ m) K => do_w m hm P.t (right_T uR uE) (opMark k (pickN life 100) txtN) K
  have mR := do_any (o := opMark k (pickN life 100) txtN) uR
  have mE := do_ext (o := opMark k (pickN life 100) txtN) uE
  generalize doS P.t (opMark k (pickN life 100) txtN) = M at *
  have d3 := fun (m : Nat) (hm : 12 ≤ m) K => do_w m hm M.t (right_T mR mE) (opPut k txt2) K
  have vR := do_any (o := opPut k txt2) mR
  generalize doS M.t (opPut k txt2) = V at *
  generalize hl : pickN life 100 = n at *
  obtain ⟨pt, pr⟩ := P
  obtain ⟨mt, mr⟩ := M
  obtain ⟨vt, vr⟩ := V
  unfold DoR.av at d1 d2 d3
  simp only at pp
  obtain ⟨m, rfl⟩ : ∃ j, m = j + 1 := ⟨m - 1, by omega⟩; simp only [wpF, bodyA, fn_9, C_P, ok_9, C_prim, primOf, true_and]; simp (maxSteps := 4000000) only [EV, EVF, XV, cond_true, cond_false, Bool.false_eq_true, Bool.true_eq_false, eq_self, normsOf, cutsOf, heapOf, quietOf, drawsOf, drawmOf, drawfOf, opnOf, coldOf, shutOf, iceOf, extOf, extOverlaps_eq, overB_eq, extCmp_eq, shpOf, Try.f9, ↓reduceIte, Nat.reduceAdd, Nat.reduceLT, Nat.reduceEqDiff, Nat.reduceLeDiff, Nat.succ_ne_zero, Nat.zero_ne_one, Nat.one_ne_zero, ne_eq, not_false_eq_true, true_and, and_true, Nat.reduceMul, Nat.reduceSub, Int.reduceToNat, Int.toNat_zero, Int.toNat_one, Nat.zero_mul, Nat.one_mul, Int.reduceLT, Int.reduceLE, Int.le_refl, Int.zero_lt_one, Int.toNat_natCast, List.take_length, Int.cast_ofNat_Int, Int.reduceAdd, Int.reduceSub, Int.reduceBEq, Int.reduceBNe, ge_iff_le, gt_iff_lt, decide_true, decide_false, Int.lt_irrefl, Nat.zero_add, Nat.add_zero]
  refine awake12_w m (by omega) _ fun H => ?_
  simp (maxSteps := 4000000) only [EV, EVF, XV, cond_true, cond_false, Bool.false_eq_true, Bool.true_eq_false, eq_self, normsOf, cutsOf, heapOf, quietOf, drawsOf, drawmOf, drawfOf, opnOf, coldOf, shutOf, iceOf, extOf, extOverlaps_eq, overB_eq, extCmp_eq, shpOf, Try.f9, ↓reduceIte, Nat.reduceAdd, Nat.reduceLT, Nat.reduceEqDiff, Nat.reduceLeDiff, Nat.succ_ne_zero, Nat.zero_ne_one, Nat.one_ne_zero, ne_eq, not_false_eq_true, true_and, and_true, Nat.reduceMul, Nat.reduceSub, Int.reduceToNat, Int.toNat_zero, Int.toNat_one, Nat.zero_mul, Nat.one_mul, Int.reduceLT, Int.reduceLE, Int.le_refl, Int.zero_lt_one, Int.toNat_natCast, List.take_length, Int.cast_ofNat_Int, Int.reduceAdd, Int.reduceSub, Int.reduceBEq, Int.reduceBNe, ge_iff_le, gt_iff_lt, decide_true, decide_false, Int.lt_irrefl, Nat.zero_add, Nat.add_zero]
  refine hkw m (by omega) _ fun H => ?_
  simp (maxSteps := 4000000) only [EV, EVF, XV, cond_true, cond_false, Bool.false_eq_true, Bool.true_eq_false, eq_self, normsOf, cutsOf, heapOf, quietOf, drawsOf, drawmOf, drawfOf, opnOf, coldOf, shutOf, iceOf, extOf, extOverlaps_eq, overB_eq, extCmp_eq, shpOf, Try.f9, ↓reduceIte, Nat.reduceAdd, Nat.reduceLT, Nat.reduceEqDiff, Nat.reduceLeDiff, Nat.succ_ne_zero, Nat.zero_ne_one, Nat.one_ne_zero, ne_eq, not_false_eq_true, true_and, and_true, Nat.reduceMul, Nat.reduceSub, Int.reduceToNat, Int.toNat_zero, Int.toNat_one, Nat.zero_mul, Nat.one_mul, Int.reduceLT, Int.reduceLE, Int.le_refl, Int.zero_lt_one, Int.toNat_natCast, List.take_length, Int.cast_ofNat_Int, Int.reduceAdd, Int.reduceSub, Int.reduceBEq, Int.reduceBNe, ge_iff_le, gt_iff_lt, decide_true, decide_false, Int.lt_irrefl, Nat.zero_add, Nat.add_zero]
  refine htb m (by omega) _ fun H => ?_
  simp (maxSteps := 4000000) only [EV, EVF, XV, cond_true, cond_false, Bool.false_eq_true, Bool.true_eq_false, eq_self, normsOf, cutsOf, heapOf, quietOf, drawsOf, drawmOf, drawfOf, opnOf, coldOf, shutOf, iceOf, extOf, extOverlaps_eq, overB_eq, extCmp_eq, shpOf, Try.f9, ↓reduceIte, Nat.reduceAdd, Nat.reduceLT, Nat.reduceEqDiff, Nat.reduceLeDiff, Nat.succ_ne_zero, Nat.zero_ne_one, Nat.one_ne_zero, ne_eq, not_false_eq_true, true_and, and_true, Nat.reduceMul, Nat.reduceSub, Int.reduceToNat, Int.toNat_zero, Int.toNat_one, Nat.zero_mul, Nat.one_mul, Int.reduceLT, Int.reduceLE, Int.le_refl, Int.zero_lt_one, Int.toNat_natCast, List.take_length, Int.cast_ofNat_Int, Int.reduceAdd, Int.reduceSub, Int.reduceBEq, Int.reduceBNe, ge_iff_le, gt_iff_lt, decide_true, decide_false, Int.lt_irrefl, Nat.zero_add, Nat.add_zero]
  rcases pp with p1 | ⟨a, p1, p2, p3, ⟨q1, q2⟩ | ⟨q1, q2, ⟨s1, s2⟩ | ⟨s1, i, y, z, s2, s3, s4, s5, s6, s7, s8, s9, s10, s11⟩⟩⟩
  · subst p1
    simp only [opPut, opv, faultS, rpv, List.map_nil, txt1] at d1
    refine d1 m (by omega) _ fun H => ?_
    simp (maxSteps := 4000000) only [EV, EVF, XV, cond_true, cond_false, Bool.false_eq_true, Bool.true_eq_false, eq_self, normsOf, cutsOf, heapOf, quietOf, drawsOf, drawmOf, drawfOf, opnOf, coldOf, shutOf, iceOf, extOf, extOverlaps_eq, overB_eq, extCmp_eq, shpOf, Try.f9, ↓reduceIte, Nat.reduceAdd, Nat.reduceLT, Nat.reduceEqDiff, Nat.reduceLeDiff, Nat.succ_ne_zero, Nat.zero_ne_one, Nat.one_ne_zero, ne_eq, not_false_eq_true, true_and, and_true, Nat.reduceMul, Nat.reduceSub, Int.reduceToNat, Int.toNat_zero, Int.toNat_one, Nat.zero_mul, Nat.one_mul, Int.reduceLT, Int.reduceLE, Int.le_refl, Int.zero_lt_one, Int.toNat_natCast, List.take_length, Int.cast_ofNat_Int, Int.reduceAdd, Int.reduceSub, Int.reduceBEq, Int.reduceBNe, ge_iff_le, gt_iff_lt, decide_true, decide_false, Int.lt_irrefl, Nat.zero_add, Nat.add_zero]
  · subst p1 q1
    simp only [opPut, opMark, opv, faultS, rpv, List.map_nil, txt1, txt2, txtN] at d1 d2
    refine d1 m (by omega) _ fun H => ?_
    simp (maxSteps := 4000000) only [EV, EVF, XV, cond_true, cond_false, Bool.false_eq_true, Bool.true_eq_false, eq_self, normsOf, cutsOf, heapOf, quietOf, drawsOf, drawmOf, drawfOf, opnOf, coldOf, shutOf, iceOf, extOf, extOverlaps_eq, overB_eq, extCmp_eq, shpOf, Try.f9, ↓reduceIte, Nat.reduceAdd, Nat.reduceLT, Nat.reduceEqDiff, Nat.reduceLeDiff, Nat.succ_ne_zero, Nat.zero_ne_one, Nat.one_ne_zero, ne_eq, not_false_eq_true, true_and, and_true, Nat.reduceMul, Nat.reduceSub, Int.reduceToNat, Int.toNat_zero, Int.toNat_one, Nat.zero_mul, Nat.one_mul, Int.reduceLT, Int.reduceLE, Int.le_refl, Int.zero_lt_one, Int.toNat_natCast, List.take_length, Int.cast_ofNat_Int, Int.reduceAdd, Int.reduceSub, Int.reduceBEq, Int.reduceBNe, ge_iff_le, gt_iff_lt, decide_true, decide_false, Int.lt_irrefl, Nat.zero_add, Nat.add_zero]
    refine hp m (by omega) _ _ (by decide) _ ?_
    rw [hl]
    simp (maxSteps := 4000000) only [EV, EVF, XV, cond_true, cond_false, Bool.false_eq_true, Bool.true_eq_false, eq_self, normsOf, cutsOf, heapOf, quietOf, drawsOf, drawmOf, drawfOf, opnOf, coldOf, shutOf, iceOf, extOf, extOverlaps_eq, overB_eq, extCmp_eq, shpOf, Try.f9, ↓reduceIte, Nat.reduceAdd, Nat.reduceLT, Nat.reduceEqDiff, Nat.reduceLeDiff, Nat.succ_ne_zero, Nat.zero_ne_one, Nat.one_ne_zero, ne_eq, not_false_eq_true, true_and, and_true, Nat.reduceMul, Nat.reduceSub, Int.reduceToNat, Int.toNat_zero, Int.toNat_one, Nat.zero_mul, Nat.one_mul, Int.reduceLT, Int.reduceLE, Int.le_refl, Int.zero_lt_one, Int.toNat_natCast, List.take_length, Int.cast_ofNat_Int, Int.reduceAdd, Int.reduceSub, Int.reduceBEq, Int.reduceBNe, ge_iff_le, gt_iff_lt, decide_true, decide_false, Int.lt_irrefl, Nat.zero_add, Nat.add_zero]
    refine d2 m (by omega) _ fun H => ?_
    simp (maxSteps := 4000000) only [EV, EVF, XV, cond_true, cond_false, Bool.false_eq_true, Bool.true_eq_false, eq_self, normsOf, cutsOf, heapOf, quietOf, drawsOf, drawmOf, drawfOf, opnOf, coldOf, shutOf, iceOf, extOf, extOverlaps_eq, overB_eq, extCmp_eq, shpOf, Try.f9, ↓reduceIte, Nat.reduceAdd, Nat.reduceLT, Nat.reduceEqDiff, Nat.reduceLeDiff, Nat.succ_ne_zero, Nat.zero_ne_one, Nat.one_ne_zero, ne_eq, not_false_eq_true, true_and, and_true, Nat.reduceMul, Nat.reduceSub, Int.reduceToNat, Int.toNat_zero, Int.toNat_one, Nat.zero_mul, Nat.one_mul, Int.reduceLT, Int.reduceLE, Int.le_refl, Int.zero_lt_one, Int.toNat_natCast, List.take_length, Int.cast_ofNat_Int, Int.reduceAdd, Int.reduceSub, Int.reduceBEq, Int.reduceBNe, ge_iff_le, gt_iff_lt, decide_true, decide_false, Int.lt_irrefl, Nat.zero_add, Nat.add_zero, show (a == 9007199254740992) = true by simpa using q2]
  · subst p1 q1 s1
    simp only [opPut, opMark, opv, faultS, rpv, List.map_nil, txt1, txt2, txtN] at d1 d2 d3
    refine d1 m (by omega) _ fun H => ?_
    simp (maxSteps := 4000000) only [EV, EVF, XV, cond_true, cond_false, Bool.false_eq_true, Bool.true_eq_false, eq_self, normsOf, cutsOf, heapOf, quietOf, drawsOf, drawmOf, drawfOf, opnOf, coldOf, shutOf, iceOf, extOf, extOverlaps_eq, overB_eq, extCmp_eq, shpOf, Try.f9, ↓reduceIte, Nat.reduceAdd, Nat.reduceLT, Nat.reduceEqDiff, Nat.reduceLeDiff, Nat.succ_ne_zero, Nat.zero_ne_one, Nat.one_ne_zero, ne_eq, not_false_eq_true, true_and, and_true, Nat.reduceMul, Nat.reduceSub, Int.reduceToNat, Int.toNat_zero, Int.toNat_one, Nat.zero_mul, Nat.one_mul, Int.reduceLT, Int.reduceLE, Int.le_refl, Int.zero_lt_one, Int.toNat_natCast, List.take_length, Int.cast_ofNat_Int, Int.reduceAdd, Int.reduceSub, Int.reduceBEq, Int.reduceBNe, ge_iff_le, gt_iff_lt, decide_true, decide_false, Int.lt_irrefl, Nat.zero_add, Nat.add_zero]
    refine hp m (by omega) _ _ (by decide) _ ?_
    rw [hl]
    simp (maxSteps := 4000000) only [EV, EVF, XV, cond_true, cond_false, Bool.false_eq_true, Bool.true_eq_false, eq_self, normsOf, cutsOf, heapOf, quietOf, drawsOf, drawmOf, drawfOf, opnOf, coldOf, shutOf, iceOf, extOf, extOverlaps_eq, overB_eq, extCmp_eq, shpOf, Try.f9, ↓reduceIte, Nat.reduceAdd, Nat.reduceLT, Nat.reduceEqDiff, Nat.reduceLeDiff, Nat.succ_ne_zero, Nat.zero_ne_one, Nat.one_ne_zero, ne_eq, not_false_eq_true, true_and, and_true, Nat.reduceMul, Nat.reduceSub, Int.reduceToNat, Int.toNat_zero, Int.toNat_one, Nat.zero_mul, Nat.one_mul, Int.reduceLT, Int.reduceLE, Int.le_refl, Int.zero_lt_one, Int.toNat_natCast, List.take_length, Int.cast_ofNat_Int, Int.reduceAdd, Int.reduceSub, Int.reduceBEq, Int.reduceBNe, ge_iff_le, gt_iff_lt, decide_true, decide_false, Int.lt_irrefl, Nat.zero_add, Nat.add_zero]
    refine d2 m (by omega) _ fun H => ?_
    simp (maxSteps := 4000000) only [EV, EVF, XV, cond_true, cond_false, Bool.false_eq_true, Bool.true_eq_false, eq_self, normsOf, cutsOf, heapOf, quietOf, drawsOf, drawmOf, drawfOf, opnOf, coldOf, shutOf, iceOf, extOf, extOverlaps_eq, overB_eq, extCmp_eq, shpOf, Try.f9, ↓reduceIte, Nat.reduceAdd, Nat.reduceLT, Nat.reduceEqDiff, Nat.reduceLeDiff, Nat.succ_ne_zero, Nat.zero_ne_one, Nat.one_ne_zero, ne_eq, not_false_eq_true, true_and, and_true, Nat.reduceMul, Nat.reduceSub, Int.reduceToNat, Int.toNat_zero, Int.toNat_one, Nat.zero_mul, Nat.one_mul, Int.reduceLT, Int.reduceLE, Int.le_refl, Int.zero_lt_one, Int.toNat_natCast, List.take_length, Int.cast_ofNat_Int, Int.reduceAdd, Int.reduceSub, Int.reduceBEq, Int.reduceBNe, ge_iff_le, gt_iff_lt, decide_true, decide_false, Int.lt_irrefl, Nat.zero_add, Nat.add_zero]
    refine d3 m (by omega) _ fun H => ?_
    simp (maxSteps := 4000000) only [EV, EVF, XV, cond_true, cond_false, Bool.false_eq_true, Bool.true_eq_false, eq_self, normsOf, cutsOf, heapOf, quietOf, drawsOf, drawmOf, drawfOf, opnOf, coldOf, shutOf, iceOf, extOf, extOverlaps_eq, overB_eq, extCmp_eq, shpOf, Try.f9, ↓reduceIte, Nat.reduceAdd, Nat.reduceLT, Nat.reduceEqDiff, Nat.reduceLeDiff, Nat.succ_ne_zero, Nat.zero_ne_one, Nat.one_ne_zero, ne_eq, not_false_eq_true, true_and, and_true, Nat.reduceMul, Nat.reduceSub, Int.reduceToNat, Int.toNat_zero, Int.toNat_one, Nat.zero_mul, Nat.one_mul, Int.reduceLT, Int.reduceLE, Int.le_refl, Int.zero_lt_one, Int.toNat_natCast, List.take_length, Int.cast_ofNat_Int, Int.reduceAdd, Int.reduceSub, Int.reduceBEq, Int.reduceBNe, ge_iff_le, gt_iff_lt, decide_true, decide_false, Int.lt_irrefl, Nat.zero_add, Nat.add_zero, show (a + 1 == 9007199254740992) = true by simpa using s2]
  · subst p1 q1 s1
    simp only at s2 s3 s10 s11 vR
    simp only [opPut, opMark, opv, faultS, rpv, List.map_nil, txt1, txt2, txtN] at d1 d2 d3
    refine d1 m (by omega) _ fun H => ?_
    simp (maxSteps := 4000000) only [EV, EVF, XV, cond_true, cond_false, Bool.false_eq_true, Bool.true_eq_false, eq_self, normsOf, cutsOf, heapOf, quietOf, drawsOf, drawmOf, drawfOf, opnOf, coldOf, shutOf, iceOf, extOf, extOverlaps_eq, overB_eq, extCmp_eq, shpOf, Try.f9, ↓reduceIte, Nat.reduceAdd, Nat.reduceLT, Nat.reduceEqDiff, Nat.reduceLeDiff, Nat.succ_ne_zero, Nat.zero_ne_one, Nat.one_ne_zero, ne_eq, not_false_eq_true, true_and, and_true, Nat.reduceMul, Nat.reduceSub, Int.reduceToNat, Int.toNat_zero, Int.toNat_one, Nat.zero_mul, Nat.one_mul, Int.reduceLT, Int.reduceLE, Int.le_refl, Int.zero_lt_one, Int.toNat_natCast, List.take_length, Int.cast_ofNat_Int, Int.reduceAdd, Int.reduceSub, Int.reduceBEq, Int.reduceBNe, ge_iff_le, gt_iff_lt, decide_true, decide_false, Int.lt_irrefl, Nat.zero_add, Nat.add_zero]
    refine hp m (by omega) _ _ (by decide) _ ?_
    rw [hl]
    simp (maxSteps := 4000000) only [EV, EVF, XV, cond_true, cond_false, Bool.false_eq_true, Bool.true_eq_false, eq_self, normsOf, cutsOf, heapOf, quietOf, drawsOf, drawmOf, drawfOf, opnOf, coldOf, shutOf, iceOf, extOf, extOverlaps_eq, overB_eq, extCmp_eq, shpOf, Try.f9, ↓reduceIte, Nat.reduceAdd, Nat.reduceLT, Nat.reduceEqDiff, Nat.reduceLeDiff, Nat.succ_ne_zero, Nat.zero_ne_one, Nat.one_ne_zero, ne_eq, not_false_eq_true, true_and, and_true, Nat.reduceMul, Nat.reduceSub, Int.reduceToNat, Int.toNat_zero, Int.toNat_one, Nat.zero_mul, Nat.one_mul, Int.reduceLT, Int.reduceLE, Int.le_refl, Int.zero_lt_one, Int.toNat_natCast, List.take_length, Int.cast_ofNat_Int, Int.reduceAdd, Int.reduceSub, Int.reduceBEq, Int.reduceBNe, ge_iff_le, gt_iff_lt, decide_true, decide_false, Int.lt_irrefl, Nat.zero_add, Nat.add_zero]
    refine d2 m (by omega) _ fun H => ?_
    simp (maxSteps := 4000000) only [EV, EVF, XV, cond_true, cond_false, Bool.false_eq_true, Bool.true_eq_false, eq_self, normsOf, cutsOf, heapOf, quietOf, drawsOf, drawmOf, drawfOf, opnOf, coldOf, shutOf, iceOf, extOf, extOverlaps_eq, overB_eq, extCmp_eq, shpOf, Try.f9, ↓reduceIte, Nat.reduceAdd, Nat.reduceLT, Nat.reduceEqDiff, Nat.reduceLeDiff, Nat.succ_ne_zero, Nat.zero_ne_one, Nat.one_ne_zero, ne_eq, not_false_eq_true, true_and, and_true, Nat.reduceMul, Nat.reduceSub, Int.reduceToNat, Int.toNat_zero, Int.toNat_one, Nat.zero_mul, Nat.one_mul, Int.reduceLT, Int.reduceLE, Int.le_refl, Int.zero_lt_one, Int.toNat_natCast, List.take_length, Int.cast_ofNat_Int, Int.reduceAdd, Int.reduceSub, Int.reduceBEq, Int.reduceBNe, ge_iff_le, gt_iff_lt, decide_true, decide_false, Int.lt_irrefl, Nat.zero_add, Nat.add_zero]
    refine d3 m (by omega) _ fun H => ?_
    simp (maxSteps := 4000000) only [EV, EVF, XV, cond_true, cond_false, Bool.false_eq_true, Bool.true_eq_false, eq_self, normsOf, cutsOf, heapOf, quietOf, drawsOf, drawmOf, drawfOf, opnOf, coldOf, shutOf, iceOf, extOf, extOverlaps_eq, overB_eq, extCmp_eq, shpOf, Try.f9, ↓reduceIte, Nat.reduceAdd, Nat.reduceLT, Nat.reduceEqDiff, Nat.reduceLeDiff, Nat.succ_ne_zero, Nat.zero_ne_one, Nat.one_ne_zero, ne_eq, not_false_eq_true, true_and, and_true, Nat.reduceMul, Nat.reduceSub, Int.reduceToNat, Int.toNat_zero, Int.toNat_one, Nat.zero_mul, Nat.one_mul, Int.reduceLT, Int.reduceLE, Int.le_refl, Int.zero_lt_one, Int.toNat_natCast, List.take_length, Int.cast_ofNat_Int, Int.reduceAdd, Int.reduceSub, Int.reduceBEq, Int.reduceBNe, ge_iff_le, gt_iff_lt, decide_true, decide_false, Int.lt_irrefl, Nat.zero_add, Nat.add_zero]
    have hvl := (tabR_iff.1 vR).2.2
    have hi : i < vt.length := (List.getElem?_eq_some_iff.1 s3).1
    refine loop_at (fun j : Nat => ⟨[(2, .v (.int .i64 life)), (7, .v (.bool true)), (8, .v (.string (mk k))), (10, .ptr 0 0), (11, .lst 6 (mt.map rcv)), (13, .lst 6 (vt.map rcv)), (15, .v (.int .i64 j))], [some (.var 37 [.v (.int .i64 0), .v (.int .i64 a), .v (.string (mk [])), .lst 1 []])]⟩) (fun j => j ≤ i) (fun j => i - j) 0 (by omega) rfl ?_
    intro j hj
    have hjv : j < vt.length := by omega
    obtain ⟨d, hf, hd⟩ := drop_at hjv
    have hf' : (vt.map rcv)[j]? = some [.v (.string (mk d.key)), .v (.string (mk d.value)), .v (.int .i64 d.rev), .v (.int .i64 d.life), .v (.string (mk d.note)), .lst 2 (d.extra.map fv)] := map_at (f := rcv) hf
    have u1 : ((j : Int) < (vt.length : Int)) = True := eq_true (by omega)
    have u2 : ((j : Int) < (mt.length : Int)) = True := eq_true (by omega)
    have w1 : IntKind.i64.wrap ((j : Int) + 1) = ((j + 1 : Nat) : Int) := by rw [wrap64 (by omega) (by omega)]; omega
    have w2 : IntKind.i64.wrap (a + 2) = a + 2 := wrap64 (by omega) (by omega)
    by_cases hdk : d.key = k
    · have hji : j = i := rise_inj s10 hf s3 (by rw [hdk, s9])
      subst hji
      rw [s3] at hf
      simp only [Option.some.injEq] at hf
      subst hf
      have hm' : (mt.map rcv)[j]? = some [.v (.string (mk y.key)), .v (.string (mk y.value)), .v (.int .i64 y.rev), .v (.int .i64 y.life), .v (.string (mk y.note)), .lst 2 (y.extra.map fv)] := map_at (f := rcv) s2
      rw [s4] at hm'
      rw [s5, s6, s7, s8] at hf'
      unfold txt1 at hm'
      unfold txt2 txtN at hf'
      simp (maxSteps := 4000000) only [EV, EVF, XV, cond_true, cond_false, Bool.false_eq_true, Bool.true_eq_false, eq_self, normsOf, cutsOf, heapOf, quietOf, drawsOf, drawmOf, drawfOf, opnOf, coldOf, shutOf, iceOf, extOf, extOverlaps_eq, overB_eq, extCmp_eq, shpOf, Try.f9, ↓reduceIte, Nat.reduceAdd, Nat.reduceLT, Nat.reduceEqDiff, Nat.reduceLeDiff, Nat.succ_ne_zero, Nat.zero_ne_one, Nat.one_ne_zero, ne_eq, not_false_eq_true, true_and, and_true, Nat.reduceMul, Nat.reduceSub, Int.reduceToNat, Int.toNat_zero, Int.toNat_one, Nat.zero_mul, Nat.one_mul, Int.reduceLT, Int.reduceLE, Int.le_refl, Int.zero_lt_one, Int.toNat_natCast, List.take_length, Int.cast_ofNat_Int, Int.reduceAdd, Int.reduceSub, Int.reduceBEq, Int.reduceBNe, ge_iff_le, gt_iff_lt, decide_true, decide_false, Int.lt_irrefl, Nat.zero_add, Nat.add_zero, u1, u2, hf', decide_eq_true hdk]
      refine hp m (by omega) _ _ (by decide) _ ?_
      rw [hl]
      simp (maxSteps := 4000000) only [EV, EVF, XV, cond_true, cond_false, Bool.false_eq_true, Bool.true_eq_false, eq_self, normsOf, cutsOf, heapOf, quietOf, drawsOf, drawmOf, drawfOf, opnOf, coldOf, shutOf, iceOf, extOf, extOverlaps_eq, overB_eq, extCmp_eq, shpOf, Try.f9, ↓reduceIte, Nat.reduceAdd, Nat.reduceLT, Nat.reduceEqDiff, Nat.reduceLeDiff, Nat.succ_ne_zero, Nat.zero_ne_one, Nat.one_ne_zero, ne_eq, not_false_eq_true, true_and, and_true, Nat.reduceMul, Nat.reduceSub, Int.reduceToNat, Int.toNat_zero, Int.toNat_one, Nat.zero_mul, Nat.one_mul, Int.reduceLT, Int.reduceLE, Int.le_refl, Int.zero_lt_one, Int.toNat_natCast, List.take_length, Int.cast_ofNat_Int, Int.reduceAdd, Int.reduceSub, Int.reduceBEq, Int.reduceBNe, ge_iff_le, gt_iff_lt, decide_true, decide_false, Int.lt_irrefl, Nat.zero_add, Nat.add_zero, u1, u2, hf', hm', w2, decide_true, beq_self_eq_true]
    · have hne : j ≠ i := fun hc => by
        subst hc
        rw [s3] at hf
        simp only [Option.some.injEq] at hf
        exact hdk (by rw [← hf, s9])
      simp (maxSteps := 4000000) only [EV, EVF, XV, cond_true, cond_false, Bool.false_eq_true, Bool.true_eq_false, eq_self, normsOf, cutsOf, heapOf, quietOf, drawsOf, drawmOf, drawfOf, opnOf, coldOf, shutOf, iceOf, extOf, extOverlaps_eq, overB_eq, extCmp_eq, shpOf, Try.f9, ↓reduceIte, Nat.reduceAdd, Nat.reduceLT, Nat.reduceEqDiff, Nat.reduceLeDiff, Nat.succ_ne_zero, Nat.zero_ne_one, Nat.one_ne_zero, ne_eq, not_false_eq_true, true_and, and_true, Nat.reduceMul, Nat.reduceSub, Int.reduceToNat, Int.toNat_zero, Int.toNat_one, Nat.zero_mul, Nat.one_mul, Int.reduceLT, Int.reduceLE, Int.le_refl, Int.zero_lt_one, Int.toNat_natCast, List.take_length, Int.cast_ofNat_Int, Int.reduceAdd, Int.reduceSub, Int.reduceBEq, Int.reduceBNe, ge_iff_le, gt_iff_lt, decide_true, decide_false, Int.lt_irrefl, Nat.zero_add, Nat.add_zero, u1, hf', decide_eq_false hdk, w1]
      exact ⟨j + 1, by omega, by omega, rfl⟩
end Go.Ai

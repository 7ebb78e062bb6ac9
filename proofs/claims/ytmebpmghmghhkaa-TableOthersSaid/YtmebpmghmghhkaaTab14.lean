/- careenlaw12.Table, walked. -/
import Derived.Test.YtmebpmghmghhkaaTab13
import Derived.Test.YtmebpmghmghhkaaTab8
import Derived.Test.YtmebpmghmghhkaaTabQ
set_option linter.unusedVariables false
set_option linter.unusedSimpArgs false
set_option maxRecDepth 100000
set_option maxHeartbeats 4000000
namespace Go.Ai
open Go.Proofs
structure R5 where
  a : Int
  b : Int
  c : Int
  d : Int
  e : Int
def r5w (r : R5) : List AV := [.v (.int .i64 r.a), .v (.int .i64 r.b), .v (.int .i64 r.c), .v (.int .i64 r.d), .v (.int .i64 r.e)]
def r5k (r : R5) : Prop := i64ok r.a ∧ i64ok r.b ∧ i64ok r.c ∧ i64ok r.d ∧ i64ok r.e
def opR (r : R5) : Opr := opS r.a r.b r.c r.d r.e
/-- Ops, one after the other. -/
def runS : List Rec → List R5 → List Rec
  | t, [] => t
  | t, r :: l => runS (doS t (opR r)).t l
def carried : List UInt8 := [99, 97, 114, 114, 105, 101, 100]
/-- What some of the records carry. -/
def extS (big : Bool) (i : Nat) (r : Rec) : Rec :=
  { r with extra := if i % 3 = 1 then [((9 + i : Nat), carried)] else r.extra, rev := if i % 5 = 4 ∧ big = true then 9007199254740992 else r.rev }
def extG (big : Bool) : Nat → List Rec → List Rec
  | _, [] => []
  | i, r :: t => extS big i r :: extG big (i + 1) t
def tableS (raw : List R5) : List Rec := extG (decide (7 < raw.length)) 0 (runS [] (raw.take 40))
theorem run_snoc {r : R5} : ∀ {l : List R5} {t : List Rec}, runS t (l ++ [r]) = (doS (runS t l) (opR r)).t
  | [], _ => rfl
  | x :: l, t => by
    rw [List.cons_append]
    exact run_snoc (l := l)
theorem op_ok {r : R5} (h : r5k r) : checkS 2 (opR r) = 0 := by
  obtain ⟨ha, hb, hc, hd, he⟩ := h
  have p0 := pickN_bd ha.1 ha.2 (show (0 : Int) < 6 by omega)
  have p3 := pickN_bd hd.1 hd.2 (show (0 : Int) < 4 by omega)
  have c4 := pickN_bd hc.1 hc.2 (show (0 : Int) < 4 by omega)
  have c50 := pickN_bd hc.1 hc.2 (show (0 : Int) < 50 by omega)
  have e3 := pickN_bd he.1 he.2 (show (0 : Int) < 3 by omega)
  obtain ⟨u, v, hu, hv, _, _, hkey⟩ := key_uv hb
  have kl : 1 ≤ (keyS r.b).length ∧ (keyS r.b).length ≤ 5 := by
    rw [hkey]
    unfold keyN
    have h1 := keyA_ne hu
    have h2 := keyB_len hv
    have h3 : 0 < (keyA.getD u []).length := List.length_pos_iff.2 h1.1
    rw [List.length_append]
    omega
  have kne : keyS r.b ≠ [] := fun hc => by
    rw [hc] at kl
    simp at kl
  have small : ∀ (l : List (List UInt8)) (n : Nat), (∀ x ∈ l, x.length ≤ 5) → (l.getD n []).length ≤ 5 := fun l n h => by
    rw [List.getD_eq_getElem?_getD]
    cases hx : l[n]? with
    | none => simp
    | some x => exact h x (List.mem_of_getElem? hx)
  have sv := small valA (pickN r.c 4).toNat (by decide)
  have sn := small noteA (pickN r.e 3).toNat (by decide)
  have st := small toA (pickN r.c 4).toNat (by decide)
  unfold checkS opR opS opK
  simp only
  have hk : 1 ≤ 1 + pickN r.a 6 ∧ 1 + pickN r.a 6 ≤ 6 := by omega
  generalize 1 + pickN r.a 6 = k at *
  rw [if_neg, if_neg, if_neg]
  · simp
  · unfold numP
    rintro (h | h | h | h | h | h)
    · split at h
      · simp at h
      · omega
    · split at h
      · omega
      · simp at h
    · split at h
      · omega
      · simp at h
    · split at h
      · omega
      · simp at h
    · omega
    · split at h
      · omega
      · omega
  · rintro (h | h | h | ⟨h1, h2⟩)
    · exact h (by simp)
    · omega
    · omega
    · split at h1
      · rename_i hc
        exact h2 hc.1
      · exact kne h1
/-- A table of raw ops may be, and carries nothing. -/
def okR (t : List Rec) : Prop := tabR t = true ∧ ∀ r ∈ t, r.extra = []
theorem do_any {t : List Rec} {o : Opr} (ht : tabR t = true) : tabR (doS t o).t = true := by
  by_cases ho : checkS 2 o = 0
  · by_cases hk : o.kind = 6
    · unfold doS
      rw [if_pos ⟨ht, ho⟩]
      unfold stepS
      simp [hk, ht]
    · exact (do_cell ht ho hk).2.2
  · unfold doS
    rw [if_neg (fun hc => ho hc.2)]
    exact ht
theorem do_extra {t : List Rec} {o : Opr} (ht : ∀ r ∈ t, r.extra = []) : ∀ r ∈ (doS t o).t, r.extra = [] := by
  have put : ∀ i h, ∀ r ∈ (putS t o i h).t, r.extra = [] := by
    intro i h r hr
    unfold putS changeS at hr
    split at hr
    · split at hr
      · exact ht r hr
      · rename_i x hx
        split at hr
        · exact ht r hr
        · rcases List.mem_or_eq_of_mem_set hr with hr | rfl
          · exact ht r hr
          · exact ht x (List.mem_of_getElem? hx)
    · split at hr
      · exact ht r hr
      · rcases List.mem_append.1 hr with hr | hr
        · exact ht r (List.mem_of_mem_take hr)
        · rcases List.mem_cons.1 hr with rfl | hr
          · rfl
          · exact ht r (List.mem_of_mem_drop hr)
  intro r hr
  unfold doS at hr
  split at hr
  · unfold stepS at hr
    split at hr
    · split at hr <;> exact ht r hr
    split at hr
    · exact put _ _ r hr
    split at hr
    · split at hr
      · rcases List.mem_append.1 hr with hr | hr
        · exact ht r (List.mem_of_mem_take hr)
        · exact ht r (List.mem_of_mem_drop hr)
      · exact ht r hr
    split at hr
    · split at hr
      · exact put _ _ r hr
      · exact ht r hr
    split at hr
    · split at hr
      · unfold changeS at hr
        split at hr
        · exact ht r hr
        · rename_i x hx
          split at hr
          · exact ht r hr
          · rcases List.mem_or_eq_of_mem_set hr with hr | rfl
            · exact ht r hr
            · exact ht x (List.mem_of_getElem? hx)
      · exact ht r hr
    · exact ht r hr
  · exact ht r hr
theorem run_ok : ∀ {l : List R5} {t : List Rec}, okR t → okR (runS t l)
  | [], _, h => h
  | r :: l, t, h => run_ok (l := l) ⟨do_any h.1, do_extra h.2⟩
theorem okR_nil : okR [] := ⟨rfl, by simp⟩
theorem okR_T {t : List Rec} (h : okR t) : okT t := by
  have h1 := (tabR_iff.1 h.1).2.2
  exact ⟨by omega, fun r hr => by rw [h.2 r hr]; simp⟩
theorem extG_len {big : Bool} : ∀ {t : List Rec} {i : Nat}, (extG big i t).length = t.length
  | [], _ => rfl
  | r :: t, i => by
    unfold extG
    rw [List.length_cons, extG_len, List.length_cons]
theorem extG_at {big : Bool} : ∀ {t : List Rec} {i j : Nat}, (extG big i t)[j]? = (t[j]?).map (extS big (i + j))
  | [], _, _ => by simp [extG]
  | r :: t, i, 0 => rfl
  | r :: t, i, j + 1 => by
    unfold extG
    rw [List.getElem?_cons_succ, extG_at, List.getElem?_cons_succ, show i + 1 + j = i + (j + 1) by omega]
theorem extG_snoc {big : Bool} {r : Rec} : ∀ {t : List Rec} {i : Nat}, extG big i (t ++ [r]) = extG big i t ++ [extS big (i + t.length) r]
  | [], _ => rfl
  | x :: t, i => by
    rw [List.cons_append]
    unfold extG
    rw [extG_snoc, List.cons_append, List.length_cons, show i + 1 + t.length = i + (t.length + 1) by omega]
/-- The first k told, the others as they were. -/
def tab2 (big : Bool) (t : List Rec) (k : Nat) : List Rec := extG big 0 (t.take k) ++ t.drop k
def runSt (raw : List R5) (k : Nat) (t ex : List Rec) (nl : Bool) : St := match nl with
  | true => ⟨[(0, .lst 5 (raw.map r5w)), (3, .v (.slice none 0 0)), (4, .v (.int .i64 k))], []⟩
  | false => ⟨[(0, .lst 5 (raw.map r5w)), (3, .row 0 6 0 t.length), (4, .v (.int .i64 k))], [some (.row 47 6 ((t ++ ex).map rcv))]⟩
theorem runSt_nl {raw : List R5} {k : Nat} {t ex : List Rec} : runSt raw k t ex true = ⟨[(0, .lst 5 (raw.map r5w)), (3, .v (.slice none 0 0)), (4, .v (.int .i64 k))], []⟩ := rfl
theorem runSt_row {raw : List R5} {k : Nat} {t ex : List Rec} : runSt raw k t ex false = ⟨[(0, .lst 5 (raw.map r5w)), (3, .row 0 6 0 t.length), (4, .v (.int .i64 k))], [some (.row 47 6 ((t ++ ex).map rcv))]⟩ := rfl
theorem tab2_at {big : Bool} {t : List Rec} {j : Nat} {r : Rec} (h : t[j]? = some r) {ex : List Rec} : ((tab2 big t j ++ ex).map rcv)[j]? = some (rcv r) := by
  have hj := (List.getElem?_eq_some_iff.1 h).1
  have e1 : (extG big 0 (t.take j)).length = j := by rw [extG_len, List.length_take]; omega
  apply map_at
  unfold tab2
  rw [List.append_assoc, List.getElem?_append_right (by omega), e1, Nat.sub_self]
  obtain ⟨h1, h2⟩ := List.getElem?_eq_some_iff.1 h
  rw [← h2, ← List.getElem_cons_drop]
  rfl
theorem tab2_set {big : Bool} {t : List Rec} {j : Nat} {r : Rec} (h : t[j]? = some r) {ex : List Rec} : ((tab2 big t j ++ ex).map rcv).set j (rcv (extS big j r)) = (tab2 big t (j + 1) ++ ex).map rcv := by
  have hj := (List.getElem?_eq_some_iff.1 h).1
  have e1 : (extG big 0 (t.take j)).length = j := by rw [extG_len, List.length_take]; omega
  rw [← List.map_set]
  congr 1
  unfold tab2
  rw [take_snoc' h, extG_snoc, Nat.zero_add, List.length_take, Nat.min_eq_left (by omega), List.append_assoc, List.append_assoc, List.append_assoc, List.set_append_right _ _ (by omega), e1, Nat.sub_self]
  obtain ⟨h1, h2⟩ := List.getElem?_eq_some_iff.1 h
  conv => lhs; rw [← List.getElem_cons_drop h1]
  rfl
theorem set_idR {xs : List (List AV)} {k : Nat} {x : List AV} (h : xs[k]? = some x) : xs.set k x = xs := by
  obtain ⟨h1, h2⟩ := List.getElem?_eq_some_iff.1 h
  rw [← h2, List.set_getElem_self]
theorem tab2_same {big : Bool} {t : List Rec} {j : Nat} {r : Rec} (h : t[j]? = some r) (hs : extS big j r = r) {ex : List Rec} : (tab2 big t j ++ ex).map rcv = (tab2 big t (j + 1) ++ ex).map rcv := by
  rw [← tab2_set h, hs, set_idR (tab2_at h)]
theorem table_w (m : Nat) (hm : 6 ≤ m) (raw : List R5) (hl : raw.length ≤ 9223372036854775807) (hr : ∀ r ∈ raw, r5k r) (K : AV → Hp → Prop) (hK : ∀ H, K (.lst 6 ((tableS raw).map rcv)) H) : wpF C m 15 [.lst 5 (raw.map r5w)] [] K := by
  obtain ⟨m, rfl⟩ : ∃ j, m = j + 1 := ⟨m - 1, by omega⟩; simp only [wpF, bodyA, fn_15, C_P, ok_15, C_prim, primOf, true_and]; simp (maxSteps := 4000000) only [EV, EVF, XV, cond_true, cond_false, Bool.false_eq_true, Bool.true_eq_false, eq_self, normsOf, cutsOf, heapOf, quietOf, drawsOf, drawmOf, drawfOf, opnOf, coldOf, shutOf, iceOf, extOf, extOverlaps_eq, overB_eq, extCmp_eq, shpOf, Try.f15, ↓reduceIte, Nat.reduceAdd, Nat.reduceLT, Nat.reduceEqDiff, Nat.reduceLeDiff, Nat.succ_ne_zero, Nat.zero_ne_one, Nat.one_ne_zero, ne_eq, not_false_eq_true, true_and, and_true, Nat.reduceMul, Nat.reduceSub, Int.reduceToNat, Int.toNat_zero, Int.toNat_one, Nat.zero_mul, Nat.one_mul, Int.reduceLT, Int.reduceLE, Int.le_refl, Int.zero_lt_one, Int.toNat_natCast, List.take_length, Int.cast_ofNat_Int, Int.reduceAdd, Int.reduceSub, Int.reduceBEq, Int.reduceBNe, ge_iff_le, gt_iff_lt, decide_true, decide_false, Int.lt_irrefl, Nat.zero_add, Nat.add_zero]
  refine loop_at (fun p : Nat × List Rec × Bool => runSt raw p.1 (runS [] (raw.take p.1)) p.2.1 p.2.2) (fun p => p.1 ≤ raw.length ∧ p.1 ≤ 40 ∧ (p.2.2 = true → runS [] (raw.take p.1) = [])) (fun p => 40 - p.1) (0, [], true) ⟨by simp, by simp, by simp [runS]⟩ rfl ?_
  rintro ⟨k, ex, nl⟩ ⟨h1, h2, h3⟩
  simp only at h1 h2 h3 ⊢
  by_cases hk : k < raw.length ∧ k < 40
  · obtain ⟨d, hf, hd⟩ := drop_at hk.1
    have hf' := map_at (f := r5w) hf
    have hk1 : ((k : Int) < raw.length) = True := eq_true (by omega)
    have hk2 : ((k : Int) < 40) = True := eq_true (by omega)
    have w1 : IntKind.i64.wrap ((k : Int) + 1) = ((k + 1 : Nat) : Int) := by rw [wrap64 (by omega) (by omega)]; rfl
    have hrk := hr d (List.mem_of_getElem? hf)
    have hop := fun (m : Nat) (hm : 3 ≤ m) K => op_w m hm d.a d.b d.c d.d d.e hrk.1 hrk.2.1 hrk.2.2.1 hrk.2.2.2.1 hrk.2.2.2.2 K
    have hok := run_ok (l := raw.take k) okR_nil
    have hdo := fun (m : Nat) (hm : 5 ≤ m) K => rdo_w m hm (runS [] (raw.take k)) (okR_T hok) (opR d) K
    have hnext : runS [] (raw.take (k + 1)) = (doS (runS [] (raw.take k)) (opR d)).t := by
      rw [take_snoc' hf, run_snoc]
    rw [show opS d.a d.b d.c d.d d.e = opR d from rfl] at hop
    unfold r5v at hop
    generalize runS [] (raw.take k) = t at *
    generalize opR d = o at *
    unfold opv at hop hdo
    have fin0 : (doS t o).t = [] → ∃ a' : Nat × List Rec × Bool, (a'.1 ≤ raw.length ∧ a'.1 ≤ 40 ∧ (a'.2.2 = true → runS [] (raw.take a'.1) = [])) ∧ 40 - a'.1 < 40 - k ∧ (⟨[(0, .lst 5 (raw.map r5w)), (3, .v (.slice none 0 0)), (4, .v (.int .i64 ((k + 1 : Nat) : Int)))], []⟩ : St) = runSt raw a'.1 (runS [] (raw.take a'.1)) a'.2.1 a'.2.2 := fun h => ⟨(k + 1, [], true), ⟨by simp only; omega, by simp only; omega, fun _ => by simp only; rw [hnext, h]⟩, by simp only; omega, rfl⟩
    have fin1 : ∀ ex', ∃ a' : Nat × List Rec × Bool, (a'.1 ≤ raw.length ∧ a'.1 ≤ 40 ∧ (a'.2.2 = true → runS [] (raw.take a'.1) = [])) ∧ 40 - a'.1 < 40 - k ∧ (⟨[(0, .lst 5 (raw.map r5w)), (3, .row 0 6 0 (doS t o).t.length), (4, .v (.int .i64 ((k + 1 : Nat) : Int)))], [some (.row 47 6 (((doS t o).t ++ ex').map rcv))]⟩ : St) = runSt raw a'.1 (runS [] (raw.take a'.1)) a'.2.1 a'.2.2 := fun ex' => ⟨(k + 1, ex', false), ⟨by simp only; omega, by simp only; omega, by simp⟩, by simp only; omega, by simp only; rw [hnext]; rfl⟩
    cases nl
    · simp only [runSt_row]
      have htk : ((t ++ ex).map rcv).take t.length = t.map rcv := by rw [List.map_append, ← List.length_map (f := rcv), List.take_left]
      simp (maxSteps := 4000000) only [EV, EVF, XV, cond_true, cond_false, Bool.false_eq_true, Bool.true_eq_false, eq_self, normsOf, cutsOf, heapOf, quietOf, drawsOf, drawmOf, drawfOf, opnOf, coldOf, shutOf, iceOf, extOf, extOverlaps_eq, overB_eq, extCmp_eq, shpOf, Try.f15, ↓reduceIte, Nat.reduceAdd, Nat.reduceLT, Nat.reduceEqDiff, Nat.reduceLeDiff, Nat.succ_ne_zero, Nat.zero_ne_one, Nat.one_ne_zero, ne_eq, not_false_eq_true, true_and, and_true, Nat.reduceMul, Nat.reduceSub, Int.reduceToNat, Int.toNat_zero, Int.toNat_one, Nat.zero_mul, Nat.one_mul, Int.reduceLT, Int.reduceLE, Int.le_refl, Int.zero_lt_one, Int.toNat_natCast, List.take_length, Int.cast_ofNat_Int, Int.reduceAdd, Int.reduceSub, Int.reduceBEq, Int.reduceBNe, ge_iff_le, gt_iff_lt, decide_true, decide_false, Int.lt_irrefl, Nat.zero_add, Nat.add_zero, hk1, hk2, hf', r5w, w1]
      refine hop m (by omega) _ fun H => ?_
      simp (maxSteps := 4000000) only [EV, EVF, XV, cond_true, cond_false, Bool.false_eq_true, Bool.true_eq_false, eq_self, normsOf, cutsOf, heapOf, quietOf, drawsOf, drawmOf, drawfOf, opnOf, coldOf, shutOf, iceOf, extOf, extOverlaps_eq, overB_eq, extCmp_eq, shpOf, Try.f15, ↓reduceIte, Nat.reduceAdd, Nat.reduceLT, Nat.reduceEqDiff, Nat.reduceLeDiff, Nat.succ_ne_zero, Nat.zero_ne_one, Nat.one_ne_zero, ne_eq, not_false_eq_true, true_and, and_true, Nat.reduceMul, Nat.reduceSub, Int.reduceToNat, Int.toNat_zero, Int.toNat_one, Nat.zero_mul, Nat.one_mul, Int.reduceLT, Int.reduceLE, Int.le_refl, Int.zero_lt_one, Int.toNat_natCast, List.take_length, Int.cast_ofNat_Int, Int.reduceAdd, Int.reduceSub, Int.reduceBEq, Int.reduceBNe, ge_iff_le, gt_iff_lt, decide_true, decide_false, Int.lt_irrefl, Nat.zero_add, Nat.add_zero, htk]
      refine hdo m (by omega) _ (fun g1 g2 => ?_) (fun g ex' => ?_)
      · simp (maxSteps := 4000000) only [EV, EVF, XV, cond_true, cond_false, Bool.false_eq_true, Bool.true_eq_false, eq_self, normsOf, cutsOf, heapOf, quietOf, drawsOf, drawmOf, drawfOf, opnOf, coldOf, shutOf, iceOf, extOf, extOverlaps_eq, overB_eq, extCmp_eq, shpOf, Try.f15, ↓reduceIte, Nat.reduceAdd, Nat.reduceLT, Nat.reduceEqDiff, Nat.reduceLeDiff, Nat.succ_ne_zero, Nat.zero_ne_one, Nat.one_ne_zero, ne_eq, not_false_eq_true, true_and, and_true, Nat.reduceMul, Nat.reduceSub, Int.reduceToNat, Int.toNat_zero, Int.toNat_one, Nat.zero_mul, Nat.one_mul, Int.reduceLT, Int.reduceLE, Int.le_refl, Int.zero_lt_one, Int.toNat_natCast, List.take_length, Int.cast_ofNat_Int, Int.reduceAdd, Int.reduceSub, Int.reduceBEq, Int.reduceBNe, ge_iff_le, gt_iff_lt, decide_true, decide_false, Int.lt_irrefl, Nat.zero_add, Nat.add_zero, rpv, w1]
        first
          | exact fin0 g2
      · generalize hx : ((doS t o).t ++ ex').map rcv = X at *
        simp (maxSteps := 4000000) only [EV, EVF, XV, cond_true, cond_false, Bool.false_eq_true, Bool.true_eq_false, eq_self, normsOf, cutsOf, heapOf, quietOf, drawsOf, drawmOf, drawfOf, opnOf, coldOf, shutOf, iceOf, extOf, extOverlaps_eq, overB_eq, extCmp_eq, shpOf, Try.f15, ↓reduceIte, Nat.reduceAdd, Nat.reduceLT, Nat.reduceEqDiff, Nat.reduceLeDiff, Nat.succ_ne_zero, Nat.zero_ne_one, Nat.one_ne_zero, ne_eq, not_false_eq_true, true_and, and_true, Nat.reduceMul, Nat.reduceSub, Int.reduceToNat, Int.toNat_zero, Int.toNat_one, Nat.zero_mul, Nat.one_mul, Int.reduceLT, Int.reduceLE, Int.le_refl, Int.zero_lt_one, Int.toNat_natCast, List.take_length, Int.cast_ofNat_Int, Int.reduceAdd, Int.reduceSub, Int.reduceBEq, Int.reduceBNe, ge_iff_le, gt_iff_lt, decide_true, decide_false, Int.lt_irrefl, Nat.zero_add, Nat.add_zero, rpv, w1]
        subst hx
        first
          | exact fin1 ex'
    · have ht0 := h3 rfl
      subst ht0
      simp only [runSt_nl]
      simp only [List.map_nil] at hdo
      simp (maxSteps := 4000000) only [EV, EVF, XV, cond_true, cond_false, Bool.false_eq_true, Bool.true_eq_false, eq_self, normsOf, cutsOf, heapOf, quietOf, drawsOf, drawmOf, drawfOf, opnOf, coldOf, shutOf, iceOf, extOf, extOverlaps_eq, overB_eq, extCmp_eq, shpOf, Try.f15, ↓reduceIte, Nat.reduceAdd, Nat.reduceLT, Nat.reduceEqDiff, Nat.reduceLeDiff, Nat.succ_ne_zero, Nat.zero_ne_one, Nat.one_ne_zero, ne_eq, not_false_eq_true, true_and, and_true, Nat.reduceMul, Nat.reduceSub, Int.reduceToNat, Int.toNat_zero, Int.toNat_one, Nat.zero_mul, Nat.one_mul, Int.reduceLT, Int.reduceLE, Int.le_refl, Int.zero_lt_one, Int.toNat_natCast, List.take_length, Int.cast_ofNat_Int, Int.reduceAdd, Int.reduceSub, Int.reduceBEq, Int.reduceBNe, ge_iff_le, gt_iff_lt, decide_true, decide_false, Int.lt_irrefl, Nat.zero_add, Nat.add_zero, hk1, hk2, hf', r5w, w1]
      refine hop m (by omega) _ fun H => ?_
      simp (maxSteps := 4000000) only [EV, EVF, XV, cond_true, cond_false, Bool.false_eq_true, Bool.true_eq_false, eq_self, normsOf, cutsOf, heapOf, quietOf, drawsOf, drawmOf, drawfOf, opnOf, coldOf, shutOf, iceOf, extOf, extOverlaps_eq, overB_eq, extCmp_eq, shpOf, Try.f15, ↓reduceIte, Nat.reduceAdd, Nat.reduceLT, Nat.reduceEqDiff, Nat.reduceLeDiff, Nat.succ_ne_zero, Nat.zero_ne_one, Nat.one_ne_zero, ne_eq, not_false_eq_true, true_and, and_true, Nat.reduceMul, Nat.reduceSub, Int.reduceToNat, Int.toNat_zero, Int.toNat_one, Nat.zero_mul, Nat.one_mul, Int.reduceLT, Int.reduceLE, Int.le_refl, Int.zero_lt_one, Int.toNat_natCast, List.take_length, Int.cast_ofNat_Int, Int.reduceAdd, Int.reduceSub, Int.reduceBEq, Int.reduceBNe, ge_iff_le, gt_iff_lt, decide_true, decide_false, Int.lt_irrefl, Nat.zero_add, Nat.add_zero]
      refine hdo m (by omega) _ (fun g1 g2 => ?_) (fun g ex' => ?_)
      · simp (maxSteps := 4000000) only [EV, EVF, XV, cond_true, cond_false, Bool.false_eq_true, Bool.true_eq_false, eq_self, normsOf, cutsOf, heapOf, quietOf, drawsOf, drawmOf, drawfOf, opnOf, coldOf, shutOf, iceOf, extOf, extOverlaps_eq, overB_eq, extCmp_eq, shpOf, Try.f15, ↓reduceIte, Nat.reduceAdd, Nat.reduceLT, Nat.reduceEqDiff, Nat.reduceLeDiff, Nat.succ_ne_zero, Nat.zero_ne_one, Nat.one_ne_zero, ne_eq, not_false_eq_true, true_and, and_true, Nat.reduceMul, Nat.reduceSub, Int.reduceToNat, Int.toNat_zero, Int.toNat_one, Nat.zero_mul, Nat.one_mul, Int.reduceLT, Int.reduceLE, Int.le_refl, Int.zero_lt_one, Int.toNat_natCast, List.take_length, Int.cast_ofNat_Int, Int.reduceAdd, Int.reduceSub, Int.reduceBEq, Int.reduceBNe, ge_iff_le, gt_iff_lt, decide_true, decide_false, Int.lt_irrefl, Nat.zero_add, Nat.add_zero, rpv, w1]
        first
          | exact fin0 g2
      · generalize hx : ((doS [] o).t ++ ex').map rcv = X at *
        simp (maxSteps := 4000000) only [EV, EVF, XV, cond_true, cond_false, Bool.false_eq_true, Bool.true_eq_false, eq_self, normsOf, cutsOf, heapOf, quietOf, drawsOf, drawmOf, drawfOf, opnOf, coldOf, shutOf, iceOf, extOf, extOverlaps_eq, overB_eq, extCmp_eq, shpOf, Try.f15, ↓reduceIte, Nat.reduceAdd, Nat.reduceLT, Nat.reduceEqDiff, Nat.reduceLeDiff, Nat.succ_ne_zero, Nat.zero_ne_one, Nat.one_ne_zero, ne_eq, not_false_eq_true, true_and, and_true, Nat.reduceMul, Nat.reduceSub, Int.reduceToNat, Int.toNat_zero, Int.toNat_one, Nat.zero_mul, Nat.one_mul, Int.reduceLT, Int.reduceLE, Int.le_refl, Int.zero_lt_one, Int.toNat_natCast, List.take_length, Int.cast_ofNat_Int, Int.reduceAdd, Int.reduceSub, Int.reduceBEq, Int.reduceBNe, ge_iff_le, gt_iff_lt, decide_true, decide_false, Int.lt_irrefl, Nat.zero_add, Nat.add_zero, rpv, w1]
        subst hx
        first
          | exact fin1 ex'
  have htake : raw.take k = raw.take 40 := by
    rcases Nat.lt_or_ge k raw.length with h | h
    · have : k = 40 := by omega
      rw [this]
    · rw [List.take_of_length_le h, List.take_of_length_le (by omega)]
  rw [htake] at h3 ⊢
  have hok := run_ok (l := raw.take 40) okR_nil
  have htl := (tabR_iff.1 hok.1).2.2
  unfold tableS at hK
  generalize runS [] (raw.take 40) = t at *
  obtain ⟨big, hbig⟩ : ∃ b, decide (7 < raw.length) = b := ⟨_, rfl⟩
  rw [hbig] at hK
  have hbig' : decide ((7 : Int) < (raw.length : Int)) = big := by
    rw [← hbig, decide_eq_decide]
    omega
  have hlt : k < raw.length ∨ ¬ k < raw.length := Decidable.em _
  cases nl
  · simp only [runSt_row]
    have htl2 : (extG big 0 t).length = t.length := extG_len
    have hfin : ((tab2 big t t.length ++ ex).map rcv).take t.length = (extG big 0 t).map rcv := by
      unfold tab2
      rw [List.take_length, List.drop_length, List.append_nil, List.map_append, ← htl2, ← List.length_map (f := rcv), List.take_left]
    rcases hlt with hlt | hlt
    all_goals
      first
        | simp (maxSteps := 4000000) only [EV, EVF, XV, cond_true, cond_false, Bool.false_eq_true, Bool.true_eq_false, eq_self, normsOf, cutsOf, heapOf, quietOf, drawsOf, drawmOf, drawfOf, opnOf, coldOf, shutOf, iceOf, extOf, extOverlaps_eq, overB_eq, extCmp_eq, shpOf, Try.f15, ↓reduceIte, Nat.reduceAdd, Nat.reduceLT, Nat.reduceEqDiff, Nat.reduceLeDiff, Nat.succ_ne_zero, Nat.zero_ne_one, Nat.one_ne_zero, ne_eq, not_false_eq_true, true_and, and_true, Nat.reduceMul, Nat.reduceSub, Int.reduceToNat, Int.toNat_zero, Int.toNat_one, Nat.zero_mul, Nat.one_mul, Int.reduceLT, Int.reduceLE, Int.le_refl, Int.zero_lt_one, Int.toNat_natCast, List.take_length, Int.cast_ofNat_Int, Int.reduceAdd, Int.reduceSub, Int.reduceBEq, Int.reduceBNe, ge_iff_le, gt_iff_lt, decide_true, decide_false, Int.lt_irrefl, Nat.zero_add, Nat.add_zero, eq_true (show (k : Int) < (raw.length : Int) by omega), eq_false (show ¬ (k : Int) < 40 by omega)]
        | simp (maxSteps := 4000000) only [EV, EVF, XV, cond_true, cond_false, Bool.false_eq_true, Bool.true_eq_false, eq_self, normsOf, cutsOf, heapOf, quietOf, drawsOf, drawmOf, drawfOf, opnOf, coldOf, shutOf, iceOf, extOf, extOverlaps_eq, overB_eq, extCmp_eq, shpOf, Try.f15, ↓reduceIte, Nat.reduceAdd, Nat.reduceLT, Nat.reduceEqDiff, Nat.reduceLeDiff, Nat.succ_ne_zero, Nat.zero_ne_one, Nat.one_ne_zero, ne_eq, not_false_eq_true, true_and, and_true, Nat.reduceMul, Nat.reduceSub, Int.reduceToNat, Int.toNat_zero, Int.toNat_one, Nat.zero_mul, Nat.one_mul, Int.reduceLT, Int.reduceLE, Int.le_refl, Int.zero_lt_one, Int.toNat_natCast, List.take_length, Int.cast_ofNat_Int, Int.reduceAdd, Int.reduceSub, Int.reduceBEq, Int.reduceBNe, ge_iff_le, gt_iff_lt, decide_true, decide_false, Int.lt_irrefl, Nat.zero_add, Nat.add_zero, eq_false (show ¬ (k : Int) < (raw.length : Int) by omega)]
      refine loop_at (fun j : Nat => ⟨[(0, .lst 5 (raw.map r5w)), (3, .row 0 6 0 t.length), (5, .v (.int .i64 j))], [some (.row 47 6 ((tab2 big t j ++ ex).map rcv))]⟩) (fun j => j ≤ t.length) (fun j => t.length - j) 0 (by omega) rfl ?_
      intro j hj
      by_cases hjt : j < t.length
      · obtain ⟨r, hf, hd⟩ := drop_at hjt
        have q3 : ((j : Int) < (t.length : Int)) = True := eq_true (by omega)
        have w1 : IntKind.i64.wrap ((j : Int) + 1) = ((j + 1 : Nat) : Int) := by rw [wrap64 (by omega) (by omega)]; omega
        have w9 : IntKind.i64.wrap (9 + (j : Int)) = ((9 + j : Nat) : Int) := by rw [wrap64 (by omega) (by omega)]; omega
        have e3 : (j : Int).tmod 3 = ((j % 3 : Nat) : Int) := rfl
        have e5 : (j : Int).tmod 5 = ((j % 5 : Nat) : Int) := rfl
        have hat := tab2_at (big := big) hf (ex := ex)
        have hset := tab2_set (big := big) hf (ex := ex)
        have hlen : ((tab2 big t j ++ ex).map rcv).length = (tab2 big t j ++ ex).length := List.length_map ..
        have hne := fun y => set_at (y := y) hat
        generalize (tab2 big t j ++ ex).map rcv = X at hat hset hlen hne ⊢
        have fin : ∀ Y, X.set j (rcv (extS big j r)) = Y → ∃ a', a' ≤ t.length ∧ t.length - a' < t.length - j ∧ (⟨[(0, .lst 5 (raw.map r5w)), (3, .row 0 6 0 t.length), (5, .v (.int .i64 ((j + 1 : Nat) : Int)))], [some (.row 47 6 Y)]⟩ : St) = ⟨[(0, .lst 5 (raw.map r5w)), (3, .row 0 6 0 t.length), (5, .v (.int .i64 (a' : Nat)))], [some (.row 47 6 ((tab2 big t a' ++ ex).map rcv))]⟩ := fun Y hY => ⟨j + 1, by omega, by omega, by rw [← hY, hset]⟩
        unfold extS rcv at fin
        unfold rcv at hat
        by_cases h3 : j % 3 = 1
        · have b3 : (((j % 3 : Nat) : Int) == 1) = true := by rw [h3]; rfl
          by_cases h5 : j % 5 = 4
          · have b5 : (((j % 5 : Nat) : Int) == 4) = true := by rw [h5]; rfl
            simp only [h3, h5, if_true, true_and] at fin
            cases hb : big
            · simp only [hb, Bool.false_eq_true, if_false] at fin
              simp (maxSteps := 4000000) only [EV, EVF, XV, cond_true, cond_false, Bool.false_eq_true, Bool.true_eq_false, eq_self, normsOf, cutsOf, heapOf, quietOf, drawsOf, drawmOf, drawfOf, opnOf, coldOf, shutOf, iceOf, extOf, extOverlaps_eq, overB_eq, extCmp_eq, shpOf, Try.f15, ↓reduceIte, Nat.reduceAdd, Nat.reduceLT, Nat.reduceEqDiff, Nat.reduceLeDiff, Nat.succ_ne_zero, Nat.zero_ne_one, Nat.one_ne_zero, ne_eq, not_false_eq_true, true_and, and_true, Nat.reduceMul, Nat.reduceSub, Int.reduceToNat, Int.toNat_zero, Int.toNat_one, Nat.zero_mul, Nat.one_mul, Int.reduceLT, Int.reduceLE, Int.le_refl, Int.zero_lt_one, Int.toNat_natCast, List.take_length, Int.cast_ofNat_Int, Int.reduceAdd, Int.reduceSub, Int.reduceBEq, Int.reduceBNe, ge_iff_le, gt_iff_lt, decide_true, decide_false, Int.lt_irrefl, Nat.zero_add, Nat.add_zero, q3, e3, e5, b3, b5, hat, hne, hbig', hb, w1, w9]
              first
                | exact ⟨by decide, by decide, fin _ rfl⟩
                | exact ⟨by decide, by decide, fin _ (set_idR hat)⟩
            · simp only [hb, if_true] at fin
              simp (maxSteps := 4000000) only [EV, EVF, XV, cond_true, cond_false, Bool.false_eq_true, Bool.true_eq_false, eq_self, normsOf, cutsOf, heapOf, quietOf, drawsOf, drawmOf, drawfOf, opnOf, coldOf, shutOf, iceOf, extOf, extOverlaps_eq, overB_eq, extCmp_eq, shpOf, Try.f15, ↓reduceIte, Nat.reduceAdd, Nat.reduceLT, Nat.reduceEqDiff, Nat.reduceLeDiff, Nat.succ_ne_zero, Nat.zero_ne_one, Nat.one_ne_zero, ne_eq, not_false_eq_true, true_and, and_true, Nat.reduceMul, Nat.reduceSub, Int.reduceToNat, Int.toNat_zero, Int.toNat_one, Nat.zero_mul, Nat.one_mul, Int.reduceLT, Int.reduceLE, Int.le_refl, Int.zero_lt_one, Int.toNat_natCast, List.take_length, Int.cast_ofNat_Int, Int.reduceAdd, Int.reduceSub, Int.reduceBEq, Int.reduceBNe, ge_iff_le, gt_iff_lt, decide_true, decide_false, Int.lt_irrefl, Nat.zero_add, Nat.add_zero, q3, e3, e5, b3, b5, hat, hne, hbig', hb, w1, w9, List.set_set]
              first
                | exact ⟨by decide, by decide, fin _ rfl⟩
                | exact ⟨by decide, by decide, fin _ (set_idR hat)⟩
          · have b5 : (((j % 5 : Nat) : Int) == 4) = false := by simp; omega
            simp only [h3, h5, if_true, false_and, if_false] at fin
            simp (maxSteps := 4000000) only [EV, EVF, XV, cond_true, cond_false, Bool.false_eq_true, Bool.true_eq_false, eq_self, normsOf, cutsOf, heapOf, quietOf, drawsOf, drawmOf, drawfOf, opnOf, coldOf, shutOf, iceOf, extOf, extOverlaps_eq, overB_eq, extCmp_eq, shpOf, Try.f15, ↓reduceIte, Nat.reduceAdd, Nat.reduceLT, Nat.reduceEqDiff, Nat.reduceLeDiff, Nat.succ_ne_zero, Nat.zero_ne_one, Nat.one_ne_zero, ne_eq, not_false_eq_true, true_and, and_true, Nat.reduceMul, Nat.reduceSub, Int.reduceToNat, Int.toNat_zero, Int.toNat_one, Nat.zero_mul, Nat.one_mul, Int.reduceLT, Int.reduceLE, Int.le_refl, Int.zero_lt_one, Int.toNat_natCast, List.take_length, Int.cast_ofNat_Int, Int.reduceAdd, Int.reduceSub, Int.reduceBEq, Int.reduceBNe, ge_iff_le, gt_iff_lt, decide_true, decide_false, Int.lt_irrefl, Nat.zero_add, Nat.add_zero, q3, e3, e5, b3, b5, hat, hne, hbig', w1, w9]
            first
              | exact ⟨by decide, by decide, fin _ rfl⟩
              | exact ⟨by decide, by decide, fin _ (set_idR hat)⟩
        · have b3 : (((j % 3 : Nat) : Int) == 1) = false := by simp; omega
          by_cases h5 : j % 5 = 4
          · have b5 : (((j % 5 : Nat) : Int) == 4) = true := by rw [h5]; rfl
            simp only [h3, h5, if_true, true_and, if_false] at fin
            cases hb : big
            · simp only [hb, Bool.false_eq_true, if_false] at fin
              simp (maxSteps := 4000000) only [EV, EVF, XV, cond_true, cond_false, Bool.false_eq_true, Bool.true_eq_false, eq_self, normsOf, cutsOf, heapOf, quietOf, drawsOf, drawmOf, drawfOf, opnOf, coldOf, shutOf, iceOf, extOf, extOverlaps_eq, overB_eq, extCmp_eq, shpOf, Try.f15, ↓reduceIte, Nat.reduceAdd, Nat.reduceLT, Nat.reduceEqDiff, Nat.reduceLeDiff, Nat.succ_ne_zero, Nat.zero_ne_one, Nat.one_ne_zero, ne_eq, not_false_eq_true, true_and, and_true, Nat.reduceMul, Nat.reduceSub, Int.reduceToNat, Int.toNat_zero, Int.toNat_one, Nat.zero_mul, Nat.one_mul, Int.reduceLT, Int.reduceLE, Int.le_refl, Int.zero_lt_one, Int.toNat_natCast, List.take_length, Int.cast_ofNat_Int, Int.reduceAdd, Int.reduceSub, Int.reduceBEq, Int.reduceBNe, ge_iff_le, gt_iff_lt, decide_true, decide_false, Int.lt_irrefl, Nat.zero_add, Nat.add_zero, q3, e3, e5, b3, b5, hat, hne, hbig', hb, w1, w9]
              first
                | exact ⟨by decide, by decide, fin _ rfl⟩
                | exact ⟨by decide, by decide, fin _ (set_idR hat)⟩
            · simp only [hb, if_true] at fin
              simp (maxSteps := 4000000) only [EV, EVF, XV, cond_true, cond_false, Bool.false_eq_true, Bool.true_eq_false, eq_self, normsOf, cutsOf, heapOf, quietOf, drawsOf, drawmOf, drawfOf, opnOf, coldOf, shutOf, iceOf, extOf, extOverlaps_eq, overB_eq, extCmp_eq, shpOf, Try.f15, ↓reduceIte, Nat.reduceAdd, Nat.reduceLT, Nat.reduceEqDiff, Nat.reduceLeDiff, Nat.succ_ne_zero, Nat.zero_ne_one, Nat.one_ne_zero, ne_eq, not_false_eq_true, true_and, and_true, Nat.reduceMul, Nat.reduceSub, Int.reduceToNat, Int.toNat_zero, Int.toNat_one, Nat.zero_mul, Nat.one_mul, Int.reduceLT, Int.reduceLE, Int.le_refl, Int.zero_lt_one, Int.toNat_natCast, List.take_length, Int.cast_ofNat_Int, Int.reduceAdd, Int.reduceSub, Int.reduceBEq, Int.reduceBNe, ge_iff_le, gt_iff_lt, decide_true, decide_false, Int.lt_irrefl, Nat.zero_add, Nat.add_zero, q3, e3, e5, b3, b5, hat, hne, hbig', hb, w1, w9]
              first
                | exact ⟨by decide, by decide, fin _ rfl⟩
                | exact ⟨by decide, by decide, fin _ (set_idR hat)⟩
          · have b5 : (((j % 5 : Nat) : Int) == 4) = false := by simp; omega
            simp only [h3, h5, false_and, if_false] at fin
            simp (maxSteps := 4000000) only [EV, EVF, XV, cond_true, cond_false, Bool.false_eq_true, Bool.true_eq_false, eq_self, normsOf, cutsOf, heapOf, quietOf, drawsOf, drawmOf, drawfOf, opnOf, coldOf, shutOf, iceOf, extOf, extOverlaps_eq, overB_eq, extCmp_eq, shpOf, Try.f15, ↓reduceIte, Nat.reduceAdd, Nat.reduceLT, Nat.reduceEqDiff, Nat.reduceLeDiff, Nat.succ_ne_zero, Nat.zero_ne_one, Nat.one_ne_zero, ne_eq, not_false_eq_true, true_and, and_true, Nat.reduceMul, Nat.reduceSub, Int.reduceToNat, Int.toNat_zero, Int.toNat_one, Nat.zero_mul, Nat.one_mul, Int.reduceLT, Int.reduceLE, Int.le_refl, Int.zero_lt_one, Int.toNat_natCast, List.take_length, Int.cast_ofNat_Int, Int.reduceAdd, Int.reduceSub, Int.reduceBEq, Int.reduceBNe, ge_iff_le, gt_iff_lt, decide_true, decide_false, Int.lt_irrefl, Nat.zero_add, Nat.add_zero, q3, e3, e5, b3, b5, hat, hne, hbig', w1, w9]
            first
              | exact ⟨by decide, by decide, fin _ rfl⟩
              | exact ⟨by decide, by decide, fin _ (set_idR hat)⟩
      · obtain rfl : j = t.length := by omega
        simp (maxSteps := 4000000) only [EV, EVF, XV, cond_true, cond_false, Bool.false_eq_true, Bool.true_eq_false, eq_self, normsOf, cutsOf, heapOf, quietOf, drawsOf, drawmOf, drawfOf, opnOf, coldOf, shutOf, iceOf, extOf, extOverlaps_eq, overB_eq, extCmp_eq, shpOf, Try.f15, ↓reduceIte, Nat.reduceAdd, Nat.reduceLT, Nat.reduceEqDiff, Nat.reduceLeDiff, Nat.succ_ne_zero, Nat.zero_ne_one, Nat.one_ne_zero, ne_eq, not_false_eq_true, true_and, and_true, Nat.reduceMul, Nat.reduceSub, Int.reduceToNat, Int.toNat_zero, Int.toNat_one, Nat.zero_mul, Nat.one_mul, Int.reduceLT, Int.reduceLE, Int.le_refl, Int.zero_lt_one, Int.toNat_natCast, List.take_length, Int.cast_ofNat_Int, Int.reduceAdd, Int.reduceSub, Int.reduceBEq, Int.reduceBNe, ge_iff_le, gt_iff_lt, decide_true, decide_false, Int.lt_irrefl, Nat.zero_add, Nat.add_zero, Int.lt_irrefl, hfin]
        first
          | exact hK _
  · have ht0 := h3 rfl
    subst ht0
    simp only [runSt_nl]
    rcases hlt with hlt | hlt
    all_goals
      first
        | simp (maxSteps := 4000000) only [EV, EVF, XV, cond_true, cond_false, Bool.false_eq_true, Bool.true_eq_false, eq_self, normsOf, cutsOf, heapOf, quietOf, drawsOf, drawmOf, drawfOf, opnOf, coldOf, shutOf, iceOf, extOf, extOverlaps_eq, overB_eq, extCmp_eq, shpOf, Try.f15, ↓reduceIte, Nat.reduceAdd, Nat.reduceLT, Nat.reduceEqDiff, Nat.reduceLeDiff, Nat.succ_ne_zero, Nat.zero_ne_one, Nat.one_ne_zero, ne_eq, not_false_eq_true, true_and, and_true, Nat.reduceMul, Nat.reduceSub, Int.reduceToNat, Int.toNat_zero, Int.toNat_one, Nat.zero_mul, Nat.one_mul, Int.reduceLT, Int.reduceLE, Int.le_refl, Int.zero_lt_one, Int.toNat_natCast, List.take_length, Int.cast_ofNat_Int, Int.reduceAdd, Int.reduceSub, Int.reduceBEq, Int.reduceBNe, ge_iff_le, gt_iff_lt, decide_true, decide_false, Int.lt_irrefl, Nat.zero_add, Nat.add_zero, eq_true (show (k : Int) < (raw.length : Int) by omega), eq_false (show ¬ (k : Int) < 40 by omega)]
        | simp (maxSteps := 4000000) only [EV, EVF, XV, cond_true, cond_false, Bool.false_eq_true, Bool.true_eq_false, eq_self, normsOf, cutsOf, heapOf, quietOf, drawsOf, drawmOf, drawfOf, opnOf, coldOf, shutOf, iceOf, extOf, extOverlaps_eq, overB_eq, extCmp_eq, shpOf, Try.f15, ↓reduceIte, Nat.reduceAdd, Nat.reduceLT, Nat.reduceEqDiff, Nat.reduceLeDiff, Nat.succ_ne_zero, Nat.zero_ne_one, Nat.one_ne_zero, ne_eq, not_false_eq_true, true_and, and_true, Nat.reduceMul, Nat.reduceSub, Int.reduceToNat, Int.toNat_zero, Int.toNat_one, Nat.zero_mul, Nat.one_mul, Int.reduceLT, Int.reduceLE, Int.le_refl, Int.zero_lt_one, Int.toNat_natCast, List.take_length, Int.cast_ofNat_Int, Int.reduceAdd, Int.reduceSub, Int.reduceBEq, Int.reduceBNe, ge_iff_le, gt_iff_lt, decide_true, decide_false, Int.lt_irrefl, Nat.zero_add, Nat.add_zero, eq_false (show ¬ (k : Int) < (raw.length : Int) by omega)]
      refine loop_at (fun _ : Unit => ⟨[(0, .lst 5 (raw.map r5w)), (3, .v (.slice none 0 0)), (5, .v (.int .i64 0))], []⟩) (fun _ => True) (fun _ => 0) () trivial rfl ?_
      rintro _ -
      simp (maxSteps := 4000000) only [EV, EVF, XV, cond_true, cond_false, Bool.false_eq_true, Bool.true_eq_false, eq_self, normsOf, cutsOf, heapOf, quietOf, drawsOf, drawmOf, drawfOf, opnOf, coldOf, shutOf, iceOf, extOf, extOverlaps_eq, overB_eq, extCmp_eq, shpOf, Try.f15, ↓reduceIte, Nat.reduceAdd, Nat.reduceLT, Nat.reduceEqDiff, Nat.reduceLeDiff, Nat.succ_ne_zero, Nat.zero_ne_one, Nat.one_ne_zero, ne_eq, not_false_eq_true, true_and, and_true, Nat.reduceMul, Nat.reduceSub, Int.reduceToNat, Int.toNat_zero, Int.toNat_one, Nat.zero_mul, Nat.one_mul, Int.reduceLT, Int.reduceLE, Int.le_refl, Int.zero_lt_one, Int.toNat_natCast, List.take_length, Int.cast_ofNat_Int, Int.reduceAdd, Int.reduceSub, Int.reduceBEq, Int.reduceBNe, ge_iff_le, gt_iff_lt, decide_true, decide_false, Int.lt_irrefl, Nat.zero_add, Nat.add_zero]
      first
        | exact hK _
end Go.Ai

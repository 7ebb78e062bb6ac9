/- The document's own answers on tables: own, scan, with; walked. -/
import Derived.Test.YtmebpmghmghhkaaTab9
set_option linter.unusedVariables false
set_option linter.unusedSimpArgs false
set_option maxRecDepth 100000
set_option maxHeartbeats 4000000
namespace Go.Ai
open Go.Proofs
def ownSt (t : List Rec) (k : Nat) (X : List (List AV)) : St := match X with
  | [] => ⟨[(0, .lst 6 (t.map rcv)), (3, .v (.slice none 0 0)), (4, .v (.int .i64 k))], []⟩
  | x :: xs => ⟨[(0, .lst 6 (t.map rcv)), (3, .row 0 6 0 (xs.length + 1)), (4, .v (.int .i64 k))], [some (.row 47 6 (x :: xs))]⟩
theorem ownSt_nil {t : List Rec} {k : Nat} : ownSt t k [] = ⟨[(0, .lst 6 (t.map rcv)), (3, .v (.slice none 0 0)), (4, .v (.int .i64 k))], []⟩ := rfl
theorem ownSt_cons {t : List Rec} {k : Nat} {x : List AV} {xs : List (List AV)} : ownSt t k (x :: xs) = ⟨[(0, .lst 6 (t.map rcv)), (3, .row 0 6 0 (xs.length + 1)), (4, .v (.int .i64 k))], [some (.row 47 6 (x :: xs))]⟩ := rfl
theorem ownSt_ne {t : List Rec} {k : Nat} {X : List (List AV)} (h : X ≠ []) : ownSt t k X = ⟨[(0, .lst 6 (t.map rcv)), (3, .row 0 6 0 X.length), (4, .v (.int .i64 k))], [some (.row 47 6 X)]⟩ := by
  cases X with
  | nil => exact absurd rfl h
  | cons x xs => rfl
theorem rown_w (m : Nat) (hm : 1 ≤ m) (t : List Rec) (ht : okT t) (K : AV → Hp → Prop) (hK0 : t = [] → K (.v (.slice none 0 0)) []) (hK1 : t ≠ [] → K (.row 0 6 0 t.length) [some (.row 47 6 (t.map rcv))]) : wpF C m 42 [.lst 6 (t.map rcv)] [] K := by
  have hl1 := ht.1
  obtain ⟨m, rfl⟩ : ∃ j, m = j + 1 := ⟨m - 1, by omega⟩; simp only [wpF, bodyA, fn_42, C_P, ok_42, C_prim, primOf, true_and]; simp (maxSteps := 4000000) only [EV, EVF, XV, cond_true, cond_false, Bool.false_eq_true, Bool.true_eq_false, eq_self, normsOf, cutsOf, heapOf, quietOf, drawsOf, drawmOf, drawfOf, opnOf, coldOf, shutOf, iceOf, extOf, extOverlaps_eq, overB_eq, extCmp_eq, shpOf, Try.f42, ↓reduceIte, Nat.reduceAdd, Nat.reduceLT, Nat.reduceEqDiff, Nat.reduceLeDiff, Nat.succ_ne_zero, Nat.zero_ne_one, Nat.one_ne_zero, ne_eq, not_false_eq_true, true_and, and_true, Nat.reduceMul, Nat.reduceSub, Int.reduceToNat, Int.toNat_zero, Int.toNat_one, Nat.zero_mul, Nat.one_mul, Int.reduceLT, Int.reduceLE, Int.le_refl, Int.zero_lt_one, Int.toNat_natCast, List.take_length, Int.cast_ofNat_Int, Int.reduceAdd, Int.reduceSub, Int.reduceBEq, Int.reduceBNe, ge_iff_le, gt_iff_lt, decide_true, decide_false, Int.lt_irrefl, Nat.zero_add, Nat.add_zero]
  refine loop_at (fun k : Nat => ownSt t k ((t.take k).map rcv)) (fun k => k ≤ t.length) (fun k => t.length - k) 0 (by simp) rfl ?_
  intro k h1
  obtain ⟨X, hX⟩ : ∃ X, (t.take k).map rcv = X := ⟨_, rfl⟩
  have hXl : X.length = k := by
    rw [← hX, List.length_map, List.length_take]
    omega
  rw [hX]
  by_cases hk : k < t.length
  · obtain ⟨d, hf, hd⟩ := drop_at hk
    have hf' := map_at (f := rcv) hf
    have hk' : ((k : Int) < t.length) = True := eq_true (by omega)
    have w1 : IntKind.i64.wrap ((k : Int) + 1) = ((k + 1 : Nat) : Int) := by rw [wrap64 (by omega) (by omega)]; rfl
    have hX2 : (t.take (k + 1)).map rcv = X ++ [rcv d] := by
      rw [take_snoc' hf, List.map_append, hX]
      rfl
    have hx := ht.2 d (List.mem_of_getElem? hf)
    obtain ⟨Y, hY⟩ : ∃ Y, Y = X := ⟨_, rfl⟩
    rw [← hY] at hX2
    rcases X with _ | ⟨x, xs⟩
    all_goals
      simp only [ownSt_nil, ownSt_cons]
      simp (maxSteps := 4000000) only [EV, EVF, XV, cond_true, cond_false, Bool.false_eq_true, Bool.true_eq_false, eq_self, normsOf, cutsOf, heapOf, quietOf, drawsOf, drawmOf, drawfOf, opnOf, coldOf, shutOf, iceOf, extOf, extOverlaps_eq, overB_eq, extCmp_eq, shpOf, Try.f42, ↓reduceIte, Nat.reduceAdd, Nat.reduceLT, Nat.reduceEqDiff, Nat.reduceLeDiff, Nat.succ_ne_zero, Nat.zero_ne_one, Nat.one_ne_zero, ne_eq, not_false_eq_true, true_and, and_true, Nat.reduceMul, Nat.reduceSub, Int.reduceToNat, Int.toNat_zero, Int.toNat_one, Nat.zero_mul, Nat.one_mul, Int.reduceLT, Int.reduceLE, Int.le_refl, Int.zero_lt_one, Int.toNat_natCast, List.take_length, Int.cast_ofNat_Int, Int.reduceAdd, Int.reduceSub, Int.reduceBEq, Int.reduceBNe, ge_iff_le, gt_iff_lt, decide_true, decide_false, Int.lt_irrefl, Nat.zero_add, Nat.add_zero, hk', hf', rcv, w1]
    · exact ⟨by omega, k + 1, by omega, by omega, by rw [hX2, ownSt_ne (by simp)]; subst hY; simp [rcv]⟩
    · simp only [List.length_cons] at hXl
      exact ⟨by omega, by omega, k + 1, by omega, by omega, by rw [hX2, ownSt_ne (by simp)]; subst hY; simp [rcv]⟩
  · have hk2 : k = t.length := by omega
    subst hk2
    rw [List.take_length] at hX
    subst hX
    rcases t with _ | ⟨x, xs⟩
    · simp (maxSteps := 4000000) only [EV, EVF, XV, cond_true, cond_false, Bool.false_eq_true, Bool.true_eq_false, eq_self, normsOf, cutsOf, heapOf, quietOf, drawsOf, drawmOf, drawfOf, opnOf, coldOf, shutOf, iceOf, extOf, extOverlaps_eq, overB_eq, extCmp_eq, shpOf, Try.f42, ↓reduceIte, Nat.reduceAdd, Nat.reduceLT, Nat.reduceEqDiff, Nat.reduceLeDiff, Nat.succ_ne_zero, Nat.zero_ne_one, Nat.one_ne_zero, ne_eq, not_false_eq_true, true_and, and_true, Nat.reduceMul, Nat.reduceSub, Int.reduceToNat, Int.toNat_zero, Int.toNat_one, Nat.zero_mul, Nat.one_mul, Int.reduceLT, Int.reduceLE, Int.le_refl, Int.zero_lt_one, Int.toNat_natCast, List.take_length, Int.cast_ofNat_Int, Int.reduceAdd, Int.reduceSub, Int.reduceBEq, Int.reduceBNe, ge_iff_le, gt_iff_lt, decide_true, decide_false, Int.lt_irrefl, Nat.zero_add, Nat.add_zero, Int.lt_irrefl, decide_false, List.map_nil, ownSt_nil]
      exact hK0 rfl
    · simp only [List.map_cons] at hK1 ⊢
      simp (maxSteps := 4000000) only [EV, EVF, XV, cond_true, cond_false, Bool.false_eq_true, Bool.true_eq_false, eq_self, normsOf, cutsOf, heapOf, quietOf, drawsOf, drawmOf, drawfOf, opnOf, coldOf, shutOf, iceOf, extOf, extOverlaps_eq, overB_eq, extCmp_eq, shpOf, Try.f42, ↓reduceIte, Nat.reduceAdd, Nat.reduceLT, Nat.reduceEqDiff, Nat.reduceLeDiff, Nat.succ_ne_zero, Nat.zero_ne_one, Nat.one_ne_zero, ne_eq, not_false_eq_true, true_and, and_true, Nat.reduceMul, Nat.reduceSub, Int.reduceToNat, Int.toNat_zero, Int.toNat_one, Nat.zero_mul, Nat.one_mul, Int.reduceLT, Int.reduceLE, Int.le_refl, Int.zero_lt_one, Int.toNat_natCast, List.take_length, Int.cast_ofNat_Int, Int.reduceAdd, Int.reduceSub, Int.reduceBEq, Int.reduceBNe, ge_iff_le, gt_iff_lt, decide_true, decide_false, Int.lt_irrefl, Nat.zero_add, Nat.add_zero, Int.lt_irrefl, decide_false, ownSt_cons, List.length_cons, List.length_map]
      exact hK1 (by simp)
/-- A record more, in its place. -/
def withS (r : Rec) : List Rec → List Rec
  | [] => [r]
  | x :: t => if cmpL r.key x.key < 0 then r :: x :: t else x :: withS r t
theorem withS_cons {r x : Rec} {t : List Rec} : withS r (x :: t) = if cmpL r.key x.key < 0 then r :: x :: t else x :: withS r t := rfl
theorem withS_len {r : Rec} : ∀ {t : List Rec}, (withS r t).length = t.length + 1
  | [] => rfl
  | x :: t => by
    rw [withS_cons]
    split
    · rfl
    · rw [List.length_cons, withS_len, List.length_cons]
def newR (key value : List UInt8) : Rec := ⟨key, value, 1, 0, [], []⟩
def newV (key value : List UInt8) : List AV := [.v (.string (mk key)), .v (.string (mk value)), .v (.int .i64 1), .v (.int .i64 0), .v (.string (mk [])), .v (.slice none 0 0)]
def withSt (t : List Rec) (v : List AV) (k : Nat) (X : List (List AV)) (dn : Bool) : St := match X with
  | [] => ⟨[(0, .row 0 6 0 t.length), (3, .ptr 1 0), (5, .v (.slice none 0 0)), (6, .v (.bool dn)), (7, .v (.int .i64 k))], [some (.row 47 6 (t.map rcv)), some (.var 47 v)]⟩
  | x :: xs => ⟨[(0, .row 0 6 0 t.length), (3, .ptr 1 0), (5, .row 2 6 0 (xs.length + 1)), (6, .v (.bool dn)), (7, .v (.int .i64 k))], [some (.row 47 6 (t.map rcv)), some (.var 47 v), some (.row 47 6 (x :: xs))]⟩
theorem withSt_nil {t : List Rec} {v : List AV} {k : Nat} {dn : Bool} : withSt t v k [] dn = ⟨[(0, .row 0 6 0 t.length), (3, .ptr 1 0), (5, .v (.slice none 0 0)), (6, .v (.bool dn)), (7, .v (.int .i64 k))], [some (.row 47 6 (t.map rcv)), some (.var 47 v)]⟩ := rfl
theorem withSt_cons {t : List Rec} {v : List AV} {k : Nat} {x : List AV} {xs : List (List AV)} {dn : Bool} : withSt t v k (x :: xs) dn = ⟨[(0, .row 0 6 0 t.length), (3, .ptr 1 0), (5, .row 2 6 0 (xs.length + 1)), (6, .v (.bool dn)), (7, .v (.int .i64 k))], [some (.row 47 6 (t.map rcv)), some (.var 47 v), some (.row 47 6 (x :: xs))]⟩ := rfl
theorem withSt_ne {t : List Rec} {v : List AV} {k : Nat} {X : List (List AV)} {dn : Bool} (h : X ≠ []) : withSt t v k X dn = ⟨[(0, .row 0 6 0 t.length), (3, .ptr 1 0), (5, .row 2 6 0 X.length), (6, .v (.bool dn)), (7, .v (.int .i64 k))], [some (.row 47 6 (t.map rcv)), some (.var 47 v), some (.row 47 6 X)]⟩ := by
  cases X with
  | nil => exact absurd rfl h
  | cons x xs => rfl
theorem gt_cmp (a b : List UInt8) : (decide (cmpL a b < 0) || decide (a = b)) = !decide (cmpL b a < 0) := by
  have hsw := cmp_swap b a
  rcases cmp_bd b a with h | h | h
  · have : ¬ a = b := fun hc => by rw [hc, cmp_self] at h; omega
    simp [this, hsw, h]
  · have := cmp_zero h
    simp [this, cmp_self]
  · simp [hsw, h]
theorem rwith_w (m : Nat) (hm : 1 ≤ m) (t : List Rec) (h0 : t ≠ []) (ht : t.length ≤ 1000) (key value : List UInt8) (K : AV → Hp → Prop) (hK : K (.row 1 6 0 (t.length + 1)) [some (.row 47 6 (t.map rcv)), some (.row 47 6 ((withS (newR key value) t).map rcv))]) : wpF C m 60 [.row 0 6 0 t.length, .agg (newV key value)] [some (.row 47 6 (t.map rcv))] K := by
  have h0l : t.length ≠ 0 := fun h => h0 (List.length_eq_zero_iff.1 h)
  unfold newV
  obtain ⟨m, rfl⟩ : ∃ j, m = j + 1 := ⟨m - 1, by omega⟩; simp only [wpF, bodyA, fn_60, C_P, ok_60, C_prim, primOf, true_and]; simp (maxSteps := 4000000) only [EV, EVF, XV, cond_true, cond_false, Bool.false_eq_true, Bool.true_eq_false, eq_self, normsOf, cutsOf, heapOf, quietOf, drawsOf, drawmOf, drawfOf, opnOf, coldOf, shutOf, iceOf, extOf, extOverlaps_eq, overB_eq, extCmp_eq, shpOf, Try.f60, ↓reduceIte, Nat.reduceAdd, Nat.reduceLT, Nat.reduceEqDiff, Nat.reduceLeDiff, Nat.succ_ne_zero, Nat.zero_ne_one, Nat.one_ne_zero, ne_eq, not_false_eq_true, true_and, and_true, Nat.reduceMul, Nat.reduceSub, Int.reduceToNat, Int.toNat_zero, Int.toNat_one, Nat.zero_mul, Nat.one_mul, Int.reduceLT, Int.reduceLE, Int.le_refl, Int.zero_lt_one, Int.toNat_natCast, List.take_length, Int.cast_ofNat_Int, Int.reduceAdd, Int.reduceSub, Int.reduceBEq, Int.reduceBNe, ge_iff_le, gt_iff_lt, decide_true, decide_false, Int.lt_irrefl, Nat.zero_add, Nat.add_zero]
  refine loop_at (fun p : Nat × List Rec × Bool => withSt t (newV key value) p.1 (p.2.1.map rcv) p.2.2) (fun p => p.1 ≤ t.length ∧ p.1 ≤ p.2.1.length ∧ p.2.1.length ≤ p.1 + p.2.2.toNat ∧ withS (newR key value) t = p.2.1 ++ (if p.2.2 = true then t.drop p.1 else withS (newR key value) (t.drop p.1))) (fun p => t.length - p.1) (0, [], false) ⟨by simp, by simp, by simp, by simp⟩ rfl ?_
  rintro ⟨k, ou, dn⟩ ⟨h1, h1b, h2, h3⟩
  simp only at h1 h1b h2 h3
  obtain ⟨X, hX⟩ : ∃ X, ou.map rcv = X := ⟨_, rfl⟩
  have hXl : X.length = ou.length := by rw [← hX, List.length_map]
  simp only
  rw [hX]
  by_cases hk : k < t.length
  · obtain ⟨d, hf, hd⟩ := drop_at hk
    have hf' := map_at (f := rcv) hf
    have hk' : ((k : Int) < t.length) = True := eq_true (by omega)
    have w1 : IntKind.i64.wrap ((k : Int) + 1) = ((k + 1 : Nat) : Int) := by rw [wrap64 (by omega) (by omega)]; rfl
    rw [hd, withS_cons] at h3
    have e1 := gt_cmp d.key key
    obtain ⟨Y, hY⟩ : ∃ Y, Y = X := ⟨_, rfl⟩
    rw [← hY] at hX
    rcases X with _ | ⟨x, xs⟩
    all_goals
      try simp only [List.length_cons, List.length_nil] at hXl
      simp only [withSt_nil, withSt_cons, newV]
      cases dn
      all_goals simp only [Bool.toNat_false, Bool.toNat_true] at h2
      · by_cases hc : cmpL key d.key < 0
        · have h5 : withS (newR key value) t = (ou ++ [newR key value, d]) ++ t.drop (k + 1) := by
            rw [h3, if_neg (by simp), if_pos (show cmpL (newR key value).key d.key < 0 from hc), List.append_assoc]
            rfl
          simp (maxSteps := 4000000) only [EV, EVF, XV, cond_true, cond_false, Bool.false_eq_true, Bool.true_eq_false, eq_self, normsOf, cutsOf, heapOf, quietOf, drawsOf, drawmOf, drawfOf, opnOf, coldOf, shutOf, iceOf, extOf, extOverlaps_eq, overB_eq, extCmp_eq, shpOf, Try.f60, ↓reduceIte, Nat.reduceAdd, Nat.reduceLT, Nat.reduceEqDiff, Nat.reduceLeDiff, Nat.succ_ne_zero, Nat.zero_ne_one, Nat.one_ne_zero, ne_eq, not_false_eq_true, true_and, and_true, Nat.reduceMul, Nat.reduceSub, Int.reduceToNat, Int.toNat_zero, Int.toNat_one, Nat.zero_mul, Nat.one_mul, Int.reduceLT, Int.reduceLE, Int.le_refl, Int.zero_lt_one, Int.toNat_natCast, List.take_length, Int.cast_ofNat_Int, Int.reduceAdd, Int.reduceSub, Int.reduceBEq, Int.reduceBNe, ge_iff_le, gt_iff_lt, decide_true, decide_false, Int.lt_irrefl, Nat.zero_add, Nat.add_zero, hk', hf', rcv, w1, Bool.not_false, less_cmp, e1, decide_eq_true hc, Bool.not_true]
          first
            | exact ⟨(k + 1, ou ++ [newR key value, d], true), ⟨by simp only; omega, by simp; omega, by simp; omega, h5⟩, by simp only; omega, by rw [withSt_ne (by simp)]; rw [List.map_append, hX]; subst hY; simp [rcv, newR, newV]⟩
            | (refine ⟨by omega, by omega, (k + 1, ou ++ [newR key value, d], true), ⟨by simp only; omega, by simp; omega, by simp; omega, h5⟩, by simp only; omega, ?_⟩; rw [withSt_ne (by simp)]; rw [List.map_append, hX]; subst hY; simp [rcv, newR, newV])
        · have h5 : withS (newR key value) t = (ou ++ [d]) ++ withS (newR key value) (t.drop (k + 1)) := by
            rw [h3, if_neg (by simp), if_neg (show ¬ cmpL (newR key value).key d.key < 0 from hc), List.append_assoc]
            rfl
          simp (maxSteps := 4000000) only [EV, EVF, XV, cond_true, cond_false, Bool.false_eq_true, Bool.true_eq_false, eq_self, normsOf, cutsOf, heapOf, quietOf, drawsOf, drawmOf, drawfOf, opnOf, coldOf, shutOf, iceOf, extOf, extOverlaps_eq, overB_eq, extCmp_eq, shpOf, Try.f60, ↓reduceIte, Nat.reduceAdd, Nat.reduceLT, Nat.reduceEqDiff, Nat.reduceLeDiff, Nat.succ_ne_zero, Nat.zero_ne_one, Nat.one_ne_zero, ne_eq, not_false_eq_true, true_and, and_true, Nat.reduceMul, Nat.reduceSub, Int.reduceToNat, Int.toNat_zero, Int.toNat_one, Nat.zero_mul, Nat.one_mul, Int.reduceLT, Int.reduceLE, Int.le_refl, Int.zero_lt_one, Int.toNat_natCast, List.take_length, Int.cast_ofNat_Int, Int.reduceAdd, Int.reduceSub, Int.reduceBEq, Int.reduceBNe, ge_iff_le, gt_iff_lt, decide_true, decide_false, Int.lt_irrefl, Nat.zero_add, Nat.add_zero, hk', hf', rcv, w1, Bool.not_false, less_cmp, e1, decide_eq_false hc, Bool.not_true]
          first
            | exact ⟨(k + 1, ou ++ [d], false), ⟨by simp only; omega, by simp; omega, by simp; omega, h5⟩, by simp only; omega, by rw [withSt_ne (by simp)]; rw [List.map_append, hX]; subst hY; simp [rcv, newR, newV]⟩
            | exact ⟨by omega, (k + 1, ou ++ [d], false), ⟨by simp only; omega, by simp; omega, by simp; omega, h5⟩, by simp only; omega, by rw [withSt_ne (by simp)]; rw [List.map_append, hX]; subst hY; simp [rcv, newR, newV]⟩
      · have h5 : withS (newR key value) t = (ou ++ [d]) ++ t.drop (k + 1) := by
          rw [h3, if_pos rfl, List.append_assoc]
          rfl
        simp (maxSteps := 4000000) only [EV, EVF, XV, cond_true, cond_false, Bool.false_eq_true, Bool.true_eq_false, eq_self, normsOf, cutsOf, heapOf, quietOf, drawsOf, drawmOf, drawfOf, opnOf, coldOf, shutOf, iceOf, extOf, extOverlaps_eq, overB_eq, extCmp_eq, shpOf, Try.f60, ↓reduceIte, Nat.reduceAdd, Nat.reduceLT, Nat.reduceEqDiff, Nat.reduceLeDiff, Nat.succ_ne_zero, Nat.zero_ne_one, Nat.one_ne_zero, ne_eq, not_false_eq_true, true_and, and_true, Nat.reduceMul, Nat.reduceSub, Int.reduceToNat, Int.toNat_zero, Int.toNat_one, Nat.zero_mul, Nat.one_mul, Int.reduceLT, Int.reduceLE, Int.le_refl, Int.zero_lt_one, Int.toNat_natCast, List.take_length, Int.cast_ofNat_Int, Int.reduceAdd, Int.reduceSub, Int.reduceBEq, Int.reduceBNe, ge_iff_le, gt_iff_lt, decide_true, decide_false, Int.lt_irrefl, Nat.zero_add, Nat.add_zero, hk', hf', rcv, w1, Bool.not_true]
        first
          | exact ⟨(k + 1, ou ++ [d], true), ⟨by simp only; omega, by simp; omega, by simp; omega, h5⟩, by simp only; omega, by rw [withSt_ne (by simp)]; rw [List.map_append, hX]; subst hY; simp [rcv, newR, newV]⟩
          | exact ⟨by omega, (k + 1, ou ++ [d], true), ⟨by simp only; omega, by simp; omega, by simp; omega, h5⟩, by simp only; omega, by rw [withSt_ne (by simp)]; rw [List.map_append, hX]; subst hY; simp [rcv, newR, newV]⟩
  · have hk2 : k = t.length := by omega
    subst hk2
    rw [List.drop_length] at h3
    obtain ⟨Y, hY⟩ : ∃ Y, Y = X := ⟨_, rfl⟩
    rw [← hY] at hX
    rcases X with _ | ⟨x, xs⟩
    · simp only [List.length_nil] at hXl
      omega
    simp only [List.length_cons] at hXl
    simp only [withSt_nil, withSt_cons, newV]
    have hle := congrArg List.length h3
    rw [withS_len, List.length_append] at hle
    cases dn
    all_goals simp only [Bool.toNat_false, Bool.toNat_true] at h2
    · rw [if_neg (by simp)] at h3 hle
      have e2 : xs.length + 1 + 1 = t.length + 1 := by
        simp [withS] at hle
        omega
      have e3 : (withS (newR key value) t).map rcv = x :: (xs ++ [rcv (newR key value)]) := by
        rw [h3, List.map_append, hX, hY]
        rfl
      rw [e3] at hK
      simp only [rcv, newR, List.map_nil] at hK
      rw [← e2] at hK
      simp (maxSteps := 4000000) only [EV, EVF, XV, cond_true, cond_false, Bool.false_eq_true, Bool.true_eq_false, eq_self, normsOf, cutsOf, heapOf, quietOf, drawsOf, drawmOf, drawfOf, opnOf, coldOf, shutOf, iceOf, extOf, extOverlaps_eq, overB_eq, extCmp_eq, shpOf, Try.f60, ↓reduceIte, Nat.reduceAdd, Nat.reduceLT, Nat.reduceEqDiff, Nat.reduceLeDiff, Nat.succ_ne_zero, Nat.zero_ne_one, Nat.one_ne_zero, ne_eq, not_false_eq_true, true_and, and_true, Nat.reduceMul, Nat.reduceSub, Int.reduceToNat, Int.toNat_zero, Int.toNat_one, Nat.zero_mul, Nat.one_mul, Int.reduceLT, Int.reduceLE, Int.le_refl, Int.zero_lt_one, Int.toNat_natCast, List.take_length, Int.cast_ofNat_Int, Int.reduceAdd, Int.reduceSub, Int.reduceBEq, Int.reduceBNe, ge_iff_le, gt_iff_lt, decide_true, decide_false, Int.lt_irrefl, Nat.zero_add, Nat.add_zero, Int.lt_irrefl, decide_false, Bool.not_false]
      rw [List.take_of_length_le (by simp)]
      first
        | exact ⟨by omega, hK⟩
    · rw [if_pos rfl] at h3 hle
      have e2 : xs.length + 1 = t.length + 1 := by
        simp at hle
        omega
      have e3 : (withS (newR key value) t).map rcv = x :: xs := by
        rw [h3, List.map_append, hX, hY]
        simp
      rw [e3] at hK
      rw [← e2] at hK
      simp (maxSteps := 4000000) only [EV, EVF, XV, cond_true, cond_false, Bool.false_eq_true, Bool.true_eq_false, eq_self, normsOf, cutsOf, heapOf, quietOf, drawsOf, drawmOf, drawfOf, opnOf, coldOf, shutOf, iceOf, extOf, extOverlaps_eq, overB_eq, extCmp_eq, shpOf, Try.f60, ↓reduceIte, Nat.reduceAdd, Nat.reduceLT, Nat.reduceEqDiff, Nat.reduceLeDiff, Nat.succ_ne_zero, Nat.zero_ne_one, Nat.one_ne_zero, ne_eq, not_false_eq_true, true_and, and_true, Nat.reduceMul, Nat.reduceSub, Int.reduceToNat, Int.toNat_zero, Int.toNat_one, Nat.zero_mul, Nat.one_mul, Int.reduceLT, Int.reduceLE, Int.le_refl, Int.zero_lt_one, Int.toNat_natCast, List.take_length, Int.cast_ofNat_Int, Int.reduceAdd, Int.reduceSub, Int.reduceBEq, Int.reduceBNe, ge_iff_le, gt_iff_lt, decide_true, decide_false, Int.lt_irrefl, Nat.zero_add, Nat.add_zero, Int.lt_irrefl, decide_false, Bool.not_true]
      first
        | exact hK
theorem rwith0_w (m : Nat) (hm : 1 ≤ m) (key value : List UInt8) (K : AV → Hp → Prop) (hK : K (.row 0 6 0 1) [some (.row 47 6 [rcv (newR key value)])]) : wpF C m 60 [.v (.slice none 0 0), .agg (newV key value)] [] K := by
  unfold newV
  simp only [rcv, newR, List.map_nil] at hK
  obtain ⟨m, rfl⟩ : ∃ j, m = j + 1 := ⟨m - 1, by omega⟩; simp only [wpF, bodyA, fn_60, C_P, ok_60, C_prim, primOf, true_and]; simp (maxSteps := 4000000) only [EV, EVF, XV, cond_true, cond_false, Bool.false_eq_true, Bool.true_eq_false, eq_self, normsOf, cutsOf, heapOf, quietOf, drawsOf, drawmOf, drawfOf, opnOf, coldOf, shutOf, iceOf, extOf, extOverlaps_eq, overB_eq, extCmp_eq, shpOf, Try.f60, ↓reduceIte, Nat.reduceAdd, Nat.reduceLT, Nat.reduceEqDiff, Nat.reduceLeDiff, Nat.succ_ne_zero, Nat.zero_ne_one, Nat.one_ne_zero, ne_eq, not_false_eq_true, true_and, and_true, Nat.reduceMul, Nat.reduceSub, Int.reduceToNat, Int.toNat_zero, Int.toNat_one, Nat.zero_mul, Nat.one_mul, Int.reduceLT, Int.reduceLE, Int.le_refl, Int.zero_lt_one, Int.toNat_natCast, List.take_length, Int.cast_ofNat_Int, Int.reduceAdd, Int.reduceSub, Int.reduceBEq, Int.reduceBNe, ge_iff_le, gt_iff_lt, decide_true, decide_false, Int.lt_irrefl, Nat.zero_add, Nat.add_zero]
  refine loop_at (fun u : Unit => ⟨[(0, .v (.slice none 0 0)), (3, .ptr 0 0), (5, .v (.slice none 0 0)), (6, .v (.bool false)), (7, .v (.int .i64 0))], [some (.var 47 [.v (.string (mk key)), .v (.string (mk value)), .v (.int .i64 1), .v (.int .i64 0), .v (.string (mk [])), .v (.slice none 0 0)])]⟩) (fun _ => True) (fun _ => 0) () trivial rfl ?_
  rintro u -
  simp (maxSteps := 4000000) only [EV, EVF, XV, cond_true, cond_false, Bool.false_eq_true, Bool.true_eq_false, eq_self, normsOf, cutsOf, heapOf, quietOf, drawsOf, drawmOf, drawfOf, opnOf, coldOf, shutOf, iceOf, extOf, extOverlaps_eq, overB_eq, extCmp_eq, shpOf, Try.f60, ↓reduceIte, Nat.reduceAdd, Nat.reduceLT, Nat.reduceEqDiff, Nat.reduceLeDiff, Nat.succ_ne_zero, Nat.zero_ne_one, Nat.one_ne_zero, ne_eq, not_false_eq_true, true_and, and_true, Nat.reduceMul, Nat.reduceSub, Int.reduceToNat, Int.toNat_zero, Int.toNat_one, Nat.zero_mul, Nat.one_mul, Int.reduceLT, Int.reduceLE, Int.le_refl, Int.zero_lt_one, Int.toNat_natCast, List.take_length, Int.cast_ofNat_Int, Int.reduceAdd, Int.reduceSub, Int.reduceBEq, Int.reduceBNe, ge_iff_le, gt_iff_lt, decide_true, decide_false, Int.lt_irrefl, Nat.zero_add, Nat.add_zero, Bool.not_false]
  first
    | exact hK
/-- What the document's scan tells. -/
def scanP (o : Opr) (r : Rec) : Bool := !decide (cmpL r.key o.key < 0) && (decide (o.to = []) || decide (cmpL r.key o.to < 0))
def scanR (t : List Rec) (o : Opr) : List (List UInt8) := ((t.filter (scanP o)).take 5).map (·.key)
def opb (o : Opr) : Option Blk := some (.var 26 (opv o))
def rpb : Option Blk := some (.var 37 [.v (.int .i64 0), .v (.int .i64 0), .v (.string (mk [])), .v (.slice none 0 0)])
def rscSt (t : List Rec) (o : Opr) (k : Nat) (X : List (List AV)) : St := match X with
  | [] => ⟨[(0, .row 0 6 0 t.length), (3, .ptr 1 0), (4, .ptr 2 0), (5, .ptr 3 0), (6, .v (.int .i64 k))], [some (.row 47 6 (t.map rcv)), opb o, rpb, rpb]⟩
  | x :: xs => ⟨[(0, .row 0 6 0 t.length), (3, .ptr 1 0), (4, .ptr 2 0), (5, .ptr 3 0), (6, .v (.int .i64 k))], [some (.row 47 6 (t.map rcv)), opb o, rpb, some (.var 37 [.v (.int .i64 0), .v (.int .i64 0), .v (.string (mk [])), .row 4 1 0 (xs.length + 1)]), some (.row 9 1 (x :: xs))]⟩
theorem rscSt_nil {t : List Rec} {o : Opr} {k : Nat} : rscSt t o k [] = ⟨[(0, .row 0 6 0 t.length), (3, .ptr 1 0), (4, .ptr 2 0), (5, .ptr 3 0), (6, .v (.int .i64 k))], [some (.row 47 6 (t.map rcv)), opb o, rpb, rpb]⟩ := rfl
theorem rscSt_cons {t : List Rec} {o : Opr} {k : Nat} {x : List AV} {xs : List (List AV)} : rscSt t o k (x :: xs) = ⟨[(0, .row 0 6 0 t.length), (3, .ptr 1 0), (4, .ptr 2 0), (5, .ptr 3 0), (6, .v (.int .i64 k))], [some (.row 47 6 (t.map rcv)), opb o, rpb, some (.var 37 [.v (.int .i64 0), .v (.int .i64 0), .v (.string (mk [])), .row 4 1 0 (xs.length + 1)]), some (.row 9 1 (x :: xs))]⟩ := rfl
theorem rscSt_ne {t : List Rec} {o : Opr} {k : Nat} {X : List (List AV)} (h : X ≠ []) : rscSt t o k X = ⟨[(0, .row 0 6 0 t.length), (3, .ptr 1 0), (4, .ptr 2 0), (5, .ptr 3 0), (6, .v (.int .i64 k))], [some (.row 47 6 (t.map rcv)), opb o, rpb, some (.var 37 [.v (.int .i64 0), .v (.int .i64 0), .v (.string (mk [])), .row 4 1 0 X.length]), some (.row 9 1 X)]⟩ := by
  cases X with
  | nil => exact absurd rfl h
  | cons x xs => rfl
theorem rscan_w (m : Nat) (hm : 1 ≤ m) (t : List Rec) (ht : t.length ≤ 1000) (o : Opr) (K : AV → Hp → Prop) (hK : K (.agg [.v (.int .i64 0), .v (.int .i64 0), .v (.string (mk [])), .lst 1 ((scanR t o).map tv)]) [some (.row 47 6 (t.map rcv))]) : wpF C m 45 [.row 0 6 0 t.length, .agg (opv o)] [some (.row 47 6 (t.map rcv))] K := by
  unfold opv
  obtain ⟨m, rfl⟩ : ∃ j, m = j + 1 := ⟨m - 1, by omega⟩; simp only [wpF, bodyA, fn_45, C_P, ok_45, C_prim, primOf, true_and]; simp (maxSteps := 4000000) only [EV, EVF, XV, cond_true, cond_false, Bool.false_eq_true, Bool.true_eq_false, eq_self, normsOf, cutsOf, heapOf, quietOf, drawsOf, drawmOf, drawfOf, opnOf, coldOf, shutOf, iceOf, extOf, extOverlaps_eq, overB_eq, extCmp_eq, shpOf, Try.f45, ↓reduceIte, Nat.reduceAdd, Nat.reduceLT, Nat.reduceEqDiff, Nat.reduceLeDiff, Nat.succ_ne_zero, Nat.zero_ne_one, Nat.one_ne_zero, ne_eq, not_false_eq_true, true_and, and_true, Nat.reduceMul, Nat.reduceSub, Int.reduceToNat, Int.toNat_zero, Int.toNat_one, Nat.zero_mul, Nat.one_mul, Int.reduceLT, Int.reduceLE, Int.le_refl, Int.zero_lt_one, Int.toNat_natCast, List.take_length, Int.cast_ofNat_Int, Int.reduceAdd, Int.reduceSub, Int.reduceBEq, Int.reduceBNe, ge_iff_le, gt_iff_lt, decide_true, decide_false, Int.lt_irrefl, Nat.zero_add, Nat.add_zero]
  refine loop_at (fun p : Nat × List Rec => rscSt t o p.1 (p.2.map fun r => tv r.key)) (fun p => p.1 ≤ t.length ∧ p.2.length ≤ 5 ∧ scanR t o = (p.2 ++ ((t.drop p.1).filter (scanP o)).take (5 - p.2.length)).map (·.key)) (fun p => t.length - p.1) (0, []) ⟨by simp, by simp, by simp [scanR]⟩ rfl ?_
  rintro ⟨k, ou⟩ ⟨h1, h2, h3⟩
  simp only at h1 h2 h3
  obtain ⟨X, hX⟩ : ∃ X, ou.map (fun r => tv r.key) = X := ⟨_, rfl⟩
  have hXl : X.length = ou.length := by rw [← hX, List.length_map]
  simp only
  rw [hX]
  have fin : scanR t o = ou.map (·.key) → (scanR t o).map tv = X := fun h => by
    rw [h, List.map_map, ← hX]
    rfl
  by_cases hk : k < t.length
  · obtain ⟨d, hf, hd⟩ := drop_at hk
    have hf' := map_at (f := rcv) hf
    have hk' : ((k : Int) < t.length) = True := eq_true (by omega)
    have w1 : IntKind.i64.wrap ((k : Int) + 1) = ((k + 1 : Nat) : Int) := by rw [wrap64 (by omega) (by omega)]; rfl
    rw [hd] at h3
    by_cases h5 : ou.length = 5
    · have e := fin (by rw [h3, h5]; simp)
      rw [e] at hK
      have hlt : ((X.length : Int) < 5) = False := eq_false (by omega)
      rcases X with _ | ⟨x, xs⟩
      · simp at hXl
        omega
      simp only [List.length_cons] at hlt
      simp only [rscSt_cons, opb, rpb, opv]
      simp (maxSteps := 4000000) only [EV, EVF, XV, cond_true, cond_false, Bool.false_eq_true, Bool.true_eq_false, eq_self, normsOf, cutsOf, heapOf, quietOf, drawsOf, drawmOf, drawfOf, opnOf, coldOf, shutOf, iceOf, extOf, extOverlaps_eq, overB_eq, extCmp_eq, shpOf, Try.f45, ↓reduceIte, Nat.reduceAdd, Nat.reduceLT, Nat.reduceEqDiff, Nat.reduceLeDiff, Nat.succ_ne_zero, Nat.zero_ne_one, Nat.one_ne_zero, ne_eq, not_false_eq_true, true_and, and_true, Nat.reduceMul, Nat.reduceSub, Int.reduceToNat, Int.toNat_zero, Int.toNat_one, Nat.zero_mul, Nat.one_mul, Int.reduceLT, Int.reduceLE, Int.le_refl, Int.zero_lt_one, Int.toNat_natCast, List.take_length, Int.cast_ofNat_Int, Int.reduceAdd, Int.reduceSub, Int.reduceBEq, Int.reduceBNe, ge_iff_le, gt_iff_lt, decide_true, decide_false, Int.lt_irrefl, Nat.zero_add, Nat.add_zero, hk', hf', rcv, w1, hlt]
      first
        | exact hK
    have hlt : ((X.length : Int) < 5) = True := eq_true (by omega)
    by_cases hb : scanP o d = true
    · have hsc : scanR t o = ((ou ++ [d]) ++ ((t.drop (k + 1)).filter (scanP o)).take (5 - (ou ++ [d]).length)).map (·.key) := by
        rw [h3, List.filter_cons_of_pos hb, show 5 - ou.length = (5 - (ou ++ [d]).length) + 1 by simp; omega, List.take_succ_cons, List.append_assoc]
        rfl
      have hX2 : (ou ++ [d]).map (fun r => tv r.key) = X ++ [tv d.key] := by
        rw [List.map_append, hX]
        rfl
      have hb' := hb
      unfold scanP at hb'
      simp only [Bool.and_eq_true, Bool.or_eq_true, decide_eq_true_eq, Bool.not_eq_true', decide_eq_false_iff_not] at hb'
      obtain ⟨Y, hY⟩ : ∃ Y, Y = X := ⟨_, rfl⟩
      rw [← hY] at hX2
      rcases hb'.2 with hto | hto
      · rcases X with _ | ⟨x, xs⟩
        all_goals
          try simp only [List.length_cons] at hlt hXl
          simp only [rscSt_nil, rscSt_cons, opb, rpb, opv]
          simp (maxSteps := 4000000) only [EV, EVF, XV, cond_true, cond_false, Bool.false_eq_true, Bool.true_eq_false, eq_self, normsOf, cutsOf, heapOf, quietOf, drawsOf, drawmOf, drawfOf, opnOf, coldOf, shutOf, iceOf, extOf, extOverlaps_eq, overB_eq, extCmp_eq, shpOf, Try.f45, ↓reduceIte, Nat.reduceAdd, Nat.reduceLT, Nat.reduceEqDiff, Nat.reduceLeDiff, Nat.succ_ne_zero, Nat.zero_ne_one, Nat.one_ne_zero, ne_eq, not_false_eq_true, true_and, and_true, Nat.reduceMul, Nat.reduceSub, Int.reduceToNat, Int.toNat_zero, Int.toNat_one, Nat.zero_mul, Nat.one_mul, Int.reduceLT, Int.reduceLE, Int.le_refl, Int.zero_lt_one, Int.toNat_natCast, List.take_length, Int.cast_ofNat_Int, Int.reduceAdd, Int.reduceSub, Int.reduceBEq, Int.reduceBNe, ge_iff_le, gt_iff_lt, decide_true, decide_false, Int.lt_irrefl, Nat.zero_add, Nat.add_zero, hk', hf', rcv, w1, hlt, less_cmp, decide_eq_false hb'.1, decide_eq_true hto, Bool.not_false, Bool.not_true]
          first
            | exact ⟨(k + 1, ou ++ [d]), ⟨by simp only; omega, by simp; omega, hsc⟩, by simp only; omega, by simp only; rw [hX2, rscSt_ne (by simp)]; subst hY; simp [opb, rpb, opv, tv]⟩
            | exact ⟨by omega, (k + 1, ou ++ [d]), ⟨by simp only; omega, by simp; omega, hsc⟩, by simp only; omega, by simp only; rw [hX2, rscSt_ne (by simp)]; subst hY; simp [opb, rpb, opv, tv]⟩
      · have hne : ¬ o.to = [] := fun hc => by
          rw [hc] at hto
          have h6 : Op.bytesLess d.key [] = decide (cmpL d.key [] < 0) := less_cmp _ _
          rw [decide_eq_true hto] at h6
          cases hdk : d.key <;> rw [hdk] at h6 <;> simp [Op.bytesLess] at h6
        rcases X with _ | ⟨x, xs⟩
        all_goals
          try simp only [List.length_cons] at hlt hXl
          simp only [rscSt_nil, rscSt_cons, opb, rpb, opv]
          simp (maxSteps := 4000000) only [EV, EVF, XV, cond_true, cond_false, Bool.false_eq_true, Bool.true_eq_false, eq_self, normsOf, cutsOf, heapOf, quietOf, drawsOf, drawmOf, drawfOf, opnOf, coldOf, shutOf, iceOf, extOf, extOverlaps_eq, overB_eq, extCmp_eq, shpOf, Try.f45, ↓reduceIte, Nat.reduceAdd, Nat.reduceLT, Nat.reduceEqDiff, Nat.reduceLeDiff, Nat.succ_ne_zero, Nat.zero_ne_one, Nat.one_ne_zero, ne_eq, not_false_eq_true, true_and, and_true, Nat.reduceMul, Nat.reduceSub, Int.reduceToNat, Int.toNat_zero, Int.toNat_one, Nat.zero_mul, Nat.one_mul, Int.reduceLT, Int.reduceLE, Int.le_refl, Int.zero_lt_one, Int.toNat_natCast, List.take_length, Int.cast_ofNat_Int, Int.reduceAdd, Int.reduceSub, Int.reduceBEq, Int.reduceBNe, ge_iff_le, gt_iff_lt, decide_true, decide_false, Int.lt_irrefl, Nat.zero_add, Nat.add_zero, hk', hf', rcv, w1, hlt, less_cmp, decide_eq_false hb'.1, decide_eq_true hto, decide_eq_false hne, Bool.not_false, Bool.not_true]
          first
            | exact ⟨(k + 1, ou ++ [d]), ⟨by simp only; omega, by simp; omega, hsc⟩, by simp only; omega, by simp only; rw [hX2, rscSt_ne (by simp)]; subst hY; simp [opb, rpb, opv, tv]⟩
            | exact ⟨by omega, (k + 1, ou ++ [d]), ⟨by simp only; omega, by simp; omega, hsc⟩, by simp only; omega, by simp only; rw [hX2, rscSt_ne (by simp)]; subst hY; simp [opb, rpb, opv, tv]⟩
    · have hsc : scanR t o = (ou ++ ((t.drop (k + 1)).filter (scanP o)).take (5 - ou.length)).map (·.key) := by
        rw [h3, List.filter_cons_of_neg hb]
      have hb' := hb
      unfold scanP at hb'
      by_cases hlo : cmpL d.key o.key < 0
      · rcases X with _ | ⟨x, xs⟩
        all_goals
          try simp only [List.length_cons] at hlt hXl
          simp only [rscSt_nil, rscSt_cons, opb, rpb, opv]
          simp (maxSteps := 4000000) only [EV, EVF, XV, cond_true, cond_false, Bool.false_eq_true, Bool.true_eq_false, eq_self, normsOf, cutsOf, heapOf, quietOf, drawsOf, drawmOf, drawfOf, opnOf, coldOf, shutOf, iceOf, extOf, extOverlaps_eq, overB_eq, extCmp_eq, shpOf, Try.f45, ↓reduceIte, Nat.reduceAdd, Nat.reduceLT, Nat.reduceEqDiff, Nat.reduceLeDiff, Nat.succ_ne_zero, Nat.zero_ne_one, Nat.one_ne_zero, ne_eq, not_false_eq_true, true_and, and_true, Nat.reduceMul, Nat.reduceSub, Int.reduceToNat, Int.toNat_zero, Int.toNat_one, Nat.zero_mul, Nat.one_mul, Int.reduceLT, Int.reduceLE, Int.le_refl, Int.zero_lt_one, Int.toNat_natCast, List.take_length, Int.cast_ofNat_Int, Int.reduceAdd, Int.reduceSub, Int.reduceBEq, Int.reduceBNe, ge_iff_le, gt_iff_lt, decide_true, decide_false, Int.lt_irrefl, Nat.zero_add, Nat.add_zero, hk', hf', rcv, w1, hlt, less_cmp, decide_eq_true hlo, Bool.not_true]
          first
            | exact ⟨(k + 1, ou), ⟨by simp only; omega, by simp only; omega, hsc⟩, by simp only; omega, by simp only; rw [hX]; rfl⟩
      · have hto : ¬ o.to = [] ∧ ¬ cmpL d.key o.to < 0 := by
          constructor
          · intro hc
            exact hb' (by simp [hlo, hc])
          · intro hc
            exact hb' (by simp [hlo, hc])
        rcases X with _ | ⟨x, xs⟩
        all_goals
          try simp only [List.length_cons] at hlt hXl
          simp only [rscSt_nil, rscSt_cons, opb, rpb, opv]
          simp (maxSteps := 4000000) only [EV, EVF, XV, cond_true, cond_false, Bool.false_eq_true, Bool.true_eq_false, eq_self, normsOf, cutsOf, heapOf, quietOf, drawsOf, drawmOf, drawfOf, opnOf, coldOf, shutOf, iceOf, extOf, extOverlaps_eq, overB_eq, extCmp_eq, shpOf, Try.f45, ↓reduceIte, Nat.reduceAdd, Nat.reduceLT, Nat.reduceEqDiff, Nat.reduceLeDiff, Nat.succ_ne_zero, Nat.zero_ne_one, Nat.one_ne_zero, ne_eq, not_false_eq_true, true_and, and_true, Nat.reduceMul, Nat.reduceSub, Int.reduceToNat, Int.toNat_zero, Int.toNat_one, Nat.zero_mul, Nat.one_mul, Int.reduceLT, Int.reduceLE, Int.le_refl, Int.zero_lt_one, Int.toNat_natCast, List.take_length, Int.cast_ofNat_Int, Int.reduceAdd, Int.reduceSub, Int.reduceBEq, Int.reduceBNe, ge_iff_le, gt_iff_lt, decide_true, decide_false, Int.lt_irrefl, Nat.zero_add, Nat.add_zero, hk', hf', rcv, w1, hlt, less_cmp, decide_eq_false hlo, decide_eq_false hto.1, decide_eq_false hto.2, Bool.not_false]
          first
            | exact ⟨(k + 1, ou), ⟨by simp only; omega, by simp only; omega, hsc⟩, by simp only; omega, by simp only; rw [hX]; rfl⟩
  · have hk2 : k = t.length := by omega
    subst hk2
    rw [List.drop_length] at h3
    have e := fin (by rw [h3]; simp)
    rw [e] at hK
    rcases X with _ | ⟨x, xs⟩
    all_goals
      simp only [rscSt_nil, rscSt_cons, opb, rpb, opv]
      simp (maxSteps := 4000000) only [EV, EVF, XV, cond_true, cond_false, Bool.false_eq_true, Bool.true_eq_false, eq_self, normsOf, cutsOf, heapOf, quietOf, drawsOf, drawmOf, drawfOf, opnOf, coldOf, shutOf, iceOf, extOf, extOverlaps_eq, overB_eq, extCmp_eq, shpOf, Try.f45, ↓reduceIte, Nat.reduceAdd, Nat.reduceLT, Nat.reduceEqDiff, Nat.reduceLeDiff, Nat.succ_ne_zero, Nat.zero_ne_one, Nat.one_ne_zero, ne_eq, not_false_eq_true, true_and, and_true, Nat.reduceMul, Nat.reduceSub, Int.reduceToNat, Int.toNat_zero, Int.toNat_one, Nat.zero_mul, Nat.one_mul, Int.reduceLT, Int.reduceLE, Int.le_refl, Int.zero_lt_one, Int.toNat_natCast, List.take_length, Int.cast_ofNat_Int, Int.reduceAdd, Int.reduceSub, Int.reduceBEq, Int.reduceBNe, ge_iff_le, gt_iff_lt, decide_true, decide_false, Int.lt_irrefl, Nat.zero_add, Nat.add_zero, Int.lt_irrefl, decide_false]
      first
        | exact hK
theorem rscan0_w (m : Nat) (hm : 1 ≤ m) (o : Opr) (K : AV → Hp → Prop) (hK : K (.agg [.v (.int .i64 0), .v (.int .i64 0), .v (.string (mk [])), .lst 1 []]) []) : wpF C m 45 [.v (.slice none 0 0), .agg (opv o)] [] K := by
  unfold opv
  obtain ⟨m, rfl⟩ : ∃ j, m = j + 1 := ⟨m - 1, by omega⟩; simp only [wpF, bodyA, fn_45, C_P, ok_45, C_prim, primOf, true_and]; simp (maxSteps := 4000000) only [EV, EVF, XV, cond_true, cond_false, Bool.false_eq_true, Bool.true_eq_false, eq_self, normsOf, cutsOf, heapOf, quietOf, drawsOf, drawmOf, drawfOf, opnOf, coldOf, shutOf, iceOf, extOf, extOverlaps_eq, overB_eq, extCmp_eq, shpOf, Try.f45, ↓reduceIte, Nat.reduceAdd, Nat.reduceLT, Nat.reduceEqDiff, Nat.reduceLeDiff, Nat.succ_ne_zero, Nat.zero_ne_one, Nat.one_ne_zero, ne_eq, not_false_eq_true, true_and, and_true, Nat.reduceMul, Nat.reduceSub, Int.reduceToNat, Int.toNat_zero, Int.toNat_one, Nat.zero_mul, Nat.one_mul, Int.reduceLT, Int.reduceLE, Int.le_refl, Int.zero_lt_one, Int.toNat_natCast, List.take_length, Int.cast_ofNat_Int, Int.reduceAdd, Int.reduceSub, Int.reduceBEq, Int.reduceBNe, ge_iff_le, gt_iff_lt, decide_true, decide_false, Int.lt_irrefl, Nat.zero_add, Nat.add_zero]
  refine loop_at (fun u : Unit => ⟨[(0, .v (.slice none 0 0)), (3, .ptr 0 0), (4, .ptr 1 0), (5, .ptr 2 0), (6, .v (.int .i64 0))], [some (.var 26 (opv o)), some (.var 37 [.v (.int .i64 0), .v (.int .i64 0), .v (.string (mk [])), .v (.slice none 0 0)]), some (.var 37 [.v (.int .i64 0), .v (.int .i64 0), .v (.string (mk [])), .v (.slice none 0 0)])]⟩) (fun _ => True) (fun _ => 0) () trivial rfl ?_
  rintro u -
  simp (maxSteps := 4000000) only [EV, EVF, XV, cond_true, cond_false, Bool.false_eq_true, Bool.true_eq_false, eq_self, normsOf, cutsOf, heapOf, quietOf, drawsOf, drawmOf, drawfOf, opnOf, coldOf, shutOf, iceOf, extOf, extOverlaps_eq, overB_eq, extCmp_eq, shpOf, Try.f45, ↓reduceIte, Nat.reduceAdd, Nat.reduceLT, Nat.reduceEqDiff, Nat.reduceLeDiff, Nat.succ_ne_zero, Nat.zero_ne_one, Nat.one_ne_zero, ne_eq, not_false_eq_true, true_and, and_true, Nat.reduceMul, Nat.reduceSub, Int.reduceToNat, Int.toNat_zero, Int.toNat_one, Nat.zero_mul, Nat.one_mul, Int.reduceLT, Int.reduceLE, Int.le_refl, Int.zero_lt_one, Int.toNat_natCast, List.take_length, Int.cast_ofNat_Int, Int.reduceAdd, Int.reduceSub, Int.reduceBEq, Int.reduceBNe, ge_iff_le, gt_iff_lt, decide_true, decide_false, Int.lt_irrefl, Nat.zero_add, Nat.add_zero]
  first
    | exact hK
end Go.Ai

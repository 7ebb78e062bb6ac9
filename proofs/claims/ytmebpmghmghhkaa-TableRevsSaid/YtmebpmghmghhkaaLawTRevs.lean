/- TableRevs: the machine's word. -/
import Derived.Test.YtmebpmghmghhkaaTab15
import Derived.Test.YtmebpmghmghhkaaTabFit
set_option linter.unusedVariables false
set_option linter.unusedSimpArgs false
set_option maxRecDepth 100000
set_option maxHeartbeats 4000000
namespace Go.Ai
open Go.Proofs
/-- A table of one key, or of none. -/
def tabOf (c : Option Rec) : List Rec := match c with
  | none => []
  | some r => [r]
def okC (n : Nat) (c : Option Rec) : Prop := match c with
  | none => True
  | some r => r.key = [107] ∧ rightR 2 r = true ∧ r.extra = [] ∧ 1 ≤ r.rev ∧ r.rev ≤ n
theorem tabOf_right {n : Nat} {c : Option Rec} (h : okC n c) : tabR (tabOf c) = true := by
  cases c with
  | none => rfl
  | some r => exact tabR_iff.2 ⟨List.pairwise_singleton _ _, by simpa [tabOf] using h.2.1, by simp [tabOf]⟩
theorem tabOf_find {n : Nat} {c : Option Rec} (h : okC n c) : findT [107] (tabOf c) = c := by
  cases c with
  | none => rfl
  | some r =>
    unfold tabOf
    rw [findT_cons, if_pos h.1]
theorem tabOf_chg {n : Nat} {c f : Option Rec} {u : List Rec} (h : okC n c) (hc : Chg [107] (tabOf c) u f) : u = tabOf f := by
  obtain ⟨h1, h2, h3, h4⟩ := hc.find (tabR_iff.1 (tabOf_right h)).1
  rw [tabOf_find h] at h4
  have hl : u.length = if f.isSome then 1 else 0 := by
    cases c <;> simp [tabOf] at h4 <;> omega
  match u with
  | [] =>
    cases f with
    | none => rfl
    | some x => simp at hl
  | [x] =>
    rw [findT_cons] at h2
    cases f with
    | none => simp at hl
    | some y =>
      split at h2
      · simp only [Option.some.injEq] at h2
        rw [h2]
        rfl
      · simp [findT] at h2
  | x :: y :: l =>
    cases f <;> simp at hl
/-- What comes of one op. -/
def OneC (n : Nat) (o : Opr) (c c' : Option Rec) (r : Rpy) : Prop :=
  (r.errno = 70 ∧ c = none ∧ c' = none) ∨ (r.errno = 71 ∧ c' = c) ∨ (r.errno = 0 ∧ o.kind = 3 ∧ r.rev = revC c ∧ c' = none) ∨ (r.errno = 0 ∧ o.kind = 1 ∧ r.rev = revC c ∧ c' = c) ∨ (r.errno = 0 ∧ o.kind = 6 ∧ c' = c) ∨
  (r.errno = 0 ∧ o.kind ≠ 3 ∧ o.kind ≠ 1 ∧ o.kind ≠ 6 ∧ r.rev = revC c + 1 ∧ ∃ x, c' = some x ∧ x.rev = revC c + 1)
theorem revs_step {n : Nat} {c : Option Rec} {o : Opr} (hn : n ≤ 30) (h : okC n c) (hk : o.key = [107]) (ho : checkS 2 o = 0) : ∃ c' r, doS (tabOf c) o = ⟨tabOf c', r⟩ ∧ okC (n + 1) c' ∧ OneC n o c c' r := by
  have ht := tabOf_right h
  have up : okC (n + 1) c := by
    cases c with
    | none => trivial
    | some r => exact ⟨h.1, h.2.1, h.2.2.1, h.2.2.2.1, by have := h.2.2.2.2; omega⟩
  by_cases k6 : o.kind = 6
  · refine ⟨c, ⟨0, 0, [], scanS (tabOf c) o (posT o.key (tabOf c))⟩, ?_, up, .inr (.inr (.inr (.inr (.inl ⟨rfl, k6, rfl⟩))))⟩
    unfold doS
    rw [if_pos ⟨ht, ho⟩]
    unfold stepS
    simp [k6]
  obtain ⟨d1, d2, d3⟩ := do_cell ht ho k6
  rw [hk, tabOf_find h] at d1 d2
  have h20 : decide (20 ≤ (tabOf c).length) = false := by
    cases c <;> simp [tabOf]
  rw [h20] at d1 d2
  have e := tabOf_chg h d1
  generalize hcc : cellC o c false = cc at *
  refine ⟨cc.1, cc.2, ?_, ?_, ?_⟩
  · generalize doS (tabOf c) o = x at *
    obtain ⟨a, b⟩ := x
    simp only at e d2
    rw [e, d2]
  · have hrr : ∀ x, cc.1 = some x → rightR 2 x = true := fun x hx => by
      rw [e, hx] at d3
      exact (tabR_iff.1 d3).2.1 x (by simp [tabOf])
    have hkk : ∀ x, cc.1 = some x → x.key = [107] := fun x hx => by
      have := (d1.find (tabR_iff.1 ht).1).2.1
      rw [hx] at this
      exact (findT_mem this).2
    cases h1 : cc.1 with
    | none => trivial
    | some x =>
      refine ⟨hkk x h1, hrr x h1, ?_⟩
      rw [← hcc] at h1
      clear hrr hkk
      unfold cellC at h1
      cases c with
      | none =>
        simp only [putC, markC, revC, Bool.false_eq_true, if_false] at h1
        repeat' split at h1
        all_goals first | (simp only [Option.some.injEq] at h1; subst h1; exact ⟨rfl, by (try simp only [newR]); omega, by (try simp only [newR]); omega⟩) | simp at h1
      | some r =>
        obtain ⟨b1, b2, b5, b3, b4⟩ := h
        simp only [putC, markC, revC] at h1
        repeat' split at h1
        all_goals first | (simp only [Option.some.injEq] at h1; subst h1; exact ⟨b5, by (try simp only [putG, markG]); omega, by (try simp only [putG, markG]); omega⟩) | simp at h1
  · rw [← hcc]
    unfold OneC cellC
    cases c with
    | none =>
      simp only [putC, markC, revC, Bool.false_eq_true, if_false]
      repeat' split
      all_goals first
        | exact .inl ⟨rfl, by trivial, rfl⟩
        | exact .inr (.inl ⟨rfl, rfl⟩)
        | exact .inr (.inr (.inr (.inr (.inr ⟨rfl, by omega, by omega, by omega, rfl, _, rfl, rfl⟩))))
    | some r =>
      obtain ⟨b1, b2, b5, b3, b4⟩ := h
      simp only [putC, markC, revC]
      have hm : ¬ r.rev = 9007199254740992 := by omega
      simp only [if_neg hm]
      repeat' split
      all_goals first
        | exact .inr (.inl ⟨rfl, rfl⟩)
        | exact .inr (.inr (.inl ⟨rfl, by assumption, rfl, rfl⟩))
        | exact .inr (.inr (.inr (.inl ⟨rfl, by assumption, rfl, rfl⟩)))
        | exact .inr (.inr (.inr (.inr (.inr ⟨rfl, by omega, by omega, by omega, rfl, _, rfl, rfl⟩))))
theorem check_key {o : Opr} (h : checkS 2 o = 0) : checkS 2 { o with key := [107] } = 0 := by
  unfold checkS at h ⊢
  split at h
  · simp at h
  rename_i h1
  split at h
  · simp at h
  rename_i h2
  rw [if_neg, if_neg, if_neg]
  · simp
  · rintro (hc | hc | hc | hc | hc | hc)
    · simp at hc
    · exact h2 (.inr (.inl hc))
    · exact h2 (.inr (.inr (.inl hc)))
    · exact h2 (.inr (.inr (.inr (.inl hc))))
    · exact h2 (.inr (.inr (.inr (.inr (.inl hc)))))
    · exact h2 (.inr (.inr (.inr (.inr (.inr hc)))))
  · rintro (hc | hc | hc | hc)
    · exact h1 (.inl hc)
    · exact h1 (.inr (.inl hc))
    · exact h1 (.inr (.inr (.inl hc)))
    · simp at hc
def slC (i : Nat) (c : Option Rec) : AV := match i with
  | 0 => .v (.slice none 0 0)
  | _ + 1 => .lst 6 ((tabOf c).map rcv)
theorem trevs_law (m : Nat) (hm : 30 ≤ m) (raw : List R5) (hrl : raw.length * 40 ≤ 140737488351232) (hr : ∀ r ∈ raw, r5k r) : wpF C m 10 [.lst 5 (raw.map r5w)] [] fun r _ => r = .v (.bool true) := by
  obtain ⟨m, rfl⟩ : ∃ j, m = j + 1 := ⟨m - 1, by omega⟩; simp only [wpF, bodyA, fn_10, C_P, ok_10, C_prim, primOf, true_and]; simp (maxSteps := 4000000) only [EV, EVF, XV, cond_true, cond_false, Bool.false_eq_true, Bool.true_eq_false, eq_self, normsOf, cutsOf, heapOf, quietOf, drawsOf, drawmOf, drawfOf, opnOf, coldOf, shutOf, iceOf, extOf, extOverlaps_eq, overB_eq, extCmp_eq, shpOf, Try.f10, ↓reduceIte, Nat.reduceAdd, Nat.reduceLT, Nat.reduceEqDiff, Nat.reduceLeDiff, Nat.succ_ne_zero, Nat.zero_ne_one, Nat.one_ne_zero, ne_eq, not_false_eq_true, true_and, and_true, Nat.reduceMul, Nat.reduceSub, Int.reduceToNat, Int.toNat_zero, Int.toNat_one, Nat.zero_mul, Nat.one_mul, Int.reduceLT, Int.reduceLE, Int.le_refl, Int.zero_lt_one, Int.toNat_natCast, List.take_length, Int.cast_ofNat_Int, Int.reduceAdd, Int.reduceSub, Int.reduceBEq, Int.reduceBNe, ge_iff_le, gt_iff_lt, decide_true, decide_false, Int.lt_irrefl, Nat.zero_add, Nat.add_zero]
  refine awake12_w m (by omega) _ fun H => ?_
  simp (maxSteps := 4000000) only [EV, EVF, XV, cond_true, cond_false, Bool.false_eq_true, Bool.true_eq_false, eq_self, normsOf, cutsOf, heapOf, quietOf, drawsOf, drawmOf, drawfOf, opnOf, coldOf, shutOf, iceOf, extOf, extOverlaps_eq, overB_eq, extCmp_eq, shpOf, Try.f10, ↓reduceIte, Nat.reduceAdd, Nat.reduceLT, Nat.reduceEqDiff, Nat.reduceLeDiff, Nat.succ_ne_zero, Nat.zero_ne_one, Nat.one_ne_zero, ne_eq, not_false_eq_true, true_and, and_true, Nat.reduceMul, Nat.reduceSub, Int.reduceToNat, Int.toNat_zero, Int.toNat_one, Nat.zero_mul, Nat.one_mul, Int.reduceLT, Int.reduceLE, Int.le_refl, Int.zero_lt_one, Int.toNat_natCast, List.take_length, Int.cast_ofNat_Int, Int.reduceAdd, Int.reduceSub, Int.reduceBEq, Int.reduceBNe, ge_iff_le, gt_iff_lt, decide_true, decide_false, Int.lt_irrefl, Nat.zero_add, Nat.add_zero]
  refine loop_at (fun p : Nat × Option Rec => ⟨[(0, .lst 5 (raw.map r5w)), (3, .v (.bool true)), (4, slC p.1 p.2), (5, .v (.int .i64 (revC p.2))), (6, .v (.int .i64 p.1))], []⟩) (fun p => p.1 ≤ raw.length ∧ p.1 ≤ 30 ∧ okC p.1 p.2 ∧ (p.1 = 0 → p.2 = none)) (fun p => 30 - p.1) (0, none) ⟨by simp, by simp, trivial, by simp⟩ rfl ?_
  rintro ⟨i, c⟩ ⟨h1, h2, h3, h4⟩
  simp only at h1 h2 h3 h4 ⊢
  by_cases hi : i < raw.length
  rotate_left
  · have q1 : ((i : Int) < raw.length) = False := eq_false (by omega)
    simp (maxSteps := 4000000) only [EV, EVF, XV, cond_true, cond_false, Bool.false_eq_true, Bool.true_eq_false, eq_self, normsOf, cutsOf, heapOf, quietOf, drawsOf, drawmOf, drawfOf, opnOf, coldOf, shutOf, iceOf, extOf, extOverlaps_eq, overB_eq, extCmp_eq, shpOf, Try.f10, ↓reduceIte, Nat.reduceAdd, Nat.reduceLT, Nat.reduceEqDiff, Nat.reduceLeDiff, Nat.succ_ne_zero, Nat.zero_ne_one, Nat.one_ne_zero, ne_eq, not_false_eq_true, true_and, and_true, Nat.reduceMul, Nat.reduceSub, Int.reduceToNat, Int.toNat_zero, Int.toNat_one, Nat.zero_mul, Nat.one_mul, Int.reduceLT, Int.reduceLE, Int.le_refl, Int.zero_lt_one, Int.toNat_natCast, List.take_length, Int.cast_ofNat_Int, Int.reduceAdd, Int.reduceSub, Int.reduceBEq, Int.reduceBNe, ge_iff_le, gt_iff_lt, decide_true, decide_false, Int.lt_irrefl, Nat.zero_add, Nat.add_zero, q1]
  have q1 : ((i : Int) < raw.length) = True := eq_true (by omega)
  by_cases hi2 : i < 30
  rotate_left
  · have q2 : ((i : Int) < 30) = False := eq_false (by omega)
    simp (maxSteps := 4000000) only [EV, EVF, XV, cond_true, cond_false, Bool.false_eq_true, Bool.true_eq_false, eq_self, normsOf, cutsOf, heapOf, quietOf, drawsOf, drawmOf, drawfOf, opnOf, coldOf, shutOf, iceOf, extOf, extOverlaps_eq, overB_eq, extCmp_eq, shpOf, Try.f10, ↓reduceIte, Nat.reduceAdd, Nat.reduceLT, Nat.reduceEqDiff, Nat.reduceLeDiff, Nat.succ_ne_zero, Nat.zero_ne_one, Nat.one_ne_zero, ne_eq, not_false_eq_true, true_and, and_true, Nat.reduceMul, Nat.reduceSub, Int.reduceToNat, Int.toNat_zero, Int.toNat_one, Nat.zero_mul, Nat.one_mul, Int.reduceLT, Int.reduceLE, Int.le_refl, Int.zero_lt_one, Int.toNat_natCast, List.take_length, Int.cast_ofNat_Int, Int.reduceAdd, Int.reduceSub, Int.reduceBEq, Int.reduceBNe, ge_iff_le, gt_iff_lt, decide_true, decide_false, Int.lt_irrefl, Nat.zero_add, Nat.add_zero, q1, q2]
  have q2 : ((i : Int) < 30) = True := eq_true (by omega)
  obtain ⟨d, hf, hd⟩ := drop_at hi
  have hf' := map_at (f := r5w) hf
  have w1 : IntKind.i64.wrap ((i : Int) + 1) = ((i + 1 : Nat) : Int) := by rw [wrap64 (by omega) (by omega)]; rfl
  have hrk := hr d (List.mem_of_getElem? hf)
  have hop := fun (m : Nat) (hm : 3 ≤ m) K => op_w m hm d.a d.b d.c d.d d.e hrk.1 hrk.2.1 hrk.2.2.1 hrk.2.2.2.1 hrk.2.2.2.2 K
  have hck := check_key (op_ok hrk)
  have hokT : okT (tabOf c) := by
    cases c with
    | none => exact ⟨by simp [tabOf], by simp [tabOf]⟩
    | some x => exact ⟨by simp [tabOf], by simp [tabOf, h3.2.2.1]⟩
  rw [show opS d.a d.b d.c d.d d.e = opR d from rfl] at hop
  generalize opR d = o at *
  have hdo := fun (m : Nat) (hm : 12 ≤ m) K => do_w m hm (tabOf c) hokT { o with key := [107] } K
  obtain ⟨c', r, e, ok', hone⟩ := revs_step h2 h3 (o := { o with key := [107] }) rfl hck
  rw [e] at hdo
  unfold DoR.av at hdo
  unfold r5v at hop
  simp only [opv, rpv] at hdo hop
  have hrb : 0 ≤ revC c ∧ revC c ≤ 30 := by
    cases c with
    | none => simp [revC]
    | some x =>
      have := h3.2.2.2
      simp only [revC]
      omega
  have wr : IntKind.i64.wrap (revC c + 1) = revC c + 1 := wrap64 (by omega) (by omega)
  have fin : ∃ a' : Nat × Option Rec, (a'.1 ≤ raw.length ∧ a'.1 ≤ 30 ∧ okC a'.1 a'.2 ∧ (a'.1 = 0 → a'.2 = none)) ∧ 30 - a'.1 < 30 - i ∧ (⟨[(0, .lst 5 (raw.map r5w)), (3, .v (.bool true)), (4, .lst 6 ((tabOf c').map rcv)), (5, .v (.int .i64 (revC c'))), (6, .v (.int .i64 ((i + 1 : Nat) : Int)))], []⟩ : St) = ⟨[(0, .lst 5 (raw.map r5w)), (3, .v (.bool true)), (4, slC a'.1 a'.2), (5, .v (.int .i64 (revC a'.2))), (6, .v (.int .i64 a'.1))], []⟩ := ⟨(i + 1, c'), ⟨by simp only; omega, by simp only; omega, ok', by simp⟩, by simp only; omega, rfl⟩
  have hsl : slC i c = .v (.slice none 0 0) ∧ tabOf c = [] ∨ slC i c = .lst 6 ((tabOf c).map rcv) := by
    cases i with
    | zero =>
      have := h4 rfl
      subst this
      exact .inl ⟨rfl, rfl⟩
    | succ j => exact .inr rfl
  rcases hsl with ⟨hsl, h0⟩ | hsl
  all_goals
    rw [hsl]
    try simp only [h0, List.map_nil] at hdo
    simp (maxSteps := 4000000) only [EV, EVF, XV, cond_true, cond_false, Bool.false_eq_true, Bool.true_eq_false, eq_self, normsOf, cutsOf, heapOf, quietOf, drawsOf, drawmOf, drawfOf, opnOf, coldOf, shutOf, iceOf, extOf, extOverlaps_eq, overB_eq, extCmp_eq, shpOf, Try.f10, ↓reduceIte, Nat.reduceAdd, Nat.reduceLT, Nat.reduceEqDiff, Nat.reduceLeDiff, Nat.succ_ne_zero, Nat.zero_ne_one, Nat.one_ne_zero, ne_eq, not_false_eq_true, true_and, and_true, Nat.reduceMul, Nat.reduceSub, Int.reduceToNat, Int.toNat_zero, Int.toNat_one, Nat.zero_mul, Nat.one_mul, Int.reduceLT, Int.reduceLE, Int.le_refl, Int.zero_lt_one, Int.toNat_natCast, List.take_length, Int.cast_ofNat_Int, Int.reduceAdd, Int.reduceSub, Int.reduceBEq, Int.reduceBNe, ge_iff_le, gt_iff_lt, decide_true, decide_false, Int.lt_irrefl, Nat.zero_add, Nat.add_zero, q1, q2, hf', r5w, w1]
    refine hop m (by omega) _ fun H => ?_
    simp (maxSteps := 4000000) only [EV, EVF, XV, cond_true, cond_false, Bool.false_eq_true, Bool.true_eq_false, eq_self, normsOf, cutsOf, heapOf, quietOf, drawsOf, drawmOf, drawfOf, opnOf, coldOf, shutOf, iceOf, extOf, extOverlaps_eq, overB_eq, extCmp_eq, shpOf, Try.f10, ↓reduceIte, Nat.reduceAdd, Nat.reduceLT, Nat.reduceEqDiff, Nat.reduceLeDiff, Nat.succ_ne_zero, Nat.zero_ne_one, Nat.one_ne_zero, ne_eq, not_false_eq_true, true_and, and_true, Nat.reduceMul, Nat.reduceSub, Int.reduceToNat, Int.toNat_zero, Int.toNat_one, Nat.zero_mul, Nat.one_mul, Int.reduceLT, Int.reduceLE, Int.le_refl, Int.zero_lt_one, Int.toNat_natCast, List.take_length, Int.cast_ofNat_Int, Int.reduceAdd, Int.reduceSub, Int.reduceBEq, Int.reduceBNe, ge_iff_le, gt_iff_lt, decide_true, decide_false, Int.lt_irrefl, Nat.zero_add, Nat.add_zero, q1, q2, hf', r5w, w1]
    refine hdo m (by omega) _ fun H => ?_
    simp (maxSteps := 4000000) only [EV, EVF, XV, cond_true, cond_false, Bool.false_eq_true, Bool.true_eq_false, eq_self, normsOf, cutsOf, heapOf, quietOf, drawsOf, drawmOf, drawfOf, opnOf, coldOf, shutOf, iceOf, extOf, extOverlaps_eq, overB_eq, extCmp_eq, shpOf, Try.f10, ↓reduceIte, Nat.reduceAdd, Nat.reduceLT, Nat.reduceEqDiff, Nat.reduceLeDiff, Nat.succ_ne_zero, Nat.zero_ne_one, Nat.one_ne_zero, ne_eq, not_false_eq_true, true_and, and_true, Nat.reduceMul, Nat.reduceSub, Int.reduceToNat, Int.toNat_zero, Int.toNat_one, Nat.zero_mul, Nat.one_mul, Int.reduceLT, Int.reduceLE, Int.le_refl, Int.zero_lt_one, Int.toNat_natCast, List.take_length, Int.cast_ofNat_Int, Int.reduceAdd, Int.reduceSub, Int.reduceBEq, Int.reduceBNe, ge_iff_le, gt_iff_lt, decide_true, decide_false, Int.lt_irrefl, Nat.zero_add, Nat.add_zero, q1, q2, hf', r5w, w1]
    rcases hone with ⟨g1, g2, g3⟩ | ⟨g1, g2⟩ | ⟨g1, g2, g3, g4⟩ | ⟨g1, g2, g3, g4⟩ | ⟨g1, g2, g3⟩ | ⟨g1, g2, g3, g4, g5, y, g6, g7⟩
    · subst g2 g3
      simp (maxSteps := 4000000) only [EV, EVF, XV, cond_true, cond_false, Bool.false_eq_true, Bool.true_eq_false, eq_self, normsOf, cutsOf, heapOf, quietOf, drawsOf, drawmOf, drawfOf, opnOf, coldOf, shutOf, iceOf, extOf, extOverlaps_eq, overB_eq, extCmp_eq, shpOf, Try.f10, ↓reduceIte, Nat.reduceAdd, Nat.reduceLT, Nat.reduceEqDiff, Nat.reduceLeDiff, Nat.succ_ne_zero, Nat.zero_ne_one, Nat.one_ne_zero, ne_eq, not_false_eq_true, true_and, and_true, Nat.reduceMul, Nat.reduceSub, Int.reduceToNat, Int.toNat_zero, Int.toNat_one, Nat.zero_mul, Nat.one_mul, Int.reduceLT, Int.reduceLE, Int.le_refl, Int.zero_lt_one, Int.toNat_natCast, List.take_length, Int.cast_ofNat_Int, Int.reduceAdd, Int.reduceSub, Int.reduceBEq, Int.reduceBNe, ge_iff_le, gt_iff_lt, decide_true, decide_false, Int.lt_irrefl, Nat.zero_add, Nat.add_zero, g1, revC, tabOf, beq_self_eq_true, bne_self_eq_false, Bool.not_true, Bool.not_false, List.map_nil, List.map_cons, rcv, q1, q2, hf', r5w, w1]
      first
        | exact fin
    · subst g2
      cases c' with
      | none =>
        simp (maxSteps := 4000000) only [EV, EVF, XV, cond_true, cond_false, Bool.false_eq_true, Bool.true_eq_false, eq_self, normsOf, cutsOf, heapOf, quietOf, drawsOf, drawmOf, drawfOf, opnOf, coldOf, shutOf, iceOf, extOf, extOverlaps_eq, overB_eq, extCmp_eq, shpOf, Try.f10, ↓reduceIte, Nat.reduceAdd, Nat.reduceLT, Nat.reduceEqDiff, Nat.reduceLeDiff, Nat.succ_ne_zero, Nat.zero_ne_one, Nat.one_ne_zero, ne_eq, not_false_eq_true, true_and, and_true, Nat.reduceMul, Nat.reduceSub, Int.reduceToNat, Int.toNat_zero, Int.toNat_one, Nat.zero_mul, Nat.one_mul, Int.reduceLT, Int.reduceLE, Int.le_refl, Int.zero_lt_one, Int.toNat_natCast, List.take_length, Int.cast_ofNat_Int, Int.reduceAdd, Int.reduceSub, Int.reduceBEq, Int.reduceBNe, ge_iff_le, gt_iff_lt, decide_true, decide_false, Int.lt_irrefl, Nat.zero_add, Nat.add_zero, g1, revC, tabOf, beq_self_eq_true, bne_self_eq_false, Bool.not_true, Bool.not_false, List.map_nil, List.map_cons, rcv, q1, q2, hf', r5w, w1]
        first
          | exact fin
      | some x =>
        have hp : ((0 : Int) < x.rev) = True := eq_true (by have := ok'.2.2.2.1; omega)
        simp (maxSteps := 4000000) only [EV, EVF, XV, cond_true, cond_false, Bool.false_eq_true, Bool.true_eq_false, eq_self, normsOf, cutsOf, heapOf, quietOf, drawsOf, drawmOf, drawfOf, opnOf, coldOf, shutOf, iceOf, extOf, extOverlaps_eq, overB_eq, extCmp_eq, shpOf, Try.f10, ↓reduceIte, Nat.reduceAdd, Nat.reduceLT, Nat.reduceEqDiff, Nat.reduceLeDiff, Nat.succ_ne_zero, Nat.zero_ne_one, Nat.one_ne_zero, ne_eq, not_false_eq_true, true_and, and_true, Nat.reduceMul, Nat.reduceSub, Int.reduceToNat, Int.toNat_zero, Int.toNat_one, Nat.zero_mul, Nat.one_mul, Int.reduceLT, Int.reduceLE, Int.le_refl, Int.zero_lt_one, Int.toNat_natCast, List.take_length, Int.cast_ofNat_Int, Int.reduceAdd, Int.reduceSub, Int.reduceBEq, Int.reduceBNe, ge_iff_le, gt_iff_lt, decide_true, decide_false, Int.lt_irrefl, Nat.zero_add, Nat.add_zero, g1, revC, tabOf, hp, beq_self_eq_true, bne_self_eq_false, Bool.not_true, Bool.not_false, List.map_nil, List.map_cons, rcv, q1, q2, hf', r5w, w1]
        first
          | exact fin
    · subst g4
      have b3 : (o.kind == 3) = true := by simpa using g2
      simp (maxSteps := 4000000) only [EV, EVF, XV, cond_true, cond_false, Bool.false_eq_true, Bool.true_eq_false, eq_self, normsOf, cutsOf, heapOf, quietOf, drawsOf, drawmOf, drawfOf, opnOf, coldOf, shutOf, iceOf, extOf, extOverlaps_eq, overB_eq, extCmp_eq, shpOf, Try.f10, ↓reduceIte, Nat.reduceAdd, Nat.reduceLT, Nat.reduceEqDiff, Nat.reduceLeDiff, Nat.succ_ne_zero, Nat.zero_ne_one, Nat.one_ne_zero, ne_eq, not_false_eq_true, true_and, and_true, Nat.reduceMul, Nat.reduceSub, Int.reduceToNat, Int.toNat_zero, Int.toNat_one, Nat.zero_mul, Nat.one_mul, Int.reduceLT, Int.reduceLE, Int.le_refl, Int.zero_lt_one, Int.toNat_natCast, List.take_length, Int.cast_ofNat_Int, Int.reduceAdd, Int.reduceSub, Int.reduceBEq, Int.reduceBNe, ge_iff_le, gt_iff_lt, decide_true, decide_false, Int.lt_irrefl, Nat.zero_add, Nat.add_zero, g1, b3, g3, tabOf, beq_self_eq_true, bne_self_eq_false, Bool.not_true, Bool.not_false, List.map_nil, List.map_cons, rcv, q1, q2, hf', r5w, w1]
      first
        | exact fin
    · subst g4
      have b3 : (o.kind == 3) = false := by simp at g2 ⊢; omega
      have b1 : (o.kind == 1) = true := by simpa using g2
      cases c' with
      | none =>
        simp (maxSteps := 4000000) only [EV, EVF, XV, cond_true, cond_false, Bool.false_eq_true, Bool.true_eq_false, eq_self, normsOf, cutsOf, heapOf, quietOf, drawsOf, drawmOf, drawfOf, opnOf, coldOf, shutOf, iceOf, extOf, extOverlaps_eq, overB_eq, extCmp_eq, shpOf, Try.f10, ↓reduceIte, Nat.reduceAdd, Nat.reduceLT, Nat.reduceEqDiff, Nat.reduceLeDiff, Nat.succ_ne_zero, Nat.zero_ne_one, Nat.one_ne_zero, ne_eq, not_false_eq_true, true_and, and_true, Nat.reduceMul, Nat.reduceSub, Int.reduceToNat, Int.toNat_zero, Int.toNat_one, Nat.zero_mul, Nat.one_mul, Int.reduceLT, Int.reduceLE, Int.le_refl, Int.zero_lt_one, Int.toNat_natCast, List.take_length, Int.cast_ofNat_Int, Int.reduceAdd, Int.reduceSub, Int.reduceBEq, Int.reduceBNe, ge_iff_le, gt_iff_lt, decide_true, decide_false, Int.lt_irrefl, Nat.zero_add, Nat.add_zero, g1, b3, b1, g3, revC, tabOf, beq_self_eq_true, bne_self_eq_false, Bool.not_true, Bool.not_false, List.map_nil, List.map_cons, rcv, q1, q2, hf', r5w, w1]
        first
          | exact fin
      | some x =>
        have hp : ((0 : Int) < x.rev) = True := eq_true (by have := ok'.2.2.2.1; omega)
        simp (maxSteps := 4000000) only [EV, EVF, XV, cond_true, cond_false, Bool.false_eq_true, Bool.true_eq_false, eq_self, normsOf, cutsOf, heapOf, quietOf, drawsOf, drawmOf, drawfOf, opnOf, coldOf, shutOf, iceOf, extOf, extOverlaps_eq, overB_eq, extCmp_eq, shpOf, Try.f10, ↓reduceIte, Nat.reduceAdd, Nat.reduceLT, Nat.reduceEqDiff, Nat.reduceLeDiff, Nat.succ_ne_zero, Nat.zero_ne_one, Nat.one_ne_zero, ne_eq, not_false_eq_true, true_and, and_true, Nat.reduceMul, Nat.reduceSub, Int.reduceToNat, Int.toNat_zero, Int.toNat_one, Nat.zero_mul, Nat.one_mul, Int.reduceLT, Int.reduceLE, Int.le_refl, Int.zero_lt_one, Int.toNat_natCast, List.take_length, Int.cast_ofNat_Int, Int.reduceAdd, Int.reduceSub, Int.reduceBEq, Int.reduceBNe, ge_iff_le, gt_iff_lt, decide_true, decide_false, Int.lt_irrefl, Nat.zero_add, Nat.add_zero, g1, b3, b1, g3, revC, tabOf, hp, beq_self_eq_true, bne_self_eq_false, Bool.not_true, Bool.not_false, List.map_nil, List.map_cons, rcv, q1, q2, hf', r5w, w1]
        first
          | exact fin
    · subst g3
      have b3 : (o.kind == 3) = false := by simp at g2 ⊢; omega
      have b1 : (o.kind == 1) = false := by simp at g2 ⊢; omega
      have b6 : (o.kind != 6) = false := by simp at g2 ⊢; omega
      cases c' with
      | none =>
        simp (maxSteps := 4000000) only [EV, EVF, XV, cond_true, cond_false, Bool.false_eq_true, Bool.true_eq_false, eq_self, normsOf, cutsOf, heapOf, quietOf, drawsOf, drawmOf, drawfOf, opnOf, coldOf, shutOf, iceOf, extOf, extOverlaps_eq, overB_eq, extCmp_eq, shpOf, Try.f10, ↓reduceIte, Nat.reduceAdd, Nat.reduceLT, Nat.reduceEqDiff, Nat.reduceLeDiff, Nat.succ_ne_zero, Nat.zero_ne_one, Nat.one_ne_zero, ne_eq, not_false_eq_true, true_and, and_true, Nat.reduceMul, Nat.reduceSub, Int.reduceToNat, Int.toNat_zero, Int.toNat_one, Nat.zero_mul, Nat.one_mul, Int.reduceLT, Int.reduceLE, Int.le_refl, Int.zero_lt_one, Int.toNat_natCast, List.take_length, Int.cast_ofNat_Int, Int.reduceAdd, Int.reduceSub, Int.reduceBEq, Int.reduceBNe, ge_iff_le, gt_iff_lt, decide_true, decide_false, Int.lt_irrefl, Nat.zero_add, Nat.add_zero, g1, b3, b1, b6, revC, tabOf, beq_self_eq_true, bne_self_eq_false, Bool.not_true, Bool.not_false, List.map_nil, List.map_cons, rcv, q1, q2, hf', r5w, w1]
        first
          | exact fin
      | some x =>
        have hp : ((0 : Int) < x.rev) = True := eq_true (by have := ok'.2.2.2.1; omega)
        simp (maxSteps := 4000000) only [EV, EVF, XV, cond_true, cond_false, Bool.false_eq_true, Bool.true_eq_false, eq_self, normsOf, cutsOf, heapOf, quietOf, drawsOf, drawmOf, drawfOf, opnOf, coldOf, shutOf, iceOf, extOf, extOverlaps_eq, overB_eq, extCmp_eq, shpOf, Try.f10, ↓reduceIte, Nat.reduceAdd, Nat.reduceLT, Nat.reduceEqDiff, Nat.reduceLeDiff, Nat.succ_ne_zero, Nat.zero_ne_one, Nat.one_ne_zero, ne_eq, not_false_eq_true, true_and, and_true, Nat.reduceMul, Nat.reduceSub, Int.reduceToNat, Int.toNat_zero, Int.toNat_one, Nat.zero_mul, Nat.one_mul, Int.reduceLT, Int.reduceLE, Int.le_refl, Int.zero_lt_one, Int.toNat_natCast, List.take_length, Int.cast_ofNat_Int, Int.reduceAdd, Int.reduceSub, Int.reduceBEq, Int.reduceBNe, ge_iff_le, gt_iff_lt, decide_true, decide_false, Int.lt_irrefl, Nat.zero_add, Nat.add_zero, g1, b3, b1, b6, revC, tabOf, hp, beq_self_eq_true, bne_self_eq_false, Bool.not_true, Bool.not_false, List.map_nil, List.map_cons, rcv, q1, q2, hf', r5w, w1]
        first
          | exact fin
    · subst g6
      have b3 : (o.kind == 3) = false := by simpa using g2
      have b1 : (o.kind == 1) = false := by simpa using g3
      have b6 : (o.kind != 6) = true := by simpa using g4
      have hp : ((0 : Int) < revC c + 1) = True := eq_true (by omega)
      simp (maxSteps := 4000000) only [EV, EVF, XV, cond_true, cond_false, Bool.false_eq_true, Bool.true_eq_false, eq_self, normsOf, cutsOf, heapOf, quietOf, drawsOf, drawmOf, drawfOf, opnOf, coldOf, shutOf, iceOf, extOf, extOverlaps_eq, overB_eq, extCmp_eq, shpOf, Try.f10, ↓reduceIte, Nat.reduceAdd, Nat.reduceLT, Nat.reduceEqDiff, Nat.reduceLeDiff, Nat.succ_ne_zero, Nat.zero_ne_one, Nat.one_ne_zero, ne_eq, not_false_eq_true, true_and, and_true, Nat.reduceMul, Nat.reduceSub, Int.reduceToNat, Int.toNat_zero, Int.toNat_one, Nat.zero_mul, Nat.one_mul, Int.reduceLT, Int.reduceLE, Int.le_refl, Int.zero_lt_one, Int.toNat_natCast, List.take_length, Int.cast_ofNat_Int, Int.reduceAdd, Int.reduceSub, Int.reduceBEq, Int.reduceBNe, ge_iff_le, gt_iff_lt, decide_true, decide_false, Int.lt_irrefl, Nat.zero_add, Nat.add_zero, g1, b3, b1, b6, g5, g7, wr, tabOf, hp, beq_self_eq_true, bne_self_eq_false, Bool.not_true, Bool.not_false, List.map_nil, List.map_cons, rcv, q1, q2, hf', r5w, w1]
      rw [← g7]
      exact fin
end Go.Ai

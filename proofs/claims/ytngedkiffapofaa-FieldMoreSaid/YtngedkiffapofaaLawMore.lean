/- FieldMore: the machine's word. -/
import Derived.Test.YtngedkiffapofaaField5
import Derived.Test.YtngedkiffapofaaFieldP
set_option linter.unusedVariables false
set_option linter.unusedSimpArgs false
set_option maxRecDepth 100000
set_option maxHeartbeats 4000000
namespace Go.Ai
open Go.Proofs
theorem oneS_tag {f : Fld} {last : Int} (h0 : f.1 ≤ last) (h1 : 0 ≤ f.1) (h2 : f.1 ≤ 1000000) (r : List UInt8) : oneS (encF f ++ r) last = .no 13 := by
  obtain ⟨n, hn⟩ : ∃ n : Nat, f.1 = n := ⟨f.1.toNat, by omega⟩
  have e0 : encF f ++ r = putF 8 n ++ (putF 8 f.2.length ++ (f.2 ++ r)) := by simp [encF, hn]
  have t1 : takeS (encF f ++ r) = ⟨n, (putF 8 n).length, 0⟩ := by rw [e0]; exact takeS_put (by omega) _
  unfold oneS
  rw [t1]
  simp only
  rw [if_neg (by simp), if_pos (.inl (by omega))]
/-- The last tag of fields that begin behind a tag. -/
def lastT (t : Int) : List Fld → Int
  | [] => t
  | f :: r => lastT f.1 r
theorem lastT_get : ∀ {l : List Fld} {t : Int} {f : Fld}, l[l.length - 1]? = some f → lastT t l = f.1
  | [], t, f, h => by simp at h
  | [g], t, f, h => by
    simp at h
    subst h
    rfl
  | g :: g2 :: r, t, f, h => by
    simp only [List.length_cons] at h
    have h' : (g2 :: r)[(g2 :: r).length - 1]? = some f := by
      rw [show r.length + 1 + 1 - 1 = r.length + 1 by omega, List.getElem?_cons_succ] at h
      simpa using h
    exact lastT_get (l := g2 :: r) (t := g.1) h'
theorem lastT_le : ∀ {l : List Fld} {t : Int}, rightGo t l = true → 0 ≤ t → t ≤ lastT t l
  | [], t, _, _ => Int.le_refl _
  | g :: r, t, h, h0 => by
    simp only [rightGo, Bool.and_eq_true, Bool.not_eq_true', Bool.or_eq_false_iff, decide_eq_false_iff_not] at h
    have := lastT_le (l := r) h.2 (by omega)
    show t ≤ lastT g.1 r
    omega
theorem right_snoc : ∀ {l : List Fld} {t : Int} {x : Fld}, rightGo t l = true → lastT t l < x.1 → x.1 ≤ 1000000 → x.2.length ≤ 1000 → rightGo t (l ++ [x]) = true
  | [], t, x, _, h1, h2, h3 => by
    simp only [lastT] at h1
    simp [rightGo]
    omega
  | g :: r, t, x, h, h1, h2, h3 => by
    simp only [rightGo, Bool.and_eq_true] at h
    rw [List.cons_append, rightGo, Bool.and_eq_true]
    exact ⟨h.1, right_snoc h.2 h1 h2 h3⟩
theorem decGo_tag : ∀ (l : List Fld) (f : Nat) (last : Int) (n : Nat) (x : Fld), 0 ≤ last → rightGo last l = true → n + l.length ≤ 64 → (encL l).length + (encF x).length ≤ f → x.1 ≤ lastT last l → 0 ≤ x.1 → x.1 ≤ 1000000 → decGo f (encL l ++ encF x) last n = .no 13
  | [], f, last, n, x, h0, _, hn, hf, h1, h2, h3 => by
    have hpos := encF_ne x
    obtain ⟨f, rfl⟩ : ∃ j, f = j + 1 := ⟨f - 1, by omega⟩
    have hne : ¬ encL [] ++ encF x = [] := fun he => by
      rw [(List.append_eq_nil_iff.1 he).2] at hpos
      simp at hpos
    have e : encL [] ++ encF x = encF x ++ [] := by simp [encL]
    rw [decGo, if_neg hne, e, oneS_tag (show x.1 ≤ last from h1) h2 h3]
  | y :: r, f, last, n, x, h0, h, hn, hf, h1, h2, h3 => by
    simp only [rightGo, Bool.and_eq_true, Bool.not_eq_true', Bool.or_eq_false_iff, decide_eq_false_iff_not] at h
    obtain ⟨⟨⟨k1, k2⟩, k3⟩, k4⟩ := h
    have hpos := encF_ne y
    rw [encL_cons, List.length_append] at hf
    obtain ⟨f, rfl⟩ : ∃ j, f = j + 1 := ⟨f - 1, by omega⟩
    have hne : ¬ encL (y :: r) ++ encF x = [] := fun he => by
      rw [encL_cons] at he
      rw [(List.append_eq_nil_iff.1 (List.append_eq_nil_iff.1 he).1).1] at hpos
      simp at hpos
    simp only [List.length_cons] at hn
    rw [decGo, if_neg hne, encL_cons, List.append_assoc, oneS_enc (by omega) (by omega) (by omega) (by omega)]
    simp only
    rw [if_neg (by omega), decGo_tag r f y.1 (n + 1) x (by omega) k4 (by omega) (by omega) h1 h2 h3]
theorem encF_small {t : Int} (h : t ≤ 1000000) : (encF (t, [100])).length ≤ 17 := by
  have h3 := putF_len 8 t.toNat
  have h4 := putF_len 8 1
  simp only [encF, List.length_append, List.length_cons, List.length_nil]
  have e : (0 + 1 : Nat) = 1 := rfl
  rw [e]
  omega
theorem rightGo_of {l : List Fld} (h : rightS l = true) : rightGo 0 l = true := by
  simp only [rightS, Bool.and_eq_true] at h
  exact h.1
theorem decode_tag {l : List Fld} (h : rightS l = true) (hl : (encL l).length ≤ 6320) {t : Int} (h1 : 1 ≤ t) (h2 : t ≤ lastT 0 l) (h3 : t ≤ 1000000) : decodeS (encL l ++ encF (t, [100])) = .no 13 := by
  have hln := (right_bd h).1
  have hs := encF_small h3
  unfold decodeS
  rw [List.length_append, if_neg (by omega)]
  exact decGo_tag l _ 0 0 _ (Int.le_refl _) (rightGo_of h) (by omega) (Nat.le_refl _) h2 (by show 0 ≤ t; omega) h3
theorem decode_more {l : List Fld} (h : rightS l = true) (hl : (encL l).length ≤ 6320) (hn : l.length ≤ 20) {t : Int} (h2 : lastT 0 l < t) (h3 : t ≤ 1000000) : decodeS (encL l ++ encF (t, [100])) = .ok (l ++ [(t, [100])]) := by
  have hs := encF_small h3
  have hr : rightS (l ++ [(t, [100])]) = true := by
    unfold rightS
    rw [right_snoc (rightGo_of h) h2 h3 (by simp)]
    simp
    omega
  have := decode_encode hr (by rw [encL_snoc, List.length_append]; omega)
  rwa [encL_snoc] at this
theorem find_more {l : List Fld} {t : Int} : ∀ {u : Int}, rightGo u l = true → lastT u l < t → findS (l ++ [(t, [100])]) t = some [100] := by
  induction l with
  | nil => intro u _ _; simp [findS]
  | cons g r ih =>
    intro u h h1
    simp only [rightGo, Bool.and_eq_true, Bool.not_eq_true', Bool.or_eq_false_iff, decide_eq_false_iff_not] at h
    have h2 : g.1 ≤ lastT g.1 r ∨ True := .inr trivial
    have hne : ¬ g.1 = t := fun he => by
      have : ∀ {l : List Fld} {a : Int}, rightGo a l = true → a ≤ lastT a l := by
        intro l
        induction l with
        | nil => intro a _; exact Int.le_refl _
        | cons x y ih2 =>
          intro a h
          simp only [rightGo, Bool.and_eq_true, Bool.not_eq_true', Bool.or_eq_false_iff, decide_eq_false_iff_not] at h
          have := ih2 h.2
          show a ≤ lastT x.1 y
          omega
      have h3 := this h.2
      have h4 : lastT g.1 r < t := h1
      omega
    have e : findS (g :: r ++ [(t, [100])]) t = findS (r ++ [(t, [100])]) t := by simp [findS, List.find?_cons, hne]
    rw [e]
    exact ih h.2 h1
theorem fieldsGo_tag (texts : List (List UInt8)) : ∀ (n : Nat) (tag : Int) (raw : List (Int × Int)), (∀ p ∈ raw, i64ok p.1) → ∀ f ∈ fieldsGo texts n tag raw, f.1 ≤ tag + n * 200
  | 0, _, _, _, f, h => by simp [fieldsGo] at h
  | n + 1, _, [], _, f, h => by simp [fieldsGo] at h
  | n + 1, tag, p :: r, hp, f, h => by
    have h0 := hp p (List.mem_cons_self ..)
    have hb := pickN_bd (c := p.1) (n := 200) h0.1 h0.2 (by omega)
    rw [fieldsGo] at h
    rcases List.mem_cons.1 h with rfl | h
    · show tag + 1 + pickN p.1 200 ≤ _
      omega
    · have := fieldsGo_tag texts n _ r (fun q hq => hp q (List.mem_cons_of_mem _ hq)) f h
      omega
theorem more_law (m : Nat) (hm : 10 ≤ m) (r : List (Int × Int)) (hrl : r.length ≤ 9223372036854775807) (hr : ∀ p ∈ r, i64ok p.1 ∧ i64ok p.2) (ts : List (List UInt8)) (htl : ts.length ≤ 9223372036854775807) (htt : ∀ t ∈ ts, t.length ≤ 9223372036854775807) (tag : Int) (hat : i64ok tag) : wpF C m 9 [.lst 2 (r.map rv), .lst 1 (ts.map tv), .v (.int .i64 tag)] [] fun r _ => r = .v (.bool true) := by
  obtain ⟨m, rfl⟩ : ∃ j, m = j + 1 := ⟨m - 1, by omega⟩; simp only [wpF, bodyA, fn_9, C_P, ok_9, C_prim, primOf, true_and]; simp (maxSteps := 4000000) only [EV, EVF, XV, cond_true, cond_false, Bool.false_eq_true, Bool.true_eq_false, eq_self, normsOf, heapOf, drawsOf, shpOf, Try.f9, ↓reduceIte, Nat.reduceAdd, Nat.reduceLT, Nat.reduceEqDiff, Nat.reduceLeDiff, Nat.succ_ne_zero, Nat.zero_ne_one, Nat.one_ne_zero, ne_eq, not_false_eq_true, true_and, and_true, Nat.reduceMul, Nat.reduceSub, Int.reduceToNat, Int.toNat_zero, Int.toNat_one, Nat.zero_mul, Nat.one_mul, Int.reduceLT, Int.reduceLE, Int.le_refl, Int.zero_lt_one, Int.toNat_natCast, List.take_length, Int.cast_ofNat_Int, Int.reduceAdd, Int.reduceSub, Int.reduceBEq, Int.reduceBNe, ge_iff_le, gt_iff_lt, decide_true, decide_false, Int.lt_irrefl, Nat.zero_add, Nat.add_zero]
  refine awake_w m (by omega) _ fun H => ?_
  simp (maxSteps := 4000000) only [EV, EVF, XV, cond_true, cond_false, Bool.false_eq_true, Bool.true_eq_false, eq_self, normsOf, heapOf, drawsOf, shpOf, Try.f9, ↓reduceIte, Nat.reduceAdd, Nat.reduceLT, Nat.reduceEqDiff, Nat.reduceLeDiff, Nat.succ_ne_zero, Nat.zero_ne_one, Nat.one_ne_zero, ne_eq, not_false_eq_true, true_and, and_true, Nat.reduceMul, Nat.reduceSub, Int.reduceToNat, Int.toNat_zero, Int.toNat_one, Nat.zero_mul, Nat.one_mul, Int.reduceLT, Int.reduceLE, Int.le_refl, Int.zero_lt_one, Int.toNat_natCast, List.take_length, Int.cast_ofNat_Int, Int.reduceAdd, Int.reduceSub, Int.reduceBEq, Int.reduceBNe, ge_iff_le, gt_iff_lt, decide_true, decide_false, Int.lt_irrefl, Nat.zero_add, Nat.add_zero]
  refine fields_w m (by omega) r ts hr htl _ ?_
  obtain ⟨hR, hL, hB⟩ := fieldsS_facts ts hr
  have hT := fieldsGo_tag ts 20 0 r fun q hq => (hr q hq).1
  change ∀ f ∈ fieldsS r ts, _ at hT
  generalize fieldsS r ts = l at hR hL hB hT ⊢
  simp (maxSteps := 4000000) only [EV, EVF, XV, cond_true, cond_false, Bool.false_eq_true, Bool.true_eq_false, eq_self, normsOf, heapOf, drawsOf, shpOf, Try.f9, ↓reduceIte, Nat.reduceAdd, Nat.reduceLT, Nat.reduceEqDiff, Nat.reduceLeDiff, Nat.succ_ne_zero, Nat.zero_ne_one, Nat.one_ne_zero, ne_eq, not_false_eq_true, true_and, and_true, Nat.reduceMul, Nat.reduceSub, Int.reduceToNat, Int.toNat_zero, Int.toNat_one, Nat.zero_mul, Nat.one_mul, Int.reduceLT, Int.reduceLE, Int.le_refl, Int.zero_lt_one, Int.toNat_natCast, List.take_length, Int.cast_ofNat_Int, Int.reduceAdd, Int.reduceSub, Int.reduceBEq, Int.reduceBNe, ge_iff_le, gt_iff_lt, decide_true, decide_false, Int.lt_irrefl, Nat.zero_add, Nat.add_zero]
  refine encode_w m (by omega) l (by omega) _ fun H => ?_
  rw [encodeS_ok hR (by omega)]
  simp only [BE.av]
  by_cases hl0 : l = []
  · subst hl0
    simp (maxSteps := 4000000) only [EV, EVF, XV, cond_true, cond_false, Bool.false_eq_true, Bool.true_eq_false, eq_self, normsOf, heapOf, drawsOf, shpOf, Try.f9, ↓reduceIte, Nat.reduceAdd, Nat.reduceLT, Nat.reduceEqDiff, Nat.reduceLeDiff, Nat.succ_ne_zero, Nat.zero_ne_one, Nat.one_ne_zero, ne_eq, not_false_eq_true, true_and, and_true, Nat.reduceMul, Nat.reduceSub, Int.reduceToNat, Int.toNat_zero, Int.toNat_one, Nat.zero_mul, Nat.one_mul, Int.reduceLT, Int.reduceLE, Int.le_refl, Int.zero_lt_one, Int.toNat_natCast, List.take_length, Int.cast_ofNat_Int, Int.reduceAdd, Int.reduceSub, Int.reduceBEq, Int.reduceBNe, ge_iff_le, gt_iff_lt, decide_true, decide_false, Int.lt_irrefl, Nat.zero_add, Nat.add_zero]
    refine pick_w m (by omega) _ _ (by omega) _ ?_
    have hb := pickN_bd (c := tag) (n := 4) hat.1 hat.2 (by omega)
    generalize pickN tag 4 = p at hb ⊢
    have w1 : IntKind.i64.wrap (0 + p) = p := by rw [wrap64 (by omega) (by omega)]; omega
    have w2 : IntKind.i64.wrap (p - 1) = p - 1 := wrap64 (by omega) (by omega)
    by_cases ht : p - 1 < 1
    · have ht' : (p - 1 < 1) = True := by simp; omega
      simp (maxSteps := 4000000) only [EV, EVF, XV, cond_true, cond_false, Bool.false_eq_true, Bool.true_eq_false, eq_self, normsOf, heapOf, drawsOf, shpOf, Try.f9, ↓reduceIte, Nat.reduceAdd, Nat.reduceLT, Nat.reduceEqDiff, Nat.reduceLeDiff, Nat.succ_ne_zero, Nat.zero_ne_one, Nat.one_ne_zero, ne_eq, not_false_eq_true, true_and, and_true, Nat.reduceMul, Nat.reduceSub, Int.reduceToNat, Int.toNat_zero, Int.toNat_one, Nat.zero_mul, Nat.one_mul, Int.reduceLT, Int.reduceLE, Int.le_refl, Int.zero_lt_one, Int.toNat_natCast, List.take_length, Int.cast_ofNat_Int, Int.reduceAdd, Int.reduceSub, Int.reduceBEq, Int.reduceBNe, ge_iff_le, gt_iff_lt, decide_true, decide_false, Int.lt_irrefl, Nat.zero_add, Nat.add_zero, w1, w2, ht']
    · have ht' : (p - 1 < 1) = False := by simp; omega
      simp (maxSteps := 4000000) only [EV, EVF, XV, cond_true, cond_false, Bool.false_eq_true, Bool.true_eq_false, eq_self, normsOf, heapOf, drawsOf, shpOf, Try.f9, ↓reduceIte, Nat.reduceAdd, Nat.reduceLT, Nat.reduceEqDiff, Nat.reduceLeDiff, Nat.succ_ne_zero, Nat.zero_ne_one, Nat.one_ne_zero, ne_eq, not_false_eq_true, true_and, and_true, Nat.reduceMul, Nat.reduceSub, Int.reduceToNat, Int.toNat_zero, Int.toNat_one, Nat.zero_mul, Nat.one_mul, Int.reduceLT, Int.reduceLE, Int.le_refl, Int.zero_lt_one, Int.toNat_natCast, List.take_length, Int.cast_ofNat_Int, Int.reduceAdd, Int.reduceSub, Int.reduceBEq, Int.reduceBNe, ge_iff_le, gt_iff_lt, decide_true, decide_false, Int.lt_irrefl, Nat.zero_add, Nat.add_zero, w1, w2, ht']
      have hrt : rightS [((p - 1 : Int), ([100] : List UInt8))] = true := by simp [rightS, rightGo]; omega
      refine encode_w m (by omega) [(p - 1, [100])] (by simp) _ fun H => ?_
      have hsm := encF_small (t := p - 1) (by omega)
      have hsm2 : (encL [(p - 1, ([100] : List UInt8))]).length ≤ 17 := by simpa [encL] using hsm
      rw [encodeS_ok hrt (by omega)]
      simp only [BE.av]
      simp (maxSteps := 4000000) only [EV, EVF, XV, cond_true, cond_false, Bool.false_eq_true, Bool.true_eq_false, eq_self, normsOf, heapOf, drawsOf, shpOf, Try.f9, ↓reduceIte, Nat.reduceAdd, Nat.reduceLT, Nat.reduceEqDiff, Nat.reduceLeDiff, Nat.succ_ne_zero, Nat.zero_ne_one, Nat.one_ne_zero, ne_eq, not_false_eq_true, true_and, and_true, Nat.reduceMul, Nat.reduceSub, Int.reduceToNat, Int.toNat_zero, Int.toNat_one, Nat.zero_mul, Nat.one_mul, Int.reduceLT, Int.reduceLE, Int.le_refl, Int.zero_lt_one, Int.toNat_natCast, List.take_length, Int.cast_ofNat_Int, Int.reduceAdd, Int.reduceSub, Int.reduceBEq, Int.reduceBNe, ge_iff_le, gt_iff_lt, decide_true, decide_false, Int.lt_irrefl, Nat.zero_add, Nat.add_zero, w1, w2, ht']
      have he1 : encL [(p - 1, ([100] : List UInt8))] = encF (p - 1, [100]) := by simp [encL]
      have hdc := decode_more (l := []) hR (by simp [encL]) (by simp) (t := p - 1) (by simp [lastT]; omega) (by omega)
      rw [he1]
      refine ⟨by simp [encL]; omega, ?_⟩
      have ht2 : (p - 1 ≤ 0) = False := by simp; omega
      refine decode_w m (by omega) _ (by simp [encL]; omega) _ (fun e H he => ?_) (fun l' he => ?_)
      · rw [hdc] at he; cases he
      · rw [hdc] at he
        cases he
        simp (maxSteps := 4000000) only [EV, EVF, XV, cond_true, cond_false, Bool.false_eq_true, Bool.true_eq_false, eq_self, normsOf, heapOf, drawsOf, shpOf, Try.f9, ↓reduceIte, Nat.reduceAdd, Nat.reduceLT, Nat.reduceEqDiff, Nat.reduceLeDiff, Nat.succ_ne_zero, Nat.zero_ne_one, Nat.one_ne_zero, ne_eq, not_false_eq_true, true_and, and_true, Nat.reduceMul, Nat.reduceSub, Int.reduceToNat, Int.toNat_zero, Int.toNat_one, Nat.zero_mul, Nat.one_mul, Int.reduceLT, Int.reduceLE, Int.le_refl, Int.zero_lt_one, Int.toNat_natCast, List.take_length, Int.cast_ofNat_Int, Int.reduceAdd, Int.reduceSub, Int.reduceBEq, Int.reduceBNe, ge_iff_le, gt_iff_lt, decide_true, decide_false, Int.lt_irrefl, Nat.zero_add, Nat.add_zero, w1, w2, ht', ht2]
        refine find_w m (by omega) [(p - 1, [100])] (by simp) (p - 1) _ fun H => ?_
        rw [show findS [(p - 1, ([100] : List UInt8))] (p - 1) = some [100] by simp [findS]]
        simp only [findAV, Option.getD_some, Option.isSome_some]
        simp (maxSteps := 4000000) only [EV, EVF, XV, cond_true, cond_false, Bool.false_eq_true, Bool.true_eq_false, eq_self, normsOf, heapOf, drawsOf, shpOf, Try.f9, ↓reduceIte, Nat.reduceAdd, Nat.reduceLT, Nat.reduceEqDiff, Nat.reduceLeDiff, Nat.succ_ne_zero, Nat.zero_ne_one, Nat.one_ne_zero, ne_eq, not_false_eq_true, true_and, and_true, Nat.reduceMul, Nat.reduceSub, Int.reduceToNat, Int.toNat_zero, Int.toNat_one, Nat.zero_mul, Nat.one_mul, Int.reduceLT, Int.reduceLE, Int.le_refl, Int.zero_lt_one, Int.toNat_natCast, List.take_length, Int.cast_ofNat_Int, Int.reduceAdd, Int.reduceSub, Int.reduceBEq, Int.reduceBNe, ge_iff_le, gt_iff_lt, decide_true, decide_false, Int.lt_irrefl, Nat.zero_add, Nat.add_zero, w1, w2, ht', ht2]
        refine same_w m (by omega) [] [] (by simp) _ ?_
        simp (maxSteps := 4000000) only [EV, EVF, XV, cond_true, cond_false, Bool.false_eq_true, Bool.true_eq_false, eq_self, normsOf, heapOf, drawsOf, shpOf, Try.f9, ↓reduceIte, Nat.reduceAdd, Nat.reduceLT, Nat.reduceEqDiff, Nat.reduceLeDiff, Nat.succ_ne_zero, Nat.zero_ne_one, Nat.one_ne_zero, ne_eq, not_false_eq_true, true_and, and_true, Nat.reduceMul, Nat.reduceSub, Int.reduceToNat, Int.toNat_zero, Int.toNat_one, Nat.zero_mul, Nat.one_mul, Int.reduceLT, Int.reduceLE, Int.le_refl, Int.zero_lt_one, Int.toNat_natCast, List.take_length, Int.cast_ofNat_Int, Int.reduceAdd, Int.reduceSub, Int.reduceBEq, Int.reduceBNe, ge_iff_le, gt_iff_lt, decide_true, decide_false, Int.lt_irrefl, Nat.zero_add, Nat.add_zero, w1, w2, ht', ht2]
  · have hpos : (0 < (l.length : Int)) = True := by simp; have := List.length_pos_iff.2 hl0; omega
    have hlp := List.length_pos_iff.2 hl0
    obtain ⟨f, hf⟩ : ∃ f, l[l.length - 1]? = some f := ⟨_, List.getElem?_eq_getElem (by omega)⟩
    have hf' := map_at (f := fv) hf
    have hfb := (right_bd hR).2 f (List.mem_of_getElem? hf)
    have hft := hT f (List.mem_of_getElem? hf)
    have hlt := lastT_get (t := 0) hf
    have w0 : IntKind.i64.wrap ((l.length : Int) - 1) = ((l.length - 1 : Nat) : Int) := by rw [wrap64 (by omega) (by omega)]; omega
    have q1 : (((l.length - 1 : Nat) : Int) < l.length) = True := by simp; omega
    simp (maxSteps := 4000000) only [EV, EVF, XV, cond_true, cond_false, Bool.false_eq_true, Bool.true_eq_false, eq_self, normsOf, heapOf, drawsOf, shpOf, Try.f9, ↓reduceIte, Nat.reduceAdd, Nat.reduceLT, Nat.reduceEqDiff, Nat.reduceLeDiff, Nat.succ_ne_zero, Nat.zero_ne_one, Nat.one_ne_zero, ne_eq, not_false_eq_true, true_and, and_true, Nat.reduceMul, Nat.reduceSub, Int.reduceToNat, Int.toNat_zero, Int.toNat_one, Nat.zero_mul, Nat.one_mul, Int.reduceLT, Int.reduceLE, Int.le_refl, Int.zero_lt_one, Int.toNat_natCast, List.take_length, Int.cast_ofNat_Int, Int.reduceAdd, Int.reduceSub, Int.reduceBEq, Int.reduceBNe, ge_iff_le, gt_iff_lt, decide_true, decide_false, Int.lt_irrefl, Nat.zero_add, Nat.add_zero, hpos, w0, q1, hf', fv]
    refine pick_w m (by omega) _ _ (by omega) _ ?_
    have hb := pickN_bd (c := tag) (n := 4) hat.1 hat.2 (by omega)
    generalize pickN tag 4 = p at hb ⊢
    have w1 : IntKind.i64.wrap (f.1 + p) = f.1 + p := by rw [wrap64 (by omega) (by omega)]
    have w2 : IntKind.i64.wrap (f.1 + p - 1) = f.1 + p - 1 := wrap64 (by omega) (by omega)
    by_cases ht : f.1 + p - 1 < 1
    · have ht' : (f.1 + p - 1 < 1) = True := by simp; omega
      simp (maxSteps := 4000000) only [EV, EVF, XV, cond_true, cond_false, Bool.false_eq_true, Bool.true_eq_false, eq_self, normsOf, heapOf, drawsOf, shpOf, Try.f9, ↓reduceIte, Nat.reduceAdd, Nat.reduceLT, Nat.reduceEqDiff, Nat.reduceLeDiff, Nat.succ_ne_zero, Nat.zero_ne_one, Nat.one_ne_zero, ne_eq, not_false_eq_true, true_and, and_true, Nat.reduceMul, Nat.reduceSub, Int.reduceToNat, Int.toNat_zero, Int.toNat_one, Nat.zero_mul, Nat.one_mul, Int.reduceLT, Int.reduceLE, Int.le_refl, Int.zero_lt_one, Int.toNat_natCast, List.take_length, Int.cast_ofNat_Int, Int.reduceAdd, Int.reduceSub, Int.reduceBEq, Int.reduceBNe, ge_iff_le, gt_iff_lt, decide_true, decide_false, Int.lt_irrefl, Nat.zero_add, Nat.add_zero, hpos, w0, q1, hf', fv, w1, w2, ht']
    have ht' : (f.1 + p - 1 < 1) = False := by simp; omega
    simp (maxSteps := 4000000) only [EV, EVF, XV, cond_true, cond_false, Bool.false_eq_true, Bool.true_eq_false, eq_self, normsOf, heapOf, drawsOf, shpOf, Try.f9, ↓reduceIte, Nat.reduceAdd, Nat.reduceLT, Nat.reduceEqDiff, Nat.reduceLeDiff, Nat.succ_ne_zero, Nat.zero_ne_one, Nat.one_ne_zero, ne_eq, not_false_eq_true, true_and, and_true, Nat.reduceMul, Nat.reduceSub, Int.reduceToNat, Int.toNat_zero, Int.toNat_one, Nat.zero_mul, Nat.one_mul, Int.reduceLT, Int.reduceLE, Int.le_refl, Int.zero_lt_one, Int.toNat_natCast, List.take_length, Int.cast_ofNat_Int, Int.reduceAdd, Int.reduceSub, Int.reduceBEq, Int.reduceBNe, ge_iff_le, gt_iff_lt, decide_true, decide_false, Int.lt_irrefl, Nat.zero_add, Nat.add_zero, hpos, w0, q1, hf', fv, w1, w2, ht']
    have hrt : rightS [((f.1 + p - 1 : Int), ([100] : List UInt8))] = true := by simp [rightS, rightGo]; omega
    refine encode_w m (by omega) [(f.1 + p - 1, [100])] (by simp) _ fun H => ?_
    have hsm := encF_small (t := f.1 + p - 1) (by omega)
    have he1 : encL [(f.1 + p - 1, ([100] : List UInt8))] = encF (f.1 + p - 1, [100]) := by simp [encL]
    rw [encodeS_ok hrt (by rw [he1]; omega), he1]
    simp only [BE.av]
    simp (maxSteps := 4000000) only [EV, EVF, XV, cond_true, cond_false, Bool.false_eq_true, Bool.true_eq_false, eq_self, normsOf, heapOf, drawsOf, shpOf, Try.f9, ↓reduceIte, Nat.reduceAdd, Nat.reduceLT, Nat.reduceEqDiff, Nat.reduceLeDiff, Nat.succ_ne_zero, Nat.zero_ne_one, Nat.one_ne_zero, ne_eq, not_false_eq_true, true_and, and_true, Nat.reduceMul, Nat.reduceSub, Int.reduceToNat, Int.toNat_zero, Int.toNat_one, Nat.zero_mul, Nat.one_mul, Int.reduceLT, Int.reduceLE, Int.le_refl, Int.zero_lt_one, Int.toNat_natCast, List.take_length, Int.cast_ofNat_Int, Int.reduceAdd, Int.reduceSub, Int.reduceBEq, Int.reduceBNe, ge_iff_le, gt_iff_lt, decide_true, decide_false, Int.lt_irrefl, Nat.zero_add, Nat.add_zero, hpos, w0, q1, hf', fv, w1, w2, ht']
    refine ⟨by omega, ?_⟩
    refine decode_w m (by omega) _ (by simp; omega) _ (fun e H he => ?_) (fun l' he => ?_)
    · have hle : f.1 + p - 1 ≤ f.1 := by
        apply Decidable.byContradiction
        intro hn
        rw [decode_more hR hB hL (by rw [hlt]; omega) (by omega)] at he
        cases he
      rw [decode_tag hR hB (by omega) (by rw [hlt]; exact hle) (by omega)] at he
      cases he
      have ht2 : (f.1 + p - 1 ≤ f.1) = True := by simp; omega
      simp (maxSteps := 4000000) only [EV, EVF, XV, cond_true, cond_false, Bool.false_eq_true, Bool.true_eq_false, eq_self, normsOf, heapOf, drawsOf, shpOf, Try.f9, ↓reduceIte, Nat.reduceAdd, Nat.reduceLT, Nat.reduceEqDiff, Nat.reduceLeDiff, Nat.succ_ne_zero, Nat.zero_ne_one, Nat.one_ne_zero, ne_eq, not_false_eq_true, true_and, and_true, Nat.reduceMul, Nat.reduceSub, Int.reduceToNat, Int.toNat_zero, Int.toNat_one, Nat.zero_mul, Nat.one_mul, Int.reduceLT, Int.reduceLE, Int.le_refl, Int.zero_lt_one, Int.toNat_natCast, List.take_length, Int.cast_ofNat_Int, Int.reduceAdd, Int.reduceSub, Int.reduceBEq, Int.reduceBNe, ge_iff_le, gt_iff_lt, decide_true, decide_false, Int.lt_irrefl, Nat.zero_add, Nat.add_zero, hpos, w0, q1, hf', fv, w1, w2, ht', ht2]
    · have hle : ¬ f.1 + p - 1 ≤ f.1 := by
        intro hn
        rw [decode_tag hR hB (by omega) (by rw [hlt]; exact hn) (by omega)] at he
        cases he
      have ht2 : (f.1 + p - 1 ≤ f.1) = False := by simp; omega
      rw [decode_more hR hB hL (by rw [hlt]; omega) (by omega)] at he
      cases he
      simp (maxSteps := 4000000) only [EV, EVF, XV, cond_true, cond_false, Bool.false_eq_true, Bool.true_eq_false, eq_self, normsOf, heapOf, drawsOf, shpOf, Try.f9, ↓reduceIte, Nat.reduceAdd, Nat.reduceLT, Nat.reduceEqDiff, Nat.reduceLeDiff, Nat.succ_ne_zero, Nat.zero_ne_one, Nat.one_ne_zero, ne_eq, not_false_eq_true, true_and, and_true, Nat.reduceMul, Nat.reduceSub, Int.reduceToNat, Int.toNat_zero, Int.toNat_one, Nat.zero_mul, Nat.one_mul, Int.reduceLT, Int.reduceLE, Int.le_refl, Int.zero_lt_one, Int.toNat_natCast, List.take_length, Int.cast_ofNat_Int, Int.reduceAdd, Int.reduceSub, Int.reduceBEq, Int.reduceBNe, ge_iff_le, gt_iff_lt, decide_true, decide_false, Int.lt_irrefl, Nat.zero_add, Nat.add_zero, hpos, w0, q1, hf', fv, w1, w2, ht', ht2]
      have he3 : (l ++ [(f.1 + p - 1, ([100] : List UInt8))]).take (l.length + 1) = l ++ [(f.1 + p - 1, [100])] := List.take_of_length_le (by simp)
      rw [he3]
      refine find_w m (by omega) _ (by simp; omega) (f.1 + p - 1) _ fun H => ?_
      rw [find_more (rightGo_of hR) (by rw [hlt]; omega)]
      simp only [findAV, Option.getD_some, Option.isSome_some]
      simp (maxSteps := 4000000) only [EV, EVF, XV, cond_true, cond_false, Bool.false_eq_true, Bool.true_eq_false, eq_self, normsOf, heapOf, drawsOf, shpOf, Try.f9, ↓reduceIte, Nat.reduceAdd, Nat.reduceLT, Nat.reduceEqDiff, Nat.reduceLeDiff, Nat.succ_ne_zero, Nat.zero_ne_one, Nat.one_ne_zero, ne_eq, not_false_eq_true, true_and, and_true, Nat.reduceMul, Nat.reduceSub, Int.reduceToNat, Int.toNat_zero, Int.toNat_one, Nat.zero_mul, Nat.one_mul, Int.reduceLT, Int.reduceLE, Int.le_refl, Int.zero_lt_one, Int.toNat_natCast, List.take_length, Int.cast_ofNat_Int, Int.reduceAdd, Int.reduceSub, Int.reduceBEq, Int.reduceBNe, ge_iff_le, gt_iff_lt, decide_true, decide_false, Int.lt_irrefl, Nat.zero_add, Nat.add_zero, hpos, w0, q1, hf', fv, w1, w2, ht', ht2]
      have w3 : IntKind.i64.wrap ((l.length : Int) + 1) = ((l.length + 1 : Nat) : Int) := by rw [wrap64 (by omega) (by omega)]; omega
      simp only [w3, beq_self_eq_true]
      simp (maxSteps := 4000000) only [EV, EVF, XV, cond_true, cond_false, Bool.false_eq_true, Bool.true_eq_false, eq_self, normsOf, heapOf, drawsOf, shpOf, Try.f9, ↓reduceIte, Nat.reduceAdd, Nat.reduceLT, Nat.reduceEqDiff, Nat.reduceLeDiff, Nat.succ_ne_zero, Nat.zero_ne_one, Nat.one_ne_zero, ne_eq, not_false_eq_true, true_and, and_true, Nat.reduceMul, Nat.reduceSub, Int.reduceToNat, Int.toNat_zero, Int.toNat_one, Nat.zero_mul, Nat.one_mul, Int.reduceLT, Int.reduceLE, Int.le_refl, Int.zero_lt_one, Int.toNat_natCast, List.take_length, Int.cast_ofNat_Int, Int.reduceAdd, Int.reduceSub, Int.reduceBEq, Int.reduceBNe, ge_iff_le, gt_iff_lt, decide_true, decide_false, Int.lt_irrefl, Nat.zero_add, Nat.add_zero, hpos, w0, q1, hf', fv, w1, w2, ht', ht2]
      refine ⟨by omega, ?_⟩
      rw [Nat.sub_zero, List.take_left]
      refine same_w m (by omega) l l (by omega) _ ?_
      simp only [decide_true]
      simp (maxSteps := 4000000) only [EV, EVF, XV, cond_true, cond_false, Bool.false_eq_true, Bool.true_eq_false, eq_self, normsOf, heapOf, drawsOf, shpOf, Try.f9, ↓reduceIte, Nat.reduceAdd, Nat.reduceLT, Nat.reduceEqDiff, Nat.reduceLeDiff, Nat.succ_ne_zero, Nat.zero_ne_one, Nat.one_ne_zero, ne_eq, not_false_eq_true, true_and, and_true, Nat.reduceMul, Nat.reduceSub, Int.reduceToNat, Int.toNat_zero, Int.toNat_one, Nat.zero_mul, Nat.one_mul, Int.reduceLT, Int.reduceLE, Int.le_refl, Int.zero_lt_one, Int.toNat_natCast, List.take_length, Int.cast_ofNat_Int, Int.reduceAdd, Int.reduceSub, Int.reduceBEq, Int.reduceBNe, ge_iff_le, gt_iff_lt, decide_true, decide_false, Int.lt_irrefl, Nat.zero_add, Nat.add_zero, hpos, w0, q1, hf', fv, w1, w2, ht', ht2]
end Go.Ai
/- reply.Keep, walked; what is kept is right. -/
import Derived.Test.YtinklhniabhaiaaRep3
set_option linter.unusedVariables false
set_option linter.unusedSimpArgs false
set_option maxRecDepth 100000
set_option maxHeartbeats 4000000
namespace Go.Ai
open Go.Proofs
/-- In its place. -/
theorem ins_at {d : Dn} : ∀ {l : List Dn} {i : Nat}, (∀ x ∈ l.take i, x.client < d.client) → (∀ x ∈ l.drop i, d.client ≤ x.client) → l.Pairwise (fun a b => a.client < b.client) →
    insD d l = if decide ((l[i]?).map (·.client) = some d.client) = true then l.set i d else l.take i ++ d :: l.drop i
  | [], i, _, _, _ => by simp [insD]
  | x :: l, 0, h1, h2, hs => by
    have hx := h2 x (by simp)
    unfold insD
    rw [if_neg (by omega)]
    by_cases hc : x.client = d.client
    · simp [hc]
    · simp [hc]
  | x :: l, i + 1, h1, h2, hs => by
    have hx := h1 x (by simp)
    unfold insD
    rw [if_pos hx, ins_at (i := i) (fun y hy => h1 y (by simp [hy])) (fun y hy => h2 y (by simpa using hy)) (List.pairwise_cons.1 hs).2]
    simp only [List.getElem?_cons_succ, List.set_cons_succ, List.take_succ_cons, List.drop_succ_cons, List.cons_append]
    split <;> rfl
theorem keep_w (m : Nat) (hm : 11 ≤ m) (l : List Dn) (hl : okD l) (c i : Int) (r : Rep) (hrk : r.keys.length ≤ 1000000000000) (K : AV → Hp → Prop) (hK : ∀ H, K (keepS l c i r).av H) : wpF C m 11 [.lst 6 (l.map dnv), .v (.int .i64 c), .v (.int .i64 i), .agg (repv r)] [] K := by
  have hlook := fun (m : Nat) (hm : 10 ≤ m) K => look_w m hm l hl c i K
  have hmay := fun (m : Nat) (hm : 8 ≤ m) K => may_w m hm r hrk K
  have hown := fun (m : Nat) (hm : 2 ≤ m) K => owned_w m hm l hl K
  have hown1 := fun (m : Nat) (hm : 2 ≤ m) K => owned_w m hm [⟨c, i, r⟩] ⟨by simp, fun x hx => by
    simp only [List.mem_cons, List.not_mem_nil, or_false] at hx
    subst hx
    exact hrk⟩ K
  simp only [List.map_cons, List.map_nil, List.length_cons, List.length_nil] at hown1
  unfold dnv at hown1
  simp only at hown1
  unfold keepS at hK
  generalize hls : lookS l c i = x at hlook hK
  unfold LookR.av at hlook
  unfold repv at hlook hmay ⊢
  obtain ⟨m, rfl⟩ : ∃ j, m = j + 1 := ⟨m - 1, by omega⟩; simp only [wpF, bodyA, fn_11, C_P, ok_11, C_prim, primOf, true_and]; simp (maxSteps := 4000000) only [EV, EVF, XV, cond_true, cond_false, Bool.false_eq_true, Bool.true_eq_false, eq_self, normsOf, cutsOf, heapOf, quietOf, drawsOf, drawmOf, drawfOf, opnOf, coldOf, shutOf, iceOf, extOf, extOverlaps_eq, overB_eq, extCmp_eq, shpOf, Try.f11, ↓reduceIte, Nat.reduceAdd, Nat.reduceLT, Nat.reduceEqDiff, Nat.reduceLeDiff, Nat.succ_ne_zero, Nat.zero_ne_one, Nat.one_ne_zero, ne_eq, not_false_eq_true, true_and, and_true, Nat.reduceMul, Nat.reduceSub, Int.reduceToNat, Int.toNat_zero, Int.toNat_one, Nat.zero_mul, Nat.one_mul, Int.reduceLT, Int.reduceLE, Int.le_refl, Int.zero_lt_one, Int.toNat_natCast, List.take_length, Int.cast_ofNat_Int, Int.reduceAdd, Int.reduceSub, Int.reduceBEq, Int.reduceBNe, ge_iff_le, gt_iff_lt, decide_true, decide_false, Int.lt_irrefl, Nat.zero_add, Nat.add_zero]
  refine hlook m (by omega) _ fun H => ?_
  simp (maxSteps := 4000000) only [EV, EVF, XV, cond_true, cond_false, Bool.false_eq_true, Bool.true_eq_false, eq_self, normsOf, cutsOf, heapOf, quietOf, drawsOf, drawmOf, drawfOf, opnOf, coldOf, shutOf, iceOf, extOf, extOverlaps_eq, overB_eq, extCmp_eq, shpOf, Try.f11, ↓reduceIte, Nat.reduceAdd, Nat.reduceLT, Nat.reduceEqDiff, Nat.reduceLeDiff, Nat.succ_ne_zero, Nat.zero_ne_one, Nat.one_ne_zero, ne_eq, not_false_eq_true, true_and, and_true, Nat.reduceMul, Nat.reduceSub, Int.reduceToNat, Int.toNat_zero, Int.toNat_one, Nat.zero_mul, Nat.one_mul, Int.reduceLT, Int.reduceLE, Int.le_refl, Int.zero_lt_one, Int.toNat_natCast, List.take_length, Int.cast_ofNat_Int, Int.reduceAdd, Int.reduceSub, Int.reduceBEq, Int.reduceBNe, ge_iff_le, gt_iff_lt, decide_true, decide_false, Int.lt_irrefl, Nat.zero_add, Nat.add_zero]
  by_cases h1 : x.e = 1
  · rw [if_pos (.inl h1)] at hK
    simp (maxSteps := 4000000) only [EV, EVF, XV, cond_true, cond_false, Bool.false_eq_true, Bool.true_eq_false, eq_self, normsOf, cutsOf, heapOf, quietOf, drawsOf, drawmOf, drawfOf, opnOf, coldOf, shutOf, iceOf, extOf, extOverlaps_eq, overB_eq, extCmp_eq, shpOf, Try.f11, ↓reduceIte, Nat.reduceAdd, Nat.reduceLT, Nat.reduceEqDiff, Nat.reduceLeDiff, Nat.succ_ne_zero, Nat.zero_ne_one, Nat.one_ne_zero, ne_eq, not_false_eq_true, true_and, and_true, Nat.reduceMul, Nat.reduceSub, Int.reduceToNat, Int.toNat_zero, Int.toNat_one, Nat.zero_mul, Nat.one_mul, Int.reduceLT, Int.reduceLE, Int.le_refl, Int.zero_lt_one, Int.toNat_natCast, List.take_length, Int.cast_ofNat_Int, Int.reduceAdd, Int.reduceSub, Int.reduceBEq, Int.reduceBNe, ge_iff_le, gt_iff_lt, decide_true, decide_false, Int.lt_irrefl, Nat.zero_add, Nat.add_zero, show (x.e == 1) = true by simpa using h1]
    exact hK _
  have e1 : (x.e == 1) = false := by simpa using h1
  simp (maxSteps := 4000000) only [EV, EVF, XV, cond_true, cond_false, Bool.false_eq_true, Bool.true_eq_false, eq_self, normsOf, cutsOf, heapOf, quietOf, drawsOf, drawmOf, drawfOf, opnOf, coldOf, shutOf, iceOf, extOf, extOverlaps_eq, overB_eq, extCmp_eq, shpOf, Try.f11, ↓reduceIte, Nat.reduceAdd, Nat.reduceLT, Nat.reduceEqDiff, Nat.reduceLeDiff, Nat.succ_ne_zero, Nat.zero_ne_one, Nat.one_ne_zero, ne_eq, not_false_eq_true, true_and, and_true, Nat.reduceMul, Nat.reduceSub, Int.reduceToNat, Int.toNat_zero, Int.toNat_one, Nat.zero_mul, Nat.one_mul, Int.reduceLT, Int.reduceLE, Int.le_refl, Int.zero_lt_one, Int.toNat_natCast, List.take_length, Int.cast_ofNat_Int, Int.reduceAdd, Int.reduceSub, Int.reduceBEq, Int.reduceBNe, ge_iff_le, gt_iff_lt, decide_true, decide_false, Int.lt_irrefl, Nat.zero_add, Nat.add_zero, e1]
  by_cases h0 : x.e = 0
  · rw [if_pos (.inr (.inl h0))] at hK
    simp (maxSteps := 4000000) only [EV, EVF, XV, cond_true, cond_false, Bool.false_eq_true, Bool.true_eq_false, eq_self, normsOf, cutsOf, heapOf, quietOf, drawsOf, drawmOf, drawfOf, opnOf, coldOf, shutOf, iceOf, extOf, extOverlaps_eq, overB_eq, extCmp_eq, shpOf, Try.f11, ↓reduceIte, Nat.reduceAdd, Nat.reduceLT, Nat.reduceEqDiff, Nat.reduceLeDiff, Nat.succ_ne_zero, Nat.zero_ne_one, Nat.one_ne_zero, ne_eq, not_false_eq_true, true_and, and_true, Nat.reduceMul, Nat.reduceSub, Int.reduceToNat, Int.toNat_zero, Int.toNat_one, Nat.zero_mul, Nat.one_mul, Int.reduceLT, Int.reduceLE, Int.le_refl, Int.zero_lt_one, Int.toNat_natCast, List.take_length, Int.cast_ofNat_Int, Int.reduceAdd, Int.reduceSub, Int.reduceBEq, Int.reduceBNe, ge_iff_le, gt_iff_lt, decide_true, decide_false, Int.lt_irrefl, Nat.zero_add, Nat.add_zero, show (x.e == 0) = true by simpa using h0]
    exact hK _
  have e0 : (x.e == 0) = false := by simpa using h0
  simp (maxSteps := 4000000) only [EV, EVF, XV, cond_true, cond_false, Bool.false_eq_true, Bool.true_eq_false, eq_self, normsOf, cutsOf, heapOf, quietOf, drawsOf, drawmOf, drawfOf, opnOf, coldOf, shutOf, iceOf, extOf, extOverlaps_eq, overB_eq, extCmp_eq, shpOf, Try.f11, ↓reduceIte, Nat.reduceAdd, Nat.reduceLT, Nat.reduceEqDiff, Nat.reduceLeDiff, Nat.succ_ne_zero, Nat.zero_ne_one, Nat.one_ne_zero, ne_eq, not_false_eq_true, true_and, and_true, Nat.reduceMul, Nat.reduceSub, Int.reduceToNat, Int.toNat_zero, Int.toNat_one, Nat.zero_mul, Nat.one_mul, Int.reduceLT, Int.reduceLE, Int.le_refl, Int.zero_lt_one, Int.toNat_natCast, List.take_length, Int.cast_ofNat_Int, Int.reduceAdd, Int.reduceSub, Int.reduceBEq, Int.reduceBNe, ge_iff_le, gt_iff_lt, decide_true, decide_false, Int.lt_irrefl, Nat.zero_add, Nat.add_zero, e0]
  refine hmay m (by omega) _ fun H => ?_
  simp (maxSteps := 4000000) only [EV, EVF, XV, cond_true, cond_false, Bool.false_eq_true, Bool.true_eq_false, eq_self, normsOf, cutsOf, heapOf, quietOf, drawsOf, drawmOf, drawfOf, opnOf, coldOf, shutOf, iceOf, extOf, extOverlaps_eq, overB_eq, extCmp_eq, shpOf, Try.f11, ↓reduceIte, Nat.reduceAdd, Nat.reduceLT, Nat.reduceEqDiff, Nat.reduceLeDiff, Nat.succ_ne_zero, Nat.zero_ne_one, Nat.one_ne_zero, ne_eq, not_false_eq_true, true_and, and_true, Nat.reduceMul, Nat.reduceSub, Int.reduceToNat, Int.toNat_zero, Int.toNat_one, Nat.zero_mul, Nat.one_mul, Int.reduceLT, Int.reduceLE, Int.le_refl, Int.zero_lt_one, Int.toNat_natCast, List.take_length, Int.cast_ofNat_Int, Int.reduceAdd, Int.reduceSub, Int.reduceBEq, Int.reduceBNe, ge_iff_le, gt_iff_lt, decide_true, decide_false, Int.lt_irrefl, Nat.zero_add, Nat.add_zero]
  by_cases hy : MayP r
  rotate_left
  · rw [if_pos (.inr (.inr hy))] at hK
    rw [decide_eq_false hy]
    simp (maxSteps := 4000000) only [EV, EVF, XV, cond_true, cond_false, Bool.false_eq_true, Bool.true_eq_false, eq_self, normsOf, cutsOf, heapOf, quietOf, drawsOf, drawmOf, drawfOf, opnOf, coldOf, shutOf, iceOf, extOf, extOverlaps_eq, overB_eq, extCmp_eq, shpOf, Try.f11, ↓reduceIte, Nat.reduceAdd, Nat.reduceLT, Nat.reduceEqDiff, Nat.reduceLeDiff, Nat.succ_ne_zero, Nat.zero_ne_one, Nat.one_ne_zero, ne_eq, not_false_eq_true, true_and, and_true, Nat.reduceMul, Nat.reduceSub, Int.reduceToNat, Int.toNat_zero, Int.toNat_one, Nat.zero_mul, Nat.one_mul, Int.reduceLT, Int.reduceLE, Int.le_refl, Int.zero_lt_one, Int.toNat_natCast, List.take_length, Int.cast_ofNat_Int, Int.reduceAdd, Int.reduceSub, Int.reduceBEq, Int.reduceBNe, ge_iff_le, gt_iff_lt, decide_true, decide_false, Int.lt_irrefl, Nat.zero_add, Nat.add_zero, Bool.not_false]
    exact hK _
  rw [if_neg (by rintro (h | h | h); exact h1 h; exact h0 h; exact h hy)] at hK
  rw [decide_eq_true hy]
  simp (maxSteps := 4000000) only [EV, EVF, XV, cond_true, cond_false, Bool.false_eq_true, Bool.true_eq_false, eq_self, normsOf, cutsOf, heapOf, quietOf, drawsOf, drawmOf, drawfOf, opnOf, coldOf, shutOf, iceOf, extOf, extOverlaps_eq, overB_eq, extCmp_eq, shpOf, Try.f11, ↓reduceIte, Nat.reduceAdd, Nat.reduceLT, Nat.reduceEqDiff, Nat.reduceLeDiff, Nat.succ_ne_zero, Nat.zero_ne_one, Nat.one_ne_zero, ne_eq, not_false_eq_true, true_and, and_true, Nat.reduceMul, Nat.reduceSub, Int.reduceToNat, Int.toNat_zero, Int.toNat_one, Nat.zero_mul, Nat.one_mul, Int.reduceLT, Int.reduceLE, Int.le_refl, Int.zero_lt_one, Int.toNat_natCast, List.take_length, Int.cast_ofNat_Int, Int.reduceAdd, Int.reduceSub, Int.reduceBEq, Int.reduceBNe, ge_iff_le, gt_iff_lt, decide_true, decide_false, Int.lt_irrefl, Nat.zero_add, Nat.add_zero, Bool.not_true]
  refine IF_beq (fun h81 => ?_) (fun h81 => ?_)
  · rw [if_pos h81] at hK
    simp (maxSteps := 4000000) only [EV, EVF, XV, cond_true, cond_false, Bool.false_eq_true, Bool.true_eq_false, eq_self, normsOf, cutsOf, heapOf, quietOf, drawsOf, drawmOf, drawfOf, opnOf, coldOf, shutOf, iceOf, extOf, extOverlaps_eq, overB_eq, extCmp_eq, shpOf, Try.f11, ↓reduceIte, Nat.reduceAdd, Nat.reduceLT, Nat.reduceEqDiff, Nat.reduceLeDiff, Nat.succ_ne_zero, Nat.zero_ne_one, Nat.one_ne_zero, ne_eq, not_false_eq_true, true_and, and_true, Nat.reduceMul, Nat.reduceSub, Int.reduceToNat, Int.toNat_zero, Int.toNat_one, Nat.zero_mul, Nat.one_mul, Int.reduceLT, Int.reduceLE, Int.le_refl, Int.zero_lt_one, Int.toNat_natCast, List.take_length, Int.cast_ofNat_Int, Int.reduceAdd, Int.reduceSub, Int.reduceBEq, Int.reduceBNe, ge_iff_le, gt_iff_lt, decide_true, decide_false, Int.lt_irrefl, Nat.zero_add, Nat.add_zero]
    rw [h81]
    exact hK _
  rw [if_neg h81] at hK
  have hcond : rightD l = true ∧ NamedP c i := Decidable.byContradiction fun hc => by
    unfold lookS at hls
    rw [if_neg hc] at hls
    rw [← hls] at h1
    exact h1 rfl
  have hgo : dnGo 0 l = true ∧ l.length ≤ 8 := by
    have := hcond.1
    unfold rightD at this
    simpa using this
  obtain ⟨hpw, _⟩ := dnGo_pw hgo.1
  have hl8 := hgo.2
  simp (maxSteps := 4000000) only [EV, EVF, XV, cond_true, cond_false, Bool.false_eq_true, Bool.true_eq_false, eq_self, normsOf, cutsOf, heapOf, quietOf, drawsOf, drawmOf, drawfOf, opnOf, coldOf, shutOf, iceOf, extOf, extOverlaps_eq, overB_eq, extCmp_eq, shpOf, Try.f11, ↓reduceIte, Nat.reduceAdd, Nat.reduceLT, Nat.reduceEqDiff, Nat.reduceLeDiff, Nat.succ_ne_zero, Nat.zero_ne_one, Nat.one_ne_zero, ne_eq, not_false_eq_true, true_and, and_true, Nat.reduceMul, Nat.reduceSub, Int.reduceToNat, Int.toNat_zero, Int.toNat_one, Nat.zero_mul, Nat.one_mul, Int.reduceLT, Int.reduceLE, Int.le_refl, Int.zero_lt_one, Int.toNat_natCast, List.take_length, Int.cast_ofNat_Int, Int.reduceAdd, Int.reduceSub, Int.reduceBEq, Int.reduceBNe, ge_iff_le, gt_iff_lt, decide_true, decide_false, Int.lt_irrefl, Nat.zero_add, Nat.add_zero]
  refine hown1 m (by omega) _ ?_
  simp (maxSteps := 4000000) only [EV, EVF, XV, cond_true, cond_false, Bool.false_eq_true, Bool.true_eq_false, eq_self, normsOf, cutsOf, heapOf, quietOf, drawsOf, drawmOf, drawfOf, opnOf, coldOf, shutOf, iceOf, extOf, extOverlaps_eq, overB_eq, extCmp_eq, shpOf, Try.f11, ↓reduceIte, Nat.reduceAdd, Nat.reduceLT, Nat.reduceEqDiff, Nat.reduceLeDiff, Nat.succ_ne_zero, Nat.zero_ne_one, Nat.one_ne_zero, ne_eq, not_false_eq_true, true_and, and_true, Nat.reduceMul, Nat.reduceSub, Int.reduceToNat, Int.toNat_zero, Int.toNat_one, Nat.zero_mul, Nat.one_mul, Int.reduceLT, Int.reduceLE, Int.le_refl, Int.zero_lt_one, Int.toNat_natCast, List.take_length, Int.cast_ofNat_Int, Int.reduceAdd, Int.reduceSub, Int.reduceBEq, Int.reduceBNe, ge_iff_le, gt_iff_lt, decide_true, decide_false, Int.lt_irrefl, Nat.zero_add, Nat.add_zero]
  refine hown m (by omega) _ ?_
  simp (maxSteps := 4000000) only [EV, EVF, XV, cond_true, cond_false, Bool.false_eq_true, Bool.true_eq_false, eq_self, normsOf, cutsOf, heapOf, quietOf, drawsOf, drawmOf, drawfOf, opnOf, coldOf, shutOf, iceOf, extOf, extOverlaps_eq, overB_eq, extCmp_eq, shpOf, Try.f11, ↓reduceIte, Nat.reduceAdd, Nat.reduceLT, Nat.reduceEqDiff, Nat.reduceLeDiff, Nat.succ_ne_zero, Nat.zero_ne_one, Nat.one_ne_zero, ne_eq, not_false_eq_true, true_and, and_true, Nat.reduceMul, Nat.reduceSub, Int.reduceToNat, Int.toNat_zero, Int.toNat_one, Nat.zero_mul, Nat.one_mul, Int.reduceLT, Int.reduceLE, Int.le_refl, Int.zero_lt_one, Int.toNat_natCast, List.take_length, Int.cast_ofNat_Int, Int.reduceAdd, Int.reduceSub, Int.reduceBEq, Int.reduceBNe, ge_iff_le, gt_iff_lt, decide_true, decide_false, Int.lt_irrefl, Nat.zero_add, Nat.add_zero]
  refine place_w m (by omega) l hl.1 hpw c _ fun k h1 h2 h3 H => ?_
  have hfd := find_at h2 h3 hpw
  have hia := ins_at (d := ⟨c, i, r⟩) h2 h3 hpw
  simp only at hia
  have hlk := hl.1
  by_cases hf : decide ((l[k]?).map (·.client) = some c) = true
  · rw [if_pos hf] at hfd hia
    have hk : k < l.length := Decidable.byContradiction fun hc => by
      rw [List.getElem?_eq_none (by omega)] at hf
      simp at hf
    obtain ⟨d, hd, hdr⟩ := drop_at hk
    have hf' := map_at (f := dnv) hd
    rw [if_neg (by rw [hfd, hd]; simp), hia] at hK
    rw [hf]
    have hset : (l.map dnv).set k [.v (.int .i64 c), .v (.int .i64 i), .v (.int .i64 r.errno), .v (.int .i64 r.rev), .v (.string (mk r.value)), .lst 1 (r.keys.map tv)] = (l.set k ⟨c, i, r⟩).map dnv := by
      rw [List.map_set]
      rfl
    simp (maxSteps := 4000000) only [EV, EVF, XV, cond_true, cond_false, Bool.false_eq_true, Bool.true_eq_false, eq_self, normsOf, cutsOf, heapOf, quietOf, drawsOf, drawmOf, drawfOf, opnOf, coldOf, shutOf, iceOf, extOf, extOverlaps_eq, overB_eq, extCmp_eq, shpOf, Try.f11, ↓reduceIte, Nat.reduceAdd, Nat.reduceLT, Nat.reduceEqDiff, Nat.reduceLeDiff, Nat.succ_ne_zero, Nat.zero_ne_one, Nat.one_ne_zero, ne_eq, not_false_eq_true, true_and, and_true, Nat.reduceMul, Nat.reduceSub, Int.reduceToNat, Int.toNat_zero, Int.toNat_one, Nat.zero_mul, Nat.one_mul, Int.reduceLT, Int.reduceLE, Int.le_refl, Int.zero_lt_one, Int.toNat_natCast, List.take_length, Int.cast_ofNat_Int, Int.reduceAdd, Int.reduceSub, Int.reduceBEq, Int.reduceBNe, ge_iff_le, gt_iff_lt, decide_true, decide_false, Int.lt_irrefl, Nat.zero_add, Nat.add_zero, hf', dnv, hset]
    refine ⟨by omega, ?_⟩
    rw [List.take_of_length_le (by simp)]
    exact hK _
  · have hf0 : decide ((l[k]?).map (·.client) = some c) = false := by simpa using hf
    rw [if_neg hf] at hfd hia
    rw [hf0]
    simp (maxSteps := 4000000) only [EV, EVF, XV, cond_true, cond_false, Bool.false_eq_true, Bool.true_eq_false, eq_self, normsOf, cutsOf, heapOf, quietOf, drawsOf, drawmOf, drawfOf, opnOf, coldOf, shutOf, iceOf, extOf, extOverlaps_eq, overB_eq, extCmp_eq, shpOf, Try.f11, ↓reduceIte, Nat.reduceAdd, Nat.reduceLT, Nat.reduceEqDiff, Nat.reduceLeDiff, Nat.succ_ne_zero, Nat.zero_ne_one, Nat.one_ne_zero, ne_eq, not_false_eq_true, true_and, and_true, Nat.reduceMul, Nat.reduceSub, Int.reduceToNat, Int.toNat_zero, Int.toNat_one, Nat.zero_mul, Nat.one_mul, Int.reduceLT, Int.reduceLE, Int.le_refl, Int.zero_lt_one, Int.toNat_natCast, List.take_length, Int.cast_ofNat_Int, Int.reduceAdd, Int.reduceSub, Int.reduceBEq, Int.reduceBNe, ge_iff_le, gt_iff_lt, decide_true, decide_false, Int.lt_irrefl, Nat.zero_add, Nat.add_zero]
    refine IF_dec (fun h8 => ?_) (fun h8 => ?_)
    · rw [if_pos ⟨hfd, by omega⟩] at hK
      simp (maxSteps := 4000000) only [EV, EVF, XV, cond_true, cond_false, Bool.false_eq_true, Bool.true_eq_false, eq_self, normsOf, cutsOf, heapOf, quietOf, drawsOf, drawmOf, drawfOf, opnOf, coldOf, shutOf, iceOf, extOf, extOverlaps_eq, overB_eq, extCmp_eq, shpOf, Try.f11, ↓reduceIte, Nat.reduceAdd, Nat.reduceLT, Nat.reduceEqDiff, Nat.reduceLeDiff, Nat.succ_ne_zero, Nat.zero_ne_one, Nat.one_ne_zero, ne_eq, not_false_eq_true, true_and, and_true, Nat.reduceMul, Nat.reduceSub, Int.reduceToNat, Int.toNat_zero, Int.toNat_one, Nat.zero_mul, Nat.one_mul, Int.reduceLT, Int.reduceLE, Int.le_refl, Int.zero_lt_one, Int.toNat_natCast, List.take_length, Int.cast_ofNat_Int, Int.reduceAdd, Int.reduceSub, Int.reduceBEq, Int.reduceBNe, ge_iff_le, gt_iff_lt, decide_true, decide_false, Int.lt_irrefl, Nat.zero_add, Nat.add_zero]
      exact hK _
    rw [if_neg (by rintro ⟨_, h⟩; omega), hia] at hK
    have hins := fun (m : Nat) (hm : 1 ≤ m) K => insertd_w m hm l hl.1 k h1 ⟨c, i, r⟩ K
    simp (maxSteps := 4000000) only [EV, EVF, XV, cond_true, cond_false, Bool.false_eq_true, Bool.true_eq_false, eq_self, normsOf, cutsOf, heapOf, quietOf, drawsOf, drawmOf, drawfOf, opnOf, coldOf, shutOf, iceOf, extOf, extOverlaps_eq, overB_eq, extCmp_eq, shpOf, Try.f11, ↓reduceIte, Nat.reduceAdd, Nat.reduceLT, Nat.reduceEqDiff, Nat.reduceLeDiff, Nat.succ_ne_zero, Nat.zero_ne_one, Nat.one_ne_zero, ne_eq, not_false_eq_true, true_and, and_true, Nat.reduceMul, Nat.reduceSub, Int.reduceToNat, Int.toNat_zero, Int.toNat_one, Nat.zero_mul, Nat.one_mul, Int.reduceLT, Int.reduceLE, Int.le_refl, Int.zero_lt_one, Int.toNat_natCast, List.take_length, Int.cast_ofNat_Int, Int.reduceAdd, Int.reduceSub, Int.reduceBEq, Int.reduceBNe, ge_iff_le, gt_iff_lt, decide_true, decide_false, Int.lt_irrefl, Nat.zero_add, Nat.add_zero]
    refine hins m (by omega) _ ?_
    simp (maxSteps := 4000000) only [EV, EVF, XV, cond_true, cond_false, Bool.false_eq_true, Bool.true_eq_false, eq_self, normsOf, cutsOf, heapOf, quietOf, drawsOf, drawmOf, drawfOf, opnOf, coldOf, shutOf, iceOf, extOf, extOverlaps_eq, overB_eq, extCmp_eq, shpOf, Try.f11, ↓reduceIte, Nat.reduceAdd, Nat.reduceLT, Nat.reduceEqDiff, Nat.reduceLeDiff, Nat.succ_ne_zero, Nat.zero_ne_one, Nat.one_ne_zero, ne_eq, not_false_eq_true, true_and, and_true, Nat.reduceMul, Nat.reduceSub, Int.reduceToNat, Int.toNat_zero, Int.toNat_one, Nat.zero_mul, Nat.one_mul, Int.reduceLT, Int.reduceLE, Int.le_refl, Int.zero_lt_one, Int.toNat_natCast, List.take_length, Int.cast_ofNat_Int, Int.reduceAdd, Int.reduceSub, Int.reduceBEq, Int.reduceBNe, ge_iff_le, gt_iff_lt, decide_true, decide_false, Int.lt_irrefl, Nat.zero_add, Nat.add_zero]
    have hlen : (l.take k ++ (⟨c, i, r⟩ : Dn) :: l.drop k).length = l.length + 1 := by
      simp only [List.length_append, List.length_take, List.length_cons, List.length_drop]
      omega
    rw [List.take_of_length_le (by omega)]
    exact hK _
/-! ### What is kept -/
theorem ins_find {d : Dn} {c : Int} : ∀ {l : List Dn}, findD (insD d l) c = if d.client = c then some d else findD l c
  | [] => by
    unfold insD findD
    by_cases h : d.client = c <;> simp [h]
  | x :: l => by
    have ih := ins_find (d := d) (c := c) (l := l)
    unfold findD at ih ⊢
    unfold insD
    by_cases h1 : x.client < d.client
    · rw [if_pos h1, List.find?_cons, List.find?_cons]
      by_cases h2 : x.client = c
      · have h3 : ¬ d.client = c := by omega
        simp [h2, h3]
      · simp only [show (x.client == c) = false by simpa using h2]
        exact ih
    · rw [if_neg h1]
      by_cases h2 : x.client = d.client
      · rw [if_pos h2, List.find?_cons, List.find?_cons]
        by_cases h3 : d.client = c
        · simp [h3]
        · have h4 : ¬ x.client = c := by omega
          simp [show (d.client == c) = false by simpa using h3, show (x.client == c) = false by simpa using h4, h3]
      · rw [if_neg h2, List.find?_cons]
        by_cases h3 : d.client = c
        · simp [h3]
        · simp [show (d.client == c) = false by simpa using h3, h3]
theorem ins_go {d : Dn} (hn : NamedP d.client d.id) (hm : MayP d.rep) : ∀ {l : List Dn} {t : Int}, t < d.client → dnGo t l = true → dnGo t (insD d l) = true
  | [], t, ht, _ => by
    unfold insD dnGo dnGo
    rw [Bool.and_true, decide_eq_true_eq]
    exact ⟨ht, hn, hm⟩
  | x :: l, t, ht, h => by
    have h0 := h
    unfold dnGo at h
    simp only [Bool.and_eq_true, decide_eq_true_eq] at h
    unfold insD
    by_cases h1 : x.client < d.client
    · rw [if_pos h1]
      unfold dnGo
      simp only [Bool.and_eq_true, decide_eq_true_eq]
      exact ⟨h.1, ins_go hn hm h1 h.2⟩
    · rw [if_neg h1]
      by_cases h2 : x.client = d.client
      · rw [if_pos h2]
        unfold dnGo
        simp only [Bool.and_eq_true, decide_eq_true_eq]
        rw [← h2]
        exact ⟨⟨by rw [← h2]; exact h.1.1, hn, hm⟩, h.2⟩
      · rw [if_neg h2]
        unfold dnGo
        simp only [Bool.and_eq_true, decide_eq_true_eq]
        refine ⟨⟨ht, hn, hm⟩, ?_⟩
        unfold dnGo
        simp only [Bool.and_eq_true, decide_eq_true_eq]
        exact ⟨⟨by omega, h.1.2⟩, h.2⟩
theorem ins_len {d : Dn} : ∀ {l : List Dn}, (findD l d.client = none → (insD d l).length ≤ l.length + 1) ∧ ((findD l d.client).isSome = true → l.Pairwise (fun a b => a.client < b.client) → (insD d l).length = l.length)
  | [] => by simp [insD, findD]
  | x :: l => by
    have ih := ins_len (d := d) (l := l)
    unfold findD at ih ⊢
    unfold insD
    rw [List.find?_cons]
    by_cases h1 : x.client < d.client
    · have h2 : (x.client == d.client) = false := by simp; omega
      rw [if_pos h1]
      simp only [h2, List.length_cons]
      refine ⟨fun h => by have := ih.1 h; omega, fun h hp => by have := ih.2 h (List.pairwise_cons.1 hp).2; omega⟩
    · rw [if_neg h1]
      by_cases h2 : x.client = d.client
      · simp [h2]
      · rw [if_neg h2]
        have h3 : (x.client == d.client) = false := by simpa using h2
        simp only [h3, List.length_cons]
        refine ⟨fun _ => by omega, fun h hp => ?_⟩
        exfalso
        obtain ⟨y, hy⟩ := Option.isSome_iff_exists.1 h
        have hm := List.mem_of_find?_eq_some hy
        have he := List.find?_some hy
        have := (List.pairwise_cons.1 hp).1 y hm
        simp only [beq_iff_eq] at he
        omega
theorem keep_right {l : List Dn} {c i : Int} {r : Rep} (h : (keepS l c i r).e = 0) : rightD (keepS l c i r).l = true ∧ rightD l = true ∧ NamedP c i ∧ MayP r ∧ (keepS l c i r).l = insD ⟨c, i, r⟩ l ∧ (lookS l c i).e = 70 := by
  unfold keepS at h ⊢
  by_cases h1 : (lookS l c i).e = 1 ∨ (lookS l c i).e = 0 ∨ ¬ MayP r
  · rw [if_pos h1] at h
    simp at h
  rw [if_neg h1] at h ⊢
  by_cases h2 : (lookS l c i).e = 81
  · rw [if_pos h2] at h
    simp at h
  rw [if_neg h2] at h ⊢
  by_cases h3 : findD l c = none ∧ 8 ≤ l.length
  · rw [if_pos h3] at h
    simp at h
  rw [if_neg h3]
  have hy : MayP r := Decidable.byContradiction fun hc => h1 (.inr (.inr hc))
  have hcond : rightD l = true ∧ NamedP c i := Decidable.byContradiction fun hc => h1 (.inl (by unfold lookS; rw [if_neg hc]))
  have hr := hcond.1
  unfold rightD at hr
  simp only [Bool.and_eq_true, decide_eq_true_eq] at hr
  refine ⟨?_, hcond.1, hcond.2, hy, rfl, ?_⟩
  · unfold rightD
    simp only [Bool.and_eq_true, decide_eq_true_eq]
    refine ⟨ins_go hcond.2 hy (by have := hcond.2.1; simp only; omega) hr.1, ?_⟩
    have hlen := ins_len (d := ⟨c, i, r⟩) (l := l)
    cases hf : findD l c with
    | none =>
      have := hlen.1 hf
      have : ¬ 8 ≤ l.length := fun h => h3 ⟨hf, h⟩
      omega
    | some d =>
      have := hlen.2 (by simp [hf]) (dnGo_pw hr.1).1
      omega
  · unfold lookS at h1 h2 ⊢
    rw [if_pos hcond] at h1 h2 ⊢
    split
    · rfl
    · rename_i d hd
      rw [hd] at h1 h2
      simp only at h1 h2
      split
      · rfl
      · rename_i h4
        rw [if_neg h4] at h1 h2
        split
        · rename_i h5
          rw [if_pos h5] at h2
          simp at h2
        · rename_i h5
          rw [if_neg h5] at h1
          simp at h1
end Go.Ai

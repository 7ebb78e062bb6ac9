/- TableOthers: the machine's word. -/
import Derived.Test.YtmebpmghmghhkaaTabG
import Derived.Test.YtmebpmghmghhkaaTabFit
set_option linter.unusedVariables false
set_option linter.unusedSimpArgs false
set_option maxRecDepth 100000
set_option maxHeartbeats 4000000
namespace Go.Ai
open Go.Proofs
/-- Side by side, what was and what is. -/
inductive Oth (o : Opr) (e : Int) : List Rec → List Rec → Prop
  | nil : Oth o e [] []
  | one {ts us : List Rec} (x : Rec) : Oth o e ts us → Oth o e (x :: ts) (x :: us)
  | chg {ts us : List Rec} (x y : Rec) : x.key = o.key → y.key = o.key → writesS o = true → e = 0 → x.extra = y.extra → (o.kind ≠ 5 → x.life = y.life ∧ x.note = y.note) → (o.kind = 5 → x.value = y.value) → y.rev = x.rev + 1 → Oth o e ts us → Oth o e (x :: ts) (y :: us)
  | gone {ts us : List Rec} (x : Rec) : x.key = o.key → o.kind = 3 → e = 0 → (∀ y ∈ us.head?, ¬ x.key = y.key) → Oth o e ts us → Oth o e (x :: ts) us
  | new {ts us : List Rec} (y : Rec) : y.key = o.key → (o.kind = 2 ∨ o.kind = 4) → e = 0 → y.rev = 1 → (∀ x ∈ ts.head?, ¬ x.key = y.key) → Oth o e ts us → Oth o e ts (y :: us)
theorem Oth.refl {o : Opr} {e : Int} : ∀ t : List Rec, Oth o e t t
  | [] => .nil
  | x :: t => .one x (Oth.refl t)
theorem Oth.front {o : Opr} {e : Int} {ts us : List Rec} : ∀ a : List Rec, Oth o e ts us → Oth o e (a ++ ts) (a ++ us)
  | [], h => h
  | x :: a, h => .one x (Oth.front a h)
theorem cell_some {o : Opr} {r x : Rec} {b : Bool} (hk : 1 ≤ o.kind ∧ o.kind ≤ 5) (h : (cellC o (some r) b).1 = some x) : x = r ∨ ((cellC o (some r) b).2.errno = 0 ∧ (o.kind = 2 ∨ o.kind = 4) ∧ x = { putG o r with rev := r.rev + 1 }) ∨ ((cellC o (some r) b).2.errno = 0 ∧ o.kind = 5 ∧ x = { markG o r with rev := r.rev + 1 }) := by
  unfold cellC at h ⊢
  by_cases k1 : o.kind = 1
  · simp only [if_pos k1] at h ⊢
    simp only [Option.some.injEq] at h
    exact .inl h.symm
  simp only [if_neg k1] at h ⊢
  have put : (putC o (some r) b).1 = some x → x = r ∨ ((putC o (some r) b).2.errno = 0 ∧ x = { putG o r with rev := r.rev + 1 }) := fun h => by
    unfold putC at h ⊢
    by_cases hm : r.rev = 9007199254740992
    · simp only [if_pos hm, Option.some.injEq] at h
      exact .inl h.symm
    · simp only [if_neg hm, Option.some.injEq] at h ⊢
      exact .inr ⟨by trivial, h.symm⟩
  by_cases k2 : o.kind = 2
  · simp only [if_pos k2] at h ⊢
    rcases put h with h | ⟨h1, h2⟩
    · exact .inl h
    · exact .inr (.inl ⟨h1, .inl k2, h2⟩)
  simp only [if_neg k2] at h ⊢
  by_cases k3 : o.kind = 3
  · simp only [if_pos k3] at h
    simp at h
  simp only [if_neg k3] at h ⊢
  by_cases k4 : o.kind = 4
  · simp only [if_pos k4] at h ⊢
    by_cases hv : revC (some r) = o.rev
    · simp only [if_pos hv] at h ⊢
      rcases put h with h | ⟨h1, h2⟩
      · exact .inl h
      · exact .inr (.inl ⟨h1, .inr k4, h2⟩)
    · simp only [if_neg hv, Option.some.injEq] at h
      exact .inl h.symm
  simp only [if_neg k4] at h ⊢
  unfold markC at h ⊢
  by_cases hm : r.rev = 9007199254740992
  · simp only [if_pos hm, Option.some.injEq] at h
    exact .inl h.symm
  · simp only [if_neg hm, Option.some.injEq] at h ⊢
    exact .inr (.inr ⟨by trivial, by omega, h.symm⟩)
theorem cell_none {o : Opr} {x : Rec} {b : Bool} (h : (cellC o none b).1 = some x) : (cellC o none b).2.errno = 0 ∧ (o.kind = 2 ∨ o.kind = 4) ∧ x.rev = 1 := by
  unfold cellC at h ⊢
  by_cases k1 : o.kind = 1
  · simp only [if_pos k1] at h
    simp at h
  simp only [if_neg k1] at h ⊢
  have put : (putC o none b).1 = some x → (putC o none b).2.errno = 0 ∧ x.rev = 1 := fun h => by
    unfold putC at h ⊢
    cases b
    · simp only [Bool.false_eq_true, if_false, Option.some.injEq] at h ⊢
      exact ⟨by trivial, by rw [← h]; rfl⟩
    · simp at h
  by_cases k2 : o.kind = 2
  · simp only [if_pos k2] at h ⊢
    exact ⟨(put h).1, .inl k2, (put h).2⟩
  simp only [if_neg k2] at h ⊢
  by_cases k3 : o.kind = 3
  · simp only [if_pos k3] at h
    simp at h
  simp only [if_neg k3] at h ⊢
  by_cases k4 : o.kind = 4
  · simp only [if_pos k4] at h ⊢
    by_cases hv : revC none = o.rev
    · simp only [if_pos hv] at h ⊢
      exact ⟨(put h).1, .inr k4, (put h).2⟩
    · simp only [if_neg hv] at h
      simp at h
  simp only [if_neg k4] at h
  simp [markC] at h
theorem cell_del {o : Opr} {r : Rec} {b : Bool} (h : (cellC o (some r) b).1 = none) : (cellC o (some r) b).2.errno = 0 ∧ o.kind = 3 := by
  unfold cellC at h ⊢
  by_cases k1 : o.kind = 1
  · simp only [if_pos k1] at h
    simp at h
  simp only [if_neg k1] at h ⊢
  have put : ¬ (putC o (some r) b).1 = none := fun h => by
    unfold putC at h
    simp only at h
    split at h <;> simp at h
  by_cases k2 : o.kind = 2
  · simp only [if_pos k2] at h
    exact absurd h put
  simp only [if_neg k2] at h ⊢
  by_cases k3 : o.kind = 3
  · simp only [if_pos k3]
    exact ⟨by trivial, k3⟩
  simp only [if_neg k3] at h ⊢
  by_cases k4 : o.kind = 4
  · simp only [if_pos k4] at h
    by_cases hv : revC (some r) = o.rev
    · simp only [if_pos hv] at h
      exact absurd h put
    · simp only [if_neg hv] at h
      simp at h
  simp only [if_neg k4] at h
  unfold markC at h
  simp only at h
  split at h <;> simp at h
theorem others_plain {t : List Rec} {o : Opr} (ht : tabR t = true) (ho : checkS 2 o = 0) : Oth o (doS t o).r.errno t (doS t o).t := by
  have hs := (tabR_iff.1 ht).1
  by_cases k6 : o.kind = 6
  · have : (doS t o).t = t := by
      unfold doS
      rw [if_pos ⟨ht, ho⟩]
      unfold stepS
      simp [k6]
    rw [this]
    exact .refl t
  have hk : 1 ≤ o.kind ∧ o.kind ≤ 5 := by
    have := ho
    unfold checkS at this
    split at this
    · simp at this
    · rename_i hn
      have h1 : ¬ o.kind < 1 := fun hc => hn (.inr (.inl hc))
      have h2 : ¬ 6 < o.kind := fun hc => hn (.inr (.inr (.inl hc)))
      omega
  obtain ⟨h1, h2, h3⟩ := do_cell ht ho k6
  have uniq : ∀ {i : Nat} {r : Rec}, t[i]? = some r → findT r.key t = some r := fun {i r} hr => by
    have e := split_at hr
    have hs' := hs
    rw [e] at hs'
    rw [e, findT_ins (rise_uniq (t := t) hs'), if_pos rfl]
  rw [h2]
  clear h2 h3
  generalize (doS t o).t = u at h1
  generalize hf : (cellC o (findT o.key t) (decide (20 ≤ t.length))).1 = f at h1
  cases h1 with
  | same => exact .refl t
  | @set i r x hr hrk hx =>
    have hfr : findT o.key t = some r := by rw [← hrk]; exact uniq hr
    rw [hfr] at hf ⊢
    have hd := split_at hr
    have e1 := set_split (x := x) hr
    rw [e1]
    conv => arg 3; rw [hd]
    refine .front _ ?_
    rcases cell_some hk hf with h | ⟨g1, g2, g3⟩ | ⟨g1, g2, g3⟩
    · subst h
      exact .one _ (.refl _)
    · refine .chg r x hrk hx ?_ g1 (by rw [g3]; rfl) (fun _ => by rw [g3]; exact ⟨rfl, rfl⟩) (fun h5 => by omega) (by rw [g3]) (.refl _)
      unfold writesS
      rw [decide_eq_true_eq]
      omega
    · refine .chg r x hrk hx ?_ g1 (by rw [g3]; rfl) (fun h5 => absurd g2 h5) (fun _ => by rw [g3]; rfl) (by rw [g3]) (.refl _)
      unfold writesS
      rw [decide_eq_true_eq]
      omega
  | @ins x hn hl hx =>
    rw [hn] at hf ⊢
    obtain ⟨g1, g2, g3⟩ := cell_none hf
    conv => arg 3; rw [← List.take_append_drop (posT o.key t) t]
    refine .front _ (.new x hx g2 g1 g3 (fun y hy => ?_) (.refl _))
    have hm : y ∈ t := List.mem_of_mem_drop (List.mem_of_mem_head? hy)
    intro hc
    unfold findT at hn
    rw [List.find?_eq_none] at hn
    exact hn y hm (by rw [hc, hx]; simp)
  | @del i r hr hrk =>
    have hfr : findT o.key t = some r := by rw [← hrk]; exact uniq hr
    rw [hfr] at hf ⊢
    obtain ⟨g1, g2⟩ := cell_del hf
    have e := split_at hr
    have hs' := hs
    rw [e] at hs'
    have hu := rise_uniq (t := t) hs'
    conv => arg 3; rw [e]
    refine .front _ (.gone r hrk g2 g1 (fun y hy => ?_) (.refl _))
    intro hc
    exact hu y (List.mem_append.2 (.inr (List.mem_of_mem_head? hy))) hc.symm
theorem drop_cons {t ts : List Rec} {a : Nat} {x : Rec} (h : t.drop a = x :: ts) : a < t.length ∧ t[a]? = some x ∧ ts = t.drop (a + 1) := by
  have hlt : a < t.length := by
    rcases Nat.lt_or_ge a t.length with h1 | h1
    · exact h1
    · rw [List.drop_of_length_le h1] at h
      simp at h
  obtain ⟨d, hf, hd⟩ := drop_at hlt
  rw [h] at hd
  injection hd with h1 h2
  subst h1
  exact ⟨hlt, hf, h2⟩
theorem drop_nil {t : List Rec} {a : Nat} (h : t.drop a = []) (ha : a ≤ t.length) : a = t.length := by
  have := congrArg List.length h
  simp at this
  omega
theorem tothers_law (m : Nat) (hm : 30 ≤ m) (raw : List R5) (hrl : raw.length * 40 ≤ 140737488351232) (hr : ∀ r ∈ raw, r5k r) (one : R5) (h1 : r5k one) : wpF C m 4 [.lst 5 (raw.map r5w), .agg (r5w one)] [] fun r _ => r = .v (.bool true) := by
  have htb := fun (m : Nat) (hm : 6 ≤ m) K => table_w m hm raw (by omega) hr K
  have hop1 := fun (m : Nat) (hm : 3 ≤ m) K => op_w m hm one.a one.b one.c one.d one.e h1.1 h1.2.1 h1.2.2.1 h1.2.2.2.1 h1.2.2.2.2 K
  rw [show opS one.a one.b one.c one.d one.e = opR one from rfl] at hop1
  have ck1 := op_ok h1
  have tT := table_T (raw := raw)
  have tR := table_right (raw := raw)
  have tE := table_extra (raw := raw)
  generalize opR one = o at *
  generalize tableS raw = t at *
  have d1 := fun (m : Nat) (hm : 12 ≤ m) K => do_w m hm t tT o K
  have oth := others_plain tR ck1
  have uR := do_any (o := o) tR
  have uE := do_ext (o := o) tE
  have rt := fun (m : Nat) (hm : 5 ≤ m) K => rightt_w m hm (doS t o).t (right_T uR uE) K
  have wr := fun (m : Nat) (hm : 3 ≤ m) K => writes_w m hm o K
  rw [uR] at rt
  unfold DoR.av at d1
  generalize doS t o = z at *
  obtain ⟨u, r⟩ := z
  simp only at rt oth uR uE
  obtain ⟨_, tA, tL⟩ := tabR_iff.1 tR
  obtain ⟨_, uA, uL⟩ := tabR_iff.1 uR
  unfold r5v at hop1
  unfold r5w
  simp only [opv, rpv] at hop1 d1 wr
  obtain ⟨m, rfl⟩ : ∃ j, m = j + 1 := ⟨m - 1, by omega⟩; simp only [wpF, bodyA, fn_4, C_P, ok_4, C_prim, primOf, true_and]; simp (maxSteps := 4000000) only [EV, EVF, XV, cond_true, cond_false, Bool.false_eq_true, Bool.true_eq_false, eq_self, normsOf, cutsOf, heapOf, quietOf, drawsOf, drawmOf, drawfOf, opnOf, coldOf, shutOf, iceOf, extOf, extOverlaps_eq, overB_eq, extCmp_eq, shpOf, Try.f4, ↓reduceIte, Nat.reduceAdd, Nat.reduceLT, Nat.reduceEqDiff, Nat.reduceLeDiff, Nat.succ_ne_zero, Nat.zero_ne_one, Nat.one_ne_zero, ne_eq, not_false_eq_true, true_and, and_true, Nat.reduceMul, Nat.reduceSub, Int.reduceToNat, Int.toNat_zero, Int.toNat_one, Nat.zero_mul, Nat.one_mul, Int.reduceLT, Int.reduceLE, Int.le_refl, Int.zero_lt_one, Int.toNat_natCast, List.take_length, Int.cast_ofNat_Int, Int.reduceAdd, Int.reduceSub, Int.reduceBEq, Int.reduceBNe, ge_iff_le, gt_iff_lt, decide_true, decide_false, Int.lt_irrefl, Nat.zero_add, Nat.add_zero]
  refine awake12_w m (by omega) _ fun H => ?_
  simp (maxSteps := 4000000) only [EV, EVF, XV, cond_true, cond_false, Bool.false_eq_true, Bool.true_eq_false, eq_self, normsOf, cutsOf, heapOf, quietOf, drawsOf, drawmOf, drawfOf, opnOf, coldOf, shutOf, iceOf, extOf, extOverlaps_eq, overB_eq, extCmp_eq, shpOf, Try.f4, ↓reduceIte, Nat.reduceAdd, Nat.reduceLT, Nat.reduceEqDiff, Nat.reduceLeDiff, Nat.succ_ne_zero, Nat.zero_ne_one, Nat.one_ne_zero, ne_eq, not_false_eq_true, true_and, and_true, Nat.reduceMul, Nat.reduceSub, Int.reduceToNat, Int.toNat_zero, Int.toNat_one, Nat.zero_mul, Nat.one_mul, Int.reduceLT, Int.reduceLE, Int.le_refl, Int.zero_lt_one, Int.toNat_natCast, List.take_length, Int.cast_ofNat_Int, Int.reduceAdd, Int.reduceSub, Int.reduceBEq, Int.reduceBNe, ge_iff_le, gt_iff_lt, decide_true, decide_false, Int.lt_irrefl, Nat.zero_add, Nat.add_zero]
  refine htb m (by omega) _ fun H => ?_
  simp (maxSteps := 4000000) only [EV, EVF, XV, cond_true, cond_false, Bool.false_eq_true, Bool.true_eq_false, eq_self, normsOf, cutsOf, heapOf, quietOf, drawsOf, drawmOf, drawfOf, opnOf, coldOf, shutOf, iceOf, extOf, extOverlaps_eq, overB_eq, extCmp_eq, shpOf, Try.f4, ↓reduceIte, Nat.reduceAdd, Nat.reduceLT, Nat.reduceEqDiff, Nat.reduceLeDiff, Nat.succ_ne_zero, Nat.zero_ne_one, Nat.one_ne_zero, ne_eq, not_false_eq_true, true_and, and_true, Nat.reduceMul, Nat.reduceSub, Int.reduceToNat, Int.toNat_zero, Int.toNat_one, Nat.zero_mul, Nat.one_mul, Int.reduceLT, Int.reduceLE, Int.le_refl, Int.zero_lt_one, Int.toNat_natCast, List.take_length, Int.cast_ofNat_Int, Int.reduceAdd, Int.reduceSub, Int.reduceBEq, Int.reduceBNe, ge_iff_le, gt_iff_lt, decide_true, decide_false, Int.lt_irrefl, Nat.zero_add, Nat.add_zero]
  refine hop1 m (by omega) _ fun H => ?_
  simp (maxSteps := 4000000) only [EV, EVF, XV, cond_true, cond_false, Bool.false_eq_true, Bool.true_eq_false, eq_self, normsOf, cutsOf, heapOf, quietOf, drawsOf, drawmOf, drawfOf, opnOf, coldOf, shutOf, iceOf, extOf, extOverlaps_eq, overB_eq, extCmp_eq, shpOf, Try.f4, ↓reduceIte, Nat.reduceAdd, Nat.reduceLT, Nat.reduceEqDiff, Nat.reduceLeDiff, Nat.succ_ne_zero, Nat.zero_ne_one, Nat.one_ne_zero, ne_eq, not_false_eq_true, true_and, and_true, Nat.reduceMul, Nat.reduceSub, Int.reduceToNat, Int.toNat_zero, Int.toNat_one, Nat.zero_mul, Nat.one_mul, Int.reduceLT, Int.reduceLE, Int.le_refl, Int.zero_lt_one, Int.toNat_natCast, List.take_length, Int.cast_ofNat_Int, Int.reduceAdd, Int.reduceSub, Int.reduceBEq, Int.reduceBNe, ge_iff_le, gt_iff_lt, decide_true, decide_false, Int.lt_irrefl, Nat.zero_add, Nat.add_zero]
  refine d1 m (by omega) _ fun H => ?_
  simp (maxSteps := 4000000) only [EV, EVF, XV, cond_true, cond_false, Bool.false_eq_true, Bool.true_eq_false, eq_self, normsOf, cutsOf, heapOf, quietOf, drawsOf, drawmOf, drawfOf, opnOf, coldOf, shutOf, iceOf, extOf, extOverlaps_eq, overB_eq, extCmp_eq, shpOf, Try.f4, ↓reduceIte, Nat.reduceAdd, Nat.reduceLT, Nat.reduceEqDiff, Nat.reduceLeDiff, Nat.succ_ne_zero, Nat.zero_ne_one, Nat.one_ne_zero, ne_eq, not_false_eq_true, true_and, and_true, Nat.reduceMul, Nat.reduceSub, Int.reduceToNat, Int.toNat_zero, Int.toNat_one, Nat.zero_mul, Nat.one_mul, Int.reduceLT, Int.reduceLE, Int.le_refl, Int.zero_lt_one, Int.toNat_natCast, List.take_length, Int.cast_ofNat_Int, Int.reduceAdd, Int.reduceSub, Int.reduceBEq, Int.reduceBNe, ge_iff_le, gt_iff_lt, decide_true, decide_false, Int.lt_irrefl, Nat.zero_add, Nat.add_zero]
  refine rt m (by omega) _ fun H => ?_
  simp (maxSteps := 4000000) only [EV, EVF, XV, cond_true, cond_false, Bool.false_eq_true, Bool.true_eq_false, eq_self, normsOf, cutsOf, heapOf, quietOf, drawsOf, drawmOf, drawfOf, opnOf, coldOf, shutOf, iceOf, extOf, extOverlaps_eq, overB_eq, extCmp_eq, shpOf, Try.f4, ↓reduceIte, Nat.reduceAdd, Nat.reduceLT, Nat.reduceEqDiff, Nat.reduceLeDiff, Nat.succ_ne_zero, Nat.zero_ne_one, Nat.one_ne_zero, ne_eq, not_false_eq_true, true_and, and_true, Nat.reduceMul, Nat.reduceSub, Int.reduceToNat, Int.toNat_zero, Int.toNat_one, Nat.zero_mul, Nat.one_mul, Int.reduceLT, Int.reduceLE, Int.le_refl, Int.zero_lt_one, Int.toNat_natCast, List.take_length, Int.cast_ofNat_Int, Int.reduceAdd, Int.reduceSub, Int.reduceBEq, Int.reduceBNe, ge_iff_le, gt_iff_lt, decide_true, decide_false, Int.lt_irrefl, Nat.zero_add, Nat.add_zero, Bool.not_true]
  refine loop_at (fun p : Nat × Nat => ⟨[(5, .v (.bool true)), (6, .lst 6 (t.map rcv)), (7, .ptr 0 0), (8, .lst 6 (u.map rcv)), (9, .ptr 1 0), (10, .v (.int .i64 (p.1 : Nat))), (11, .v (.int .i64 (p.2 : Nat)))], [some (.var 26 (opv o)), some (.var 37 (rpv r))]⟩) (fun p => p.1 ≤ t.length ∧ p.2 ≤ u.length ∧ Oth o r.errno (t.drop p.1) (u.drop p.2)) (fun p => (t.length - p.1) + (u.length - p.2)) (0, 0) ⟨by simp, by simp, by simpa using oth⟩ rfl ?_
  rintro ⟨a, b⟩ ⟨ha, hb, hoth⟩
  simp only at ha hb hoth
  have wa : IntKind.i64.wrap ((a : Int) + 1) = ((a + 1 : Nat) : Int) := by rw [wrap64 (by omega) (by omega)]; omega
  have wb : IntKind.i64.wrap ((b : Int) + 1) = ((b + 1 : Nat) : Int) := by rw [wrap64 (by omega) (by omega)]; omega
  unfold opv rpv
  simp only
  generalize hT : t.drop a = T at hoth
  generalize hU : u.drop b = U at hoth
  cases hoth with
  | nil =>
    obtain rfl := drop_nil hT ha
    obtain rfl := drop_nil hU hb
    simp (maxSteps := 4000000) only [EV, EVF, XV, cond_true, cond_false, Bool.false_eq_true, Bool.true_eq_false, eq_self, normsOf, cutsOf, heapOf, quietOf, drawsOf, drawmOf, drawfOf, opnOf, coldOf, shutOf, iceOf, extOf, extOverlaps_eq, overB_eq, extCmp_eq, shpOf, Try.f4, ↓reduceIte, Nat.reduceAdd, Nat.reduceLT, Nat.reduceEqDiff, Nat.reduceLeDiff, Nat.succ_ne_zero, Nat.zero_ne_one, Nat.one_ne_zero, ne_eq, not_false_eq_true, true_and, and_true, Nat.reduceMul, Nat.reduceSub, Int.reduceToNat, Int.toNat_zero, Int.toNat_one, Nat.zero_mul, Nat.one_mul, Int.reduceLT, Int.reduceLE, Int.le_refl, Int.zero_lt_one, Int.toNat_natCast, List.take_length, Int.cast_ofNat_Int, Int.reduceAdd, Int.reduceSub, Int.reduceBEq, Int.reduceBNe, ge_iff_le, gt_iff_lt, decide_true, decide_false, Int.lt_irrefl, Nat.zero_add, Nat.add_zero, Int.lt_irrefl]
  | @one ts us x hn =>
    obtain ⟨ta, tx, tn⟩ := drop_cons hT
    obtain ⟨ub, ux, un⟩ := drop_cons hU
    have qa : ((a : Int) < (t.length : Int)) = True := eq_true (by omega)
    have qb : ((b : Int) < (u.length : Int)) = True := eq_true (by omega)
    have mt : (t.map rcv)[a]? = some [.v (.string (mk x.key)), .v (.string (mk x.value)), .v (.int .i64 x.rev), .v (.int .i64 x.life), .v (.string (mk x.note)), .lst 2 (x.extra.map fv)] := map_at (f := rcv) tx
    have mu : (u.map rcv)[b]? = some [.v (.string (mk x.key)), .v (.string (mk x.value)), .v (.int .i64 x.rev), .v (.int .i64 x.life), .v (.string (mk x.note)), .lst 2 (x.extra.map fv)] := map_at (f := rcv) ux
    have xb := (of_decide_eq_true (tA x (List.mem_of_getElem? tx)) : RightP 2 x).2.2.2.2
    have wx : IntKind.i64.wrap (x.rev + 1) = x.rev + 1 := wrap64 (by omega) (by omega)
    have lx : (x.rev + 1 < x.rev) = False := eq_false (by omega)
    have sm := fun (m : Nat) (hm : 2 ≤ m) K => samer_w m hm x x (by have := tE x (List.mem_of_getElem? tx); omega) K
    rw [decide_eq_true rfl] at sm
    unfold rcv at sm
    have fin : Oth o r.errno (t.drop (a + 1)) (u.drop (b + 1)) := by rw [← tn, ← un]; exact hn
    obtain ⟨kb, hkd⟩ : ∃ b, decide (x.key = o.key) = b := ⟨_, rfl⟩
    obtain ⟨eb, heb⟩ : ∃ b, (r.errno != 0) = b := ⟨_, rfl⟩
    obtain ⟨fb, h5b⟩ : ∃ b, (o.kind == 5) = b := ⟨_, rfl⟩
    have h5c : (o.kind != 5) = !fb := by rw [← h5b]; rfl
    generalize writesS o = wv at wr
    cases kb
    all_goals cases eb
    all_goals cases fb
    all_goals cases wv
    all_goals
      simp (maxSteps := 4000000) only [EV, EVF, XV, cond_true, cond_false, Bool.false_eq_true, Bool.true_eq_false, eq_self, normsOf, cutsOf, heapOf, quietOf, drawsOf, drawmOf, drawfOf, opnOf, coldOf, shutOf, iceOf, extOf, extOverlaps_eq, overB_eq, extCmp_eq, shpOf, Try.f4, ↓reduceIte, Nat.reduceAdd, Nat.reduceLT, Nat.reduceEqDiff, Nat.reduceLeDiff, Nat.succ_ne_zero, Nat.zero_ne_one, Nat.one_ne_zero, ne_eq, not_false_eq_true, true_and, and_true, Nat.reduceMul, Nat.reduceSub, Int.reduceToNat, Int.toNat_zero, Int.toNat_one, Nat.zero_mul, Nat.one_mul, Int.reduceLT, Int.reduceLE, Int.le_refl, Int.zero_lt_one, Int.toNat_natCast, List.take_length, Int.cast_ofNat_Int, Int.reduceAdd, Int.reduceSub, Int.reduceBEq, Int.reduceBNe, ge_iff_le, gt_iff_lt, decide_true, decide_false, Int.lt_irrefl, Nat.zero_add, Nat.add_zero, qa, qb, mt, mu, decide_true, Bool.not_true, Bool.not_false, hkd, heb, h5b, h5c, bne_self_eq_false, Int.lt_irrefl, wx, lx, wa, wb]
      repeat' (first | (refine sm m (by omega) _ fun H => ?_; simp (maxSteps := 4000000) only [EV, EVF, XV, cond_true, cond_false, Bool.false_eq_true, Bool.true_eq_false, eq_self, normsOf, cutsOf, heapOf, quietOf, drawsOf, drawmOf, drawfOf, opnOf, coldOf, shutOf, iceOf, extOf, extOverlaps_eq, overB_eq, extCmp_eq, shpOf, Try.f4, ↓reduceIte, Nat.reduceAdd, Nat.reduceLT, Nat.reduceEqDiff, Nat.reduceLeDiff, Nat.succ_ne_zero, Nat.zero_ne_one, Nat.one_ne_zero, ne_eq, not_false_eq_true, true_and, and_true, Nat.reduceMul, Nat.reduceSub, Int.reduceToNat, Int.toNat_zero, Int.toNat_one, Nat.zero_mul, Nat.one_mul, Int.reduceLT, Int.reduceLE, Int.le_refl, Int.zero_lt_one, Int.toNat_natCast, List.take_length, Int.cast_ofNat_Int, Int.reduceAdd, Int.reduceSub, Int.reduceBEq, Int.reduceBNe, ge_iff_le, gt_iff_lt, decide_true, decide_false, Int.lt_irrefl, Nat.zero_add, Nat.add_zero, qa, qb, mt, mu, decide_true, Bool.not_true, Bool.not_false, hkd, heb, h5b, h5c, bne_self_eq_false, Int.lt_irrefl, wx, lx, wa, wb]) | (refine wr m (by omega) _ fun H => ?_; simp (maxSteps := 4000000) only [EV, EVF, XV, cond_true, cond_false, Bool.false_eq_true, Bool.true_eq_false, eq_self, normsOf, cutsOf, heapOf, quietOf, drawsOf, drawmOf, drawfOf, opnOf, coldOf, shutOf, iceOf, extOf, extOverlaps_eq, overB_eq, extCmp_eq, shpOf, Try.f4, ↓reduceIte, Nat.reduceAdd, Nat.reduceLT, Nat.reduceEqDiff, Nat.reduceLeDiff, Nat.succ_ne_zero, Nat.zero_ne_one, Nat.one_ne_zero, ne_eq, not_false_eq_true, true_and, and_true, Nat.reduceMul, Nat.reduceSub, Int.reduceToNat, Int.toNat_zero, Int.toNat_one, Nat.zero_mul, Nat.one_mul, Int.reduceLT, Int.reduceLE, Int.le_refl, Int.zero_lt_one, Int.toNat_natCast, List.take_length, Int.cast_ofNat_Int, Int.reduceAdd, Int.reduceSub, Int.reduceBEq, Int.reduceBNe, ge_iff_le, gt_iff_lt, decide_true, decide_false, Int.lt_irrefl, Nat.zero_add, Nat.add_zero, qa, qb, mt, mu, decide_true, Bool.not_true, Bool.not_false, hkd, heb, h5b, h5c, bne_self_eq_false, Int.lt_irrefl, wx, lx, wa, wb]))
      exact ⟨(a + 1, b + 1), ⟨by simp only; omega, by simp only; omega, fin⟩, by simp only; omega, rfl⟩
  | @chg ts us x y c1 c2 c3 c4 c5 c6 c7 c8 hn =>
    obtain ⟨ta, tx, tn⟩ := drop_cons hT
    obtain ⟨ub, ux, un⟩ := drop_cons hU
    have qa : ((a : Int) < (t.length : Int)) = True := eq_true (by omega)
    have qb : ((b : Int) < (u.length : Int)) = True := eq_true (by omega)
    have mt : (t.map rcv)[a]? = some [.v (.string (mk x.key)), .v (.string (mk x.value)), .v (.int .i64 x.rev), .v (.int .i64 x.life), .v (.string (mk x.note)), .lst 2 (x.extra.map fv)] := map_at (f := rcv) tx
    have mu : (u.map rcv)[b]? = some [.v (.string (mk y.key)), .v (.string (mk y.value)), .v (.int .i64 y.rev), .v (.int .i64 y.life), .v (.string (mk y.note)), .lst 2 (y.extra.map fv)] := map_at (f := rcv) ux
    have xb := (of_decide_eq_true (tA x (List.mem_of_getElem? tx)) : RightP 2 x).2.2.2.2
    have wx : IntKind.i64.wrap (x.rev + 1) = x.rev + 1 := wrap64 (by omega) (by omega)
    have lx : (x.rev + 1 < x.rev) = False := eq_false (by omega)
    have fin : Oth o r.errno (t.drop (a + 1)) (u.drop (b + 1)) := by rw [← tn, ← un]; exact hn
    rw [c4] at fin
    have hkd : decide (x.key = y.key) = true := decide_eq_true (by rw [c1, c2])
    have hko : decide (x.key = o.key) = true := decide_eq_true c1
    rw [c3] at wr
    rw [c8, ← c5] at mu
    by_cases h5 : o.kind = 5
    · have h5b : (o.kind == 5) = true := by simpa using h5
      have h5c : (o.kind != 5) = false := by rw [bne, h5b]; rfl
      rw [← c7 h5] at mu
      simp (maxSteps := 4000000) only [EV, EVF, XV, cond_true, cond_false, Bool.false_eq_true, Bool.true_eq_false, eq_self, normsOf, cutsOf, heapOf, quietOf, drawsOf, drawmOf, drawfOf, opnOf, coldOf, shutOf, iceOf, extOf, extOverlaps_eq, overB_eq, extCmp_eq, shpOf, Try.f4, ↓reduceIte, Nat.reduceAdd, Nat.reduceLT, Nat.reduceEqDiff, Nat.reduceLeDiff, Nat.succ_ne_zero, Nat.zero_ne_one, Nat.one_ne_zero, ne_eq, not_false_eq_true, true_and, and_true, Nat.reduceMul, Nat.reduceSub, Int.reduceToNat, Int.toNat_zero, Int.toNat_one, Nat.zero_mul, Nat.one_mul, Int.reduceLT, Int.reduceLE, Int.le_refl, Int.zero_lt_one, Int.toNat_natCast, List.take_length, Int.cast_ofNat_Int, Int.reduceAdd, Int.reduceSub, Int.reduceBEq, Int.reduceBNe, ge_iff_le, gt_iff_lt, decide_true, decide_false, Int.lt_irrefl, Nat.zero_add, Nat.add_zero, qa, qb, mt, mu, decide_true, Bool.not_true, Bool.not_false, hkd, hko, c4, h5b, h5c, bne_self_eq_false, Int.lt_irrefl, wx, lx, wa, wb]
      refine wr m (by omega) _ fun H => ?_
      simp (maxSteps := 4000000) only [EV, EVF, XV, cond_true, cond_false, Bool.false_eq_true, Bool.true_eq_false, eq_self, normsOf, cutsOf, heapOf, quietOf, drawsOf, drawmOf, drawfOf, opnOf, coldOf, shutOf, iceOf, extOf, extOverlaps_eq, overB_eq, extCmp_eq, shpOf, Try.f4, ↓reduceIte, Nat.reduceAdd, Nat.reduceLT, Nat.reduceEqDiff, Nat.reduceLeDiff, Nat.succ_ne_zero, Nat.zero_ne_one, Nat.one_ne_zero, ne_eq, not_false_eq_true, true_and, and_true, Nat.reduceMul, Nat.reduceSub, Int.reduceToNat, Int.toNat_zero, Int.toNat_one, Nat.zero_mul, Nat.one_mul, Int.reduceLT, Int.reduceLE, Int.le_refl, Int.zero_lt_one, Int.toNat_natCast, List.take_length, Int.cast_ofNat_Int, Int.reduceAdd, Int.reduceSub, Int.reduceBEq, Int.reduceBNe, ge_iff_le, gt_iff_lt, decide_true, decide_false, Int.lt_irrefl, Nat.zero_add, Nat.add_zero, qa, qb, mt, mu, decide_true, Bool.not_true, Bool.not_false, hkd, hko, c4, h5b, h5c, bne_self_eq_false, Int.lt_irrefl, wx, lx, wa, wb]
      exact ⟨(a + 1, b + 1), ⟨by simp only; omega, by simp only; omega, fin⟩, by simp only; omega, rfl⟩
    · have h5b : (o.kind == 5) = false := by simpa using h5
      have h5c : (o.kind != 5) = true := by rw [bne, h5b]; rfl
      rw [← (c6 h5).1, ← (c6 h5).2] at mu
      simp (maxSteps := 4000000) only [EV, EVF, XV, cond_true, cond_false, Bool.false_eq_true, Bool.true_eq_false, eq_self, normsOf, cutsOf, heapOf, quietOf, drawsOf, drawmOf, drawfOf, opnOf, coldOf, shutOf, iceOf, extOf, extOverlaps_eq, overB_eq, extCmp_eq, shpOf, Try.f4, ↓reduceIte, Nat.reduceAdd, Nat.reduceLT, Nat.reduceEqDiff, Nat.reduceLeDiff, Nat.succ_ne_zero, Nat.zero_ne_one, Nat.one_ne_zero, ne_eq, not_false_eq_true, true_and, and_true, Nat.reduceMul, Nat.reduceSub, Int.reduceToNat, Int.toNat_zero, Int.toNat_one, Nat.zero_mul, Nat.one_mul, Int.reduceLT, Int.reduceLE, Int.le_refl, Int.zero_lt_one, Int.toNat_natCast, List.take_length, Int.cast_ofNat_Int, Int.reduceAdd, Int.reduceSub, Int.reduceBEq, Int.reduceBNe, ge_iff_le, gt_iff_lt, decide_true, decide_false, Int.lt_irrefl, Nat.zero_add, Nat.add_zero, qa, qb, mt, mu, decide_true, Bool.not_true, Bool.not_false, hkd, hko, c4, h5b, h5c, bne_self_eq_false, Int.lt_irrefl, wx, lx, wa, wb]
      refine wr m (by omega) _ fun H => ?_
      simp (maxSteps := 4000000) only [EV, EVF, XV, cond_true, cond_false, Bool.false_eq_true, Bool.true_eq_false, eq_self, normsOf, cutsOf, heapOf, quietOf, drawsOf, drawmOf, drawfOf, opnOf, coldOf, shutOf, iceOf, extOf, extOverlaps_eq, overB_eq, extCmp_eq, shpOf, Try.f4, ↓reduceIte, Nat.reduceAdd, Nat.reduceLT, Nat.reduceEqDiff, Nat.reduceLeDiff, Nat.succ_ne_zero, Nat.zero_ne_one, Nat.one_ne_zero, ne_eq, not_false_eq_true, true_and, and_true, Nat.reduceMul, Nat.reduceSub, Int.reduceToNat, Int.toNat_zero, Int.toNat_one, Nat.zero_mul, Nat.one_mul, Int.reduceLT, Int.reduceLE, Int.le_refl, Int.zero_lt_one, Int.toNat_natCast, List.take_length, Int.cast_ofNat_Int, Int.reduceAdd, Int.reduceSub, Int.reduceBEq, Int.reduceBNe, ge_iff_le, gt_iff_lt, decide_true, decide_false, Int.lt_irrefl, Nat.zero_add, Nat.add_zero, qa, qb, mt, mu, decide_true, Bool.not_true, Bool.not_false, hkd, hko, c4, h5b, h5c, bne_self_eq_false, Int.lt_irrefl, wx, lx, wa, wb]
      exact ⟨(a + 1, b + 1), ⟨by simp only; omega, by simp only; omega, fin⟩, by simp only; omega, rfl⟩
  | @gone ts us x c1 c2 c3 c4 hn =>
    obtain ⟨ta, tx, tn⟩ := drop_cons hT
    have qa : ((a : Int) < (t.length : Int)) = True := eq_true (by omega)
    have mt : (t.map rcv)[a]? = some [.v (.string (mk x.key)), .v (.string (mk x.value)), .v (.int .i64 x.rev), .v (.int .i64 x.life), .v (.string (mk x.note)), .lst 2 (x.extra.map fv)] := map_at (f := rcv) tx
    have hko : decide (x.key = o.key) = true := decide_eq_true c1
    have k3 : (o.kind == 3) = true := by simpa using c2
    have fin : Oth o r.errno (t.drop (a + 1)) (u.drop b) := by rw [← tn, hU]; exact hn
    rw [c3] at fin
    cases hUc : U with
    | nil =>
      rw [hUc] at hU
      have qb : ((b : Int) < (u.length : Int)) = False := eq_false (by have := drop_nil hU hb; omega)
      simp (maxSteps := 4000000) only [EV, EVF, XV, cond_true, cond_false, Bool.false_eq_true, Bool.true_eq_false, eq_self, normsOf, cutsOf, heapOf, quietOf, drawsOf, drawmOf, drawfOf, opnOf, coldOf, shutOf, iceOf, extOf, extOverlaps_eq, overB_eq, extCmp_eq, shpOf, Try.f4, ↓reduceIte, Nat.reduceAdd, Nat.reduceLT, Nat.reduceEqDiff, Nat.reduceLeDiff, Nat.succ_ne_zero, Nat.zero_ne_one, Nat.one_ne_zero, ne_eq, not_false_eq_true, true_and, and_true, Nat.reduceMul, Nat.reduceSub, Int.reduceToNat, Int.toNat_zero, Int.toNat_one, Nat.zero_mul, Nat.one_mul, Int.reduceLT, Int.reduceLE, Int.le_refl, Int.zero_lt_one, Int.toNat_natCast, List.take_length, Int.cast_ofNat_Int, Int.reduceAdd, Int.reduceSub, Int.reduceBEq, Int.reduceBNe, ge_iff_le, gt_iff_lt, decide_true, decide_false, Int.lt_irrefl, Nat.zero_add, Nat.add_zero, qa, qb, mt, decide_true, Bool.not_true, Bool.not_false, hko, c3, k3, wa, beq_self_eq_true]
      exact ⟨(a + 1, b), ⟨by simp only; omega, by simp only; omega, fin⟩, by simp only; omega, rfl⟩
    | cons y us' =>
      rw [hUc] at hU
      obtain ⟨ub, ux, un⟩ := drop_cons hU
      have qb : ((b : Int) < (u.length : Int)) = True := eq_true (by omega)
      have mu : (u.map rcv)[b]? = some [.v (.string (mk y.key)), .v (.string (mk y.value)), .v (.int .i64 y.rev), .v (.int .i64 y.life), .v (.string (mk y.note)), .lst 2 (y.extra.map fv)] := map_at (f := rcv) ux
      have hkd : decide (x.key = y.key) = false := decide_eq_false (c4 y (by rw [hUc]; rfl))
      simp (maxSteps := 4000000) only [EV, EVF, XV, cond_true, cond_false, Bool.false_eq_true, Bool.true_eq_false, eq_self, normsOf, cutsOf, heapOf, quietOf, drawsOf, drawmOf, drawfOf, opnOf, coldOf, shutOf, iceOf, extOf, extOverlaps_eq, overB_eq, extCmp_eq, shpOf, Try.f4, ↓reduceIte, Nat.reduceAdd, Nat.reduceLT, Nat.reduceEqDiff, Nat.reduceLeDiff, Nat.succ_ne_zero, Nat.zero_ne_one, Nat.one_ne_zero, ne_eq, not_false_eq_true, true_and, and_true, Nat.reduceMul, Nat.reduceSub, Int.reduceToNat, Int.toNat_zero, Int.toNat_one, Nat.zero_mul, Nat.one_mul, Int.reduceLT, Int.reduceLE, Int.le_refl, Int.zero_lt_one, Int.toNat_natCast, List.take_length, Int.cast_ofNat_Int, Int.reduceAdd, Int.reduceSub, Int.reduceBEq, Int.reduceBNe, ge_iff_le, gt_iff_lt, decide_true, decide_false, Int.lt_irrefl, Nat.zero_add, Nat.add_zero, qa, qb, mt, mu, decide_true, Bool.not_true, Bool.not_false, hkd, hko, c3, k3, wa, beq_self_eq_true]
      exact ⟨(a + 1, b), ⟨by simp only; omega, by simp only; omega, fin⟩, by simp only; omega, rfl⟩
  | @new ts us y c1 c2 c3 c4 c5 hn =>
    obtain ⟨ub, ux, un⟩ := drop_cons hU
    have qb : ((b : Int) < (u.length : Int)) = True := eq_true (by omega)
    have mu : (u.map rcv)[b]? = some [.v (.string (mk y.key)), .v (.string (mk y.value)), .v (.int .i64 y.rev), .v (.int .i64 y.life), .v (.string (mk y.note)), .lst 2 (y.extra.map fv)] := map_at (f := rcv) ux
    have hko : decide (y.key = o.key) = true := decide_eq_true c1
    have fin : Oth o r.errno (t.drop a) (u.drop (b + 1)) := by rw [← un, hT]; exact hn
    rw [c3] at fin
    rw [c4] at mu
    obtain ⟨kb, h2b⟩ : ∃ b, (o.kind == 2) = b := ⟨_, rfl⟩
    have h4b : kb = false → (o.kind == 4) = true := fun h => by
      rw [h] at h2b
      simp at h2b ⊢
      omega
    cases hTc : T with
    | nil =>
      rw [hTc] at hT
      have qa : ((a : Int) < (t.length : Int)) = False := eq_false (by have := drop_nil hT ha; omega)
      cases kb
      · simp (maxSteps := 4000000) only [EV, EVF, XV, cond_true, cond_false, Bool.false_eq_true, Bool.true_eq_false, eq_self, normsOf, cutsOf, heapOf, quietOf, drawsOf, drawmOf, drawfOf, opnOf, coldOf, shutOf, iceOf, extOf, extOverlaps_eq, overB_eq, extCmp_eq, shpOf, Try.f4, ↓reduceIte, Nat.reduceAdd, Nat.reduceLT, Nat.reduceEqDiff, Nat.reduceLeDiff, Nat.succ_ne_zero, Nat.zero_ne_one, Nat.one_ne_zero, ne_eq, not_false_eq_true, true_and, and_true, Nat.reduceMul, Nat.reduceSub, Int.reduceToNat, Int.toNat_zero, Int.toNat_one, Nat.zero_mul, Nat.one_mul, Int.reduceLT, Int.reduceLE, Int.le_refl, Int.zero_lt_one, Int.toNat_natCast, List.take_length, Int.cast_ofNat_Int, Int.reduceAdd, Int.reduceSub, Int.reduceBEq, Int.reduceBNe, ge_iff_le, gt_iff_lt, decide_true, decide_false, Int.lt_irrefl, Nat.zero_add, Nat.add_zero, qa, qb, mu, decide_true, Bool.not_true, Bool.not_false, hko, c3, h2b, h4b rfl, wb, beq_self_eq_true]
        exact ⟨(a, b + 1), ⟨by simp only; omega, by simp only; omega, fin⟩, by simp only; omega, rfl⟩
      · simp (maxSteps := 4000000) only [EV, EVF, XV, cond_true, cond_false, Bool.false_eq_true, Bool.true_eq_false, eq_self, normsOf, cutsOf, heapOf, quietOf, drawsOf, drawmOf, drawfOf, opnOf, coldOf, shutOf, iceOf, extOf, extOverlaps_eq, overB_eq, extCmp_eq, shpOf, Try.f4, ↓reduceIte, Nat.reduceAdd, Nat.reduceLT, Nat.reduceEqDiff, Nat.reduceLeDiff, Nat.succ_ne_zero, Nat.zero_ne_one, Nat.one_ne_zero, ne_eq, not_false_eq_true, true_and, and_true, Nat.reduceMul, Nat.reduceSub, Int.reduceToNat, Int.toNat_zero, Int.toNat_one, Nat.zero_mul, Nat.one_mul, Int.reduceLT, Int.reduceLE, Int.le_refl, Int.zero_lt_one, Int.toNat_natCast, List.take_length, Int.cast_ofNat_Int, Int.reduceAdd, Int.reduceSub, Int.reduceBEq, Int.reduceBNe, ge_iff_le, gt_iff_lt, decide_true, decide_false, Int.lt_irrefl, Nat.zero_add, Nat.add_zero, qa, qb, mu, decide_true, Bool.not_true, Bool.not_false, hko, c3, h2b, wb, beq_self_eq_true]
        exact ⟨(a, b + 1), ⟨by simp only; omega, by simp only; omega, fin⟩, by simp only; omega, rfl⟩
    | cons x ts' =>
      rw [hTc] at hT
      obtain ⟨ta, tx, tn⟩ := drop_cons hT
      have qa : ((a : Int) < (t.length : Int)) = True := eq_true (by omega)
      have mt : (t.map rcv)[a]? = some [.v (.string (mk x.key)), .v (.string (mk x.value)), .v (.int .i64 x.rev), .v (.int .i64 x.life), .v (.string (mk x.note)), .lst 2 (x.extra.map fv)] := map_at (f := rcv) tx
      have hne := c5 x (by rw [hTc]; rfl)
      have hkd : decide (x.key = y.key) = false := decide_eq_false hne
      have hkx : decide (x.key = o.key) = false := decide_eq_false (by rw [← c1]; exact hne)
      cases kb
      · simp (maxSteps := 4000000) only [EV, EVF, XV, cond_true, cond_false, Bool.false_eq_true, Bool.true_eq_false, eq_self, normsOf, cutsOf, heapOf, quietOf, drawsOf, drawmOf, drawfOf, opnOf, coldOf, shutOf, iceOf, extOf, extOverlaps_eq, overB_eq, extCmp_eq, shpOf, Try.f4, ↓reduceIte, Nat.reduceAdd, Nat.reduceLT, Nat.reduceEqDiff, Nat.reduceLeDiff, Nat.succ_ne_zero, Nat.zero_ne_one, Nat.one_ne_zero, ne_eq, not_false_eq_true, true_and, and_true, Nat.reduceMul, Nat.reduceSub, Int.reduceToNat, Int.toNat_zero, Int.toNat_one, Nat.zero_mul, Nat.one_mul, Int.reduceLT, Int.reduceLE, Int.le_refl, Int.zero_lt_one, Int.toNat_natCast, List.take_length, Int.cast_ofNat_Int, Int.reduceAdd, Int.reduceSub, Int.reduceBEq, Int.reduceBNe, ge_iff_le, gt_iff_lt, decide_true, decide_false, Int.lt_irrefl, Nat.zero_add, Nat.add_zero, qa, qb, mt, mu, decide_true, Bool.not_true, Bool.not_false, hkd, hkx, hko, c3, h2b, h4b rfl, wb, beq_self_eq_true]
        exact ⟨(a, b + 1), ⟨by simp only; omega, by simp only; omega, fin⟩, by simp only; omega, rfl⟩
      · simp (maxSteps := 4000000) only [EV, EVF, XV, cond_true, cond_false, Bool.false_eq_true, Bool.true_eq_false, eq_self, normsOf, cutsOf, heapOf, quietOf, drawsOf, drawmOf, drawfOf, opnOf, coldOf, shutOf, iceOf, extOf, extOverlaps_eq, overB_eq, extCmp_eq, shpOf, Try.f4, ↓reduceIte, Nat.reduceAdd, Nat.reduceLT, Nat.reduceEqDiff, Nat.reduceLeDiff, Nat.succ_ne_zero, Nat.zero_ne_one, Nat.one_ne_zero, ne_eq, not_false_eq_true, true_and, and_true, Nat.reduceMul, Nat.reduceSub, Int.reduceToNat, Int.toNat_zero, Int.toNat_one, Nat.zero_mul, Nat.one_mul, Int.reduceLT, Int.reduceLE, Int.le_refl, Int.zero_lt_one, Int.toNat_natCast, List.take_length, Int.cast_ofNat_Int, Int.reduceAdd, Int.reduceSub, Int.reduceBEq, Int.reduceBNe, ge_iff_le, gt_iff_lt, decide_true, decide_false, Int.lt_irrefl, Nat.zero_add, Nat.add_zero, qa, qb, mt, mu, decide_true, Bool.not_true, Bool.not_false, hkd, hkx, hko, c3, h2b, wb, beq_self_eq_true]
        exact ⟨(a, b + 1), ⟨by simp only; omega, by simp only; omega, fin⟩, by simp only; omega, rfl⟩
end Go.Ai

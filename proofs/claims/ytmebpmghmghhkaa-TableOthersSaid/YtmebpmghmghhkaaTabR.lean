/- careenlaw12.Table: plain laws of what it gives. -/
import Derived.Test.YtmebpmghmghhkaaTab14
set_option linter.unusedVariables false
set_option linter.unusedSimpArgs false
set_option maxRecDepth 100000
namespace Go.Ai
theorem do_all {P Q : Rec → Prop} {t : List Rec} {o : Opr} (hpq : ∀ r, P r → Q r) (hn : Q (newR o.key o.value)) (hput : ∀ r, P r → Q { putG o r with rev := r.rev + 1 }) (hmark : ∀ r, P r → Q { markG o r with rev := r.rev + 1 }) (ht : ∀ r ∈ t, P r) : ∀ r ∈ (doS t o).t, Q r := by
  have put : ∀ i h, ∀ r ∈ (putS t o i h).t, Q r := by
    intro i h r hr
    unfold putS changeS at hr
    split at hr
    · split at hr
      · exact hpq r (ht r hr)
      · rename_i x hx
        split at hr
        · exact hpq r (ht r hr)
        · rcases List.mem_or_eq_of_mem_set hr with hr | rfl
          · exact hpq r (ht r hr)
          · exact hput x (ht x (List.mem_of_getElem? hx))
    · split at hr
      · exact hpq r (ht r hr)
      · rcases List.mem_append.1 hr with hr | hr
        · exact hpq r (ht r (List.mem_of_mem_take hr))
        · rcases List.mem_cons.1 hr with rfl | hr
          · exact hn
          · exact hpq r (ht r (List.mem_of_mem_drop hr))
  intro r hr
  unfold doS at hr
  split at hr
  · unfold stepS at hr
    split at hr
    · split at hr <;> exact hpq r (ht r hr)
    split at hr
    · exact put _ _ r hr
    split at hr
    · split at hr
      · rcases List.mem_append.1 hr with hr | hr
        · exact hpq r (ht r (List.mem_of_mem_take hr))
        · exact hpq r (ht r (List.mem_of_mem_drop hr))
      · exact hpq r (ht r hr)
    split at hr
    · split at hr
      · exact put _ _ r hr
      · exact hpq r (ht r hr)
    split at hr
    · split at hr
      · unfold changeS at hr
        split at hr
        · exact hpq r (ht r hr)
        · rename_i x hx
          split at hr
          · exact hpq r (ht r hr)
          · rcases List.mem_or_eq_of_mem_set hr with hr | rfl
            · exact hpq r (ht r hr)
            · exact hmark x (ht x (List.mem_of_getElem? hx))
      · exact hpq r (ht r hr)
    · exact hpq r (ht r hr)
  · exact hpq r (ht r hr)
theorem run_rev : ∀ {l : List R5} {t : List Rec} {n : Nat}, (∀ r ∈ t, r.rev ≤ n) → ∀ r ∈ runS t l, r.rev ≤ ((n + l.length : Nat) : Int)
  | [], _, _, h => h
  | x :: l, t, n, h => by
    have h1 : ∀ r ∈ (doS t (opR x)).t, r.rev ≤ ((n + 1 : Nat) : Int) := do_all (P := fun r => r.rev ≤ n) (Q := fun r => r.rev ≤ ((n + 1 : Nat) : Int)) (fun r h => by omega) (by simp only [newR]; omega) (fun r h => by simp only; omega) (fun r h => by simp only; omega) h
    have := run_rev (l := l) h1
    rw [List.length_cons, show n + (l.length + 1) = n + 1 + l.length by omega]
    exact this
theorem key_small {c : Int} (hc : i64ok c) : 1 ≤ (keyS c).length ∧ (keyS c).length ≤ 5 := by
  obtain ⟨u, v, hu, hv, _, _, hkey⟩ := key_uv hc
  rw [hkey]
  unfold keyN
  have h1 := keyA_ne hu
  have h2 := keyB_len hv
  have h3 : 0 < (keyA.getD u []).length := List.length_pos_iff.2 h1.1
  rw [List.length_append]
  omega
theorem opR_key {r : R5} (h : r5k r) : (opR r).key.length ≤ 5 := by
  have := key_small h.2.1
  unfold opR opS opK
  simp only
  split
  · simp
  · omega
theorem run_key : ∀ {l : List R5} {t : List Rec}, (∀ x ∈ l, r5k x) → (∀ r ∈ t, r.key.length ≤ 5) → ∀ r ∈ runS t l, r.key.length ≤ 5
  | [], _, _, h => h
  | x :: l, t, hl, h => by
    have hk := opR_key (hl x (by simp))
    exact run_key (l := l) (fun y hy => hl y (by simp [hy])) (do_all (P := fun r => r.key.length ≤ 5) (Q := fun r => r.key.length ≤ 5) (fun r h => h) hk (fun r h => h) (fun r h => h) h)
theorem ext_mem {big : Bool} {t : List Rec} {x : Rec} (h : x ∈ extG big 0 t) : ∃ i r, t[i]? = some r ∧ x = extS big i r := by
  obtain ⟨i, hi⟩ := List.mem_iff_getElem?.1 h
  rw [extG_at, Nat.zero_add] at hi
  cases hr : t[i]? with
  | none => rw [hr] at hi; simp at hi
  | some r =>
    rw [hr] at hi
    simp only [Option.map_some, Option.some.injEq] at hi
    exact ⟨i, r, hr, hi.symm⟩
theorem ext_keys {big : Bool} : ∀ {t : List Rec} {i : Nat}, (extG big i t).map (·.key) = t.map (·.key)
  | [], _ => rfl
  | r :: t, i => by
    unfold extG
    rw [List.map_cons, ext_keys, List.map_cons]
    rfl
theorem rise_keys {t : List Rec} : Rise t ↔ (t.map (·.key)).Pairwise (fun a b => cmpL a b < 0) := by
  unfold Rise
  rw [List.pairwise_map]
theorem carried_right : ∀ i : Fin 20, extraS 2 [((9 + i.val : Nat), carried)] = true := by decide +kernel
theorem extS_right {big : Bool} {i : Nat} {r : Rec} (hi : i < 20) (h : rightR 2 r = true) (he : r.extra = []) : rightR 2 (extS big i r) = true := by
  obtain ⟨g1, g2, g3, g4, g5, g6, g7, g8, g9, g10, g11⟩ := (of_decide_eq_true h : RightP 2 r)
  apply decide_eq_true
  have hx : extraS 2 (extS big i r).extra = true := by
    unfold extS
    simp only
    split
    · exact carried_right ⟨i, hi⟩
    · exact g11
  have hv : 0 ≤ (extS big i r).rev ∧ (extS big i r).rev ≤ 9007199254740992 := by
    unfold extS
    simp only
    split <;> omega
  exact ⟨g1, g2, g3, g4, hv.1, hv.2, by simp, g8, g9, g10, hx⟩
theorem table_right {raw : List R5} : tabR (tableS raw) = true := by
  have hok := run_ok (l := raw.take 40) okR_nil
  obtain ⟨h1, h2, h3⟩ := tabR_iff.1 hok.1
  unfold tableS
  refine tabR_iff.2 ⟨?_, fun x hx => ?_, by rw [extG_len]; exact h3⟩
  · rw [rise_keys, ext_keys, ← rise_keys]
    exact h1
  · obtain ⟨i, r, hr, rfl⟩ := ext_mem hx
    have hi := (List.getElem?_eq_some_iff.1 hr).1
    have hm := List.mem_of_getElem? hr
    exact extS_right (by omega) (h2 r hm) (hok.2 r hm)
theorem right_T {t : List Rec} (h : tabR t = true) (he : ∀ r ∈ t, r.extra.length ≤ 1000) : okT t := by
  have := (tabR_iff.1 h).2.2
  exact ⟨by omega, fun r hr => by have := he r hr; omega⟩
theorem table_extra {raw : List R5} : ∀ r ∈ tableS raw, r.extra.length ≤ 1000 := fun x hx => by
  have hok := run_ok (l := raw.take 40) okR_nil
  unfold tableS at hx
  obtain ⟨i, r, hr, rfl⟩ := ext_mem hx
  have := hok.2 r (List.mem_of_getElem? hr)
  unfold extS
  simp only
  split
  · simp
  · simp [this]
theorem table_T {raw : List R5} : okT (tableS raw) := right_T table_right table_extra
theorem do_ext {t : List Rec} {o : Opr} (h : ∀ r ∈ t, r.extra.length ≤ 1000) : ∀ r ∈ (doS t o).t, r.extra.length ≤ 1000 :=
  do_all (P := fun r => r.extra.length ≤ 1000) (Q := fun r => r.extra.length ≤ 1000) (fun r h => h) (by simp [newR]) (fun r h => h) (fun r h => h) h
theorem do_T {t : List Rec} {o : Opr} (h : tabR t = true) (he : ∀ r ∈ t, r.extra.length ≤ 1000) : okT (doS t o).t := right_T (do_any h) (do_ext he)
theorem table_key {raw : List R5} (hr : ∀ r ∈ raw, r5k r) : ∀ r ∈ tableS raw, r.key.length ≤ 5 := fun x hx => by
  unfold tableS at hx
  obtain ⟨i, r, hr', rfl⟩ := ext_mem hx
  exact run_key (fun y hy => hr y (List.mem_of_mem_take hy)) (by simp) r (List.mem_of_getElem? hr')
theorem table_max {raw : List R5} : ∀ r ∈ tableS raw, r.rev = 9007199254740992 → 5 ≤ (tableS raw).length := fun x hx hm => by
  unfold tableS at hx ⊢
  obtain ⟨i, r, hr, rfl⟩ := ext_mem hx
  have hb := run_rev (l := raw.take 40) (t := []) (n := 0) (by simp) r (List.mem_of_getElem? hr)
  have hl : (raw.take 40).length ≤ 40 := by simp; omega
  have hi := (List.getElem?_eq_some_iff.1 hr).1
  rw [extG_len]
  unfold extS at hm
  simp only at hm
  split at hm
  · rename_i hc
    have := hc.1
    omega
  · omega
end Go.Ai

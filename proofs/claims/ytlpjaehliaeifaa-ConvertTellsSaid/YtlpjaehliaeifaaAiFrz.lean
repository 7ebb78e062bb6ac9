/- A row that becomes part of another row: from then on nobody writes it. -/
import Derived.Test.YtlpjaehliaeifaaAiMem
set_option linter.unusedVariables false
set_option linter.unusedSimpArgs false
namespace Go.Ai
section
variable {P : Program} {hp hp' : Im} {σ σ' : Sg} {H : Hp} {W W' : World}
theorem blk_clr : ∀ (ids : List Nat) (H : Hp) (i : Nat) (b : Blk), blk (clr H ids) i = some b → blk H i = some b ∧ i ∉ ids
  | [], H, i, b, h => ⟨h, by simp⟩
  | j :: r, H, i, b, h => by
    obtain ⟨h1, h2⟩ := blk_clr r (H.set j none) i b h
    by_cases hi : i = j
    · subst hi
      have hlt := blk_lt h1
      rw [blk_set_same _ (by simpa using hlt)] at h1
      simp at h1
    · rw [blk_set_other _ hi] at h1
      exact ⟨h1, by simp [hi, h2]⟩
theorem clr_len : ∀ (ids : List Nat) (H : Hp), (clr H ids).length = H.length
  | [], H => rfl
  | j :: r, H => by
    rw [clr, clr_len r]
    simp
open Classical in
/-- Memory that nobody writes any more, and the blocks of some rows. -/
noncomputable def frzHp (hp : Im) (σ : Sg) (H : Hp) (W : World) (ids : List Nat) : Im := fun k =>
  if ∃ i ∈ ids, ∃ t sz xs v, blk H i = some (.row t sz xs) ∧ σ i = some v ∧ bn v = some k then W.heap[k]? else hp k
theorem frz_le (hr : HeapRel hp σ H W) (ids : List Nat) : ImLe hp (frzHp hp σ H W ids) := fun k o h => by
  unfold frzHp
  split
  · exact hr.im k o h
  · exact h
theorem frz_new {ids : List Nat} {k : Nat} {o : Obj} (h : frzHp hp σ H W ids k = some o) : hp k = some o ∨ ∃ id v, σ id = some v ∧ bn v = some k := by
  unfold frzHp at h
  split at h
  · rename_i hc
    obtain ⟨i, _, _, _, _, v, _, h1, h2⟩ := hc
    exact .inr ⟨i, v, h1, h2⟩
  · exact .inl h
theorem frz_heap (hr : HeapRel hp σ H W) (ids : List Nat) : HeapRel (frzHp hp σ H W ids) σ (clr H ids) W := by
  constructor
  · intro k o h
    unfold frzHp at h
    split at h
    · exact h
    · exact hr.im k o h
  · intro id b hb
    obtain ⟨h1, h2⟩ := blk_clr _ _ _ _ hb
    obtain ⟨v, h3, h4, h5⟩ := hr.own id b h1
    refine ⟨v, h3, h4.keep (frz_le hr ids) (SgLe.refl _) fun k hk => rfl, fun k hk => ?_⟩
    unfold frzHp
    split
    · rename_i hc
      obtain ⟨i, hi, t, sz, xs, w, h6, h7, h8⟩ := hc
      have := hr.apart i id _ _ w v k h6 h1 h7 h3 h8 hk
      subst this
      exact absurd hi h2
    · exact h5 k hk
  · intro i j b c v w k hb hc
    exact hr.apart i j b c v w k (blk_clr _ _ _ _ hb).1 (blk_clr _ _ _ _ hc).1
  · intro id v h
    rw [clr_len]
    exact hr.dom id v h
  · exact hr.lt
/-- The row as it stands. -/
theorem frz_row {ids : List Nat} {x : AV} {u : Value} (hr : HeapRel hp σ H W) (hin : ∀ i ∈ idsR0 x, i ∈ ids) (hx : Rel hp σ x u) : Rel (frzHp hp σ H W ids) σ (frz0 H x) u := by
  have hm := Rel.mono (frz_le hr ids) (SgLe.refl σ) x u hx
  cases x <;> try exact hm
  rename_i id sz off len
  simp only [frz0, borrow]
  · split
    · rename_i t sz' xs hb
      split
      · rename_i hs
        subst hs
        obtain ⟨hpos, hlen, v, us, hσ, ho, hrel⟩ := blk_row (n := 0) hr hb
        simp only [Rel] at hx ⊢
        rcases hx with ⟨k, n, c, hσ', hle, ⟨A, c', rfl, hc'⟩, hA⟩ | ⟨hσ', rfl, rfl, A, rfl⟩
        · rw [hσ] at hσ'
          simp only [Option.some.injEq] at hσ'
          obtain ⟨rfl, hcap, hcells⟩ := row_cells ho hσ'
          have hl : ((xs.drop off).take len).length = len := by simp; omega
          refine ⟨A, c', by rw [hl], by omega, fun hne => ?_⟩
          have hpos' : 0 < len := by
            rcases Nat.eq_zero_or_pos len with h0 | h0
            · subst h0; simp at hne
            · exact h0
          have hy := hA (.inr hpos')
          simp only [Value.slice.injEq] at hy
          obtain ⟨rfl, _, rfl⟩ := hy
          refine ⟨_, rfl, rfl, ?_⟩
          have hk : frzHp hp σ H W ids k = W.heap[k]? := by
            unfold frzHp
            rw [if_pos ⟨id, hin id (by simp [idsR0]), t, sz, xs, v, hb, hσ, by rw [hσ']; rfl⟩]
          have hrow : RelRow (frzHp hp σ H W ids) ⟨k, 0, none⟩ 0 sz xs := relRow_in (frz_le hr ids) xs us 0 hrel hlen fun j u hj => by
            have h1 := hcells j u hj
            rw [add_none, Nat.zero_add, Nat.zero_add]
            unfold icell
            unfold World.cell? at h1
            simp only [hk]
            exact h1
          have h2 := RelRow.take sz len _ _ (RelRow.drop sz off 0 xs hrow)
          have h3 := RelRow.shift (ad := ⟨k, 0, none⟩) rfl (off * sz) 0 sz _ (by rw [Nat.add_zero, Nat.zero_add] at *; exact h2)
          rw [add_none, Nat.zero_add] at h3
          exact h3
        · exact ⟨A, 0, by simp, by simp, by simp⟩
      · simp [Rel]
    · simp [Rel]
theorem frz_list {ids : List Nat} (hr : HeapRel hp σ H W) : ∀ (cs : List AV) (us : List Value), (∀ i ∈ cs.flatMap idsR0, i ∈ ids) → RelL hp σ cs us → RelL (frzHp hp σ H W ids) σ (cs.map (frz0 H)) us
  | [], [], _, _ => by simp [RelL]
  | c :: cs, u :: us, h, hx => by
    simp only [RelL, List.map_cons] at hx ⊢
    exact ⟨⟨frz_row hr (fun i hi => h i (by simp [hi])) hx.1.1, hx.1.2⟩, frz_list hr cs us (fun i hi => h i (by rw [List.flatMap_cons, List.mem_append]; exact .inr hi)) hx.2⟩
  | [], _ :: _, _, h => by simp [RelL] at h
  | _ :: _, [], _, h => by simp [RelL] at h
theorem frz_val {ids : List Nat} {x : AV} {u : Value} (hr : HeapRel hp σ H W) (hin : ∀ i ∈ idsR x, i ∈ ids) (hx : Rel hp σ x u) : Rel (frzHp hp σ H W ids) σ (frzV H x) u := by
  cases x <;> try exact Rel.mono (frz_le hr ids) (SgLe.refl σ) _ u hx
  · rename_i id sz off len
    exact frz_row (x := .row id sz off len) hr hin hx
  · rename_i cs
    simp only [Rel, frzV] at hx ⊢
    obtain ⟨vs, h1, h2⟩ := hx
    exact ⟨vs, h1, frz_list hr cs vs hin h2⟩
/-- What is done behind it. -/
theorem frz_does {s : St} {ids : List Nat} {g : Bool} {x : Result Next} {K : AV → St → Prop} (hr : HeapRel hp σ s.H W) (h : Does (frzHp hp σ s.H W ids) σ W ⟨s.t, clr s.H ids⟩ g x K) : Does hp σ W s g x K := by
  obtain ⟨v, W', r, s', hp', σ', h1, h2, h3, h4, h5, h6, h7, h8⟩ := h
  refine ⟨v, W', r, s', hp', σ', h1, h2, h3, h4, ?_, h6, h7, h8⟩
  refine ⟨h5.size, h5.tape, h5.os, h5.out, (frz_le hr ids).trans h5.im, h5.keep, fun k o hk => ?_, h5.sgNew⟩
  rcases h5.imNew k o hk with h | h
  · rcases frz_new h with h | h
    · exact .inl h
    · exact .inr (.inr h)
  · exact .inr h
end
end Go.Ai

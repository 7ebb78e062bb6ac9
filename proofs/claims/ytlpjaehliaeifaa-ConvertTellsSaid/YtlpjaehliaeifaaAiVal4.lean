/- Composite values and interface tests. -/
import Derived.Test.YtlpjaehliaeifaaAiVal3
set_option linter.unusedVariables false
set_option linter.unusedSimpArgs false
namespace Go.Ai
section
variable {P : Program} {hp : Im} {σ : Sg}

theorem list_put (off : Nat) (l : List Value) (cs : List Value) (h : off + l.length ≤ cs.length) :
    (l.zipIdx 0).foldl (fun cs (x : Value × Nat) => cs.setIfInBounds (off + x.2) x.1) cs.toArray = (cs.take off ++ l ++ cs.drop (off + l.length)).toArray := by
  obtain ⟨h1, h2⟩ := Great.foldl_set off l 0 cs.toArray
  apply Array.ext'
  apply List.ext_getElem?
  intro k
  have h3 := h2 k
  rw [← Array.getElem?_toList] at h3
  rw [h3]
  simp only [Nat.add_zero, List.size_toArray, List.getElem?_toArray]
  by_cases hk : off ≤ k ∧ k < off + l.length ∧ k < cs.length
  · rw [if_pos hk, List.getElem?_append_left (by simp; omega), List.getElem?_append_right (by simp; omega)]
    congr 1
    simp
    omega
  · rw [if_neg hk]
    rcases Nat.lt_or_ge k off with hlt | hge
    · rw [List.getElem?_append_left (by simp; omega), List.getElem?_append_left (by simp; omega), List.getElem?_take_of_lt hlt]
    · rw [List.getElem?_append_right (by simp; omega), List.getElem?_drop]
      congr 1
      simp
      omega
theorem fillA_sound {cs cs' : List AV} {us : List Value} {off size : Nat} {x : AV} {v : Value} (hr : RelL hp σ cs us) (hx : Rel hp σ x v) (h : fillA cs off size x = some cs') :
    v.cells.size = size ∧ off + size ≤ us.length ∧ ∃ us', (v.cells.zipIdx.foldl (fun cs (c, j) => cs.setIfInBounds (off + j) c) us.toArray) = us'.toArray ∧ RelL hp σ cs' us' := by
  unfold fillA at h
  split at h
  · rename_i c hc
    split at h
    · rename_i hcond
      simp only [Option.some.injEq] at h
      subst h
      obtain ⟨ws, hw, hrw⟩ := rel_cells hx hc
      have hl := hrw.length
      have hl2 := hr.length
      have hsz : v.cells.size = size := by rw [hw]; simp; omega
      refine ⟨hsz, by omega, us.take off ++ ws ++ us.drop (off + ws.length), ?_, ?_⟩
      · rw [← Array.foldl_toList, Array.toList_zipIdx, hw]
        exact list_put off ws us (by omega)
      · rw [← hl, hcond.1]
        exact ((hr.take off).app hrw).app (hr.drop _)
    · simp at h
  · simp at h
theorem fillsA_sound (a : Act) (s : St) (hg : ∀ x, Rel hp σ (s.get x) (a.eval x)) (pl : Nat → Option (Nat × Nat)) : ∀ (l : List (Nat × Operand)) (cs cs' : List AV) (us : List Value), RelL hp σ cs us →
    fillsA pl cs (l.map fun p => (p.1, s.get p.2)) = some cs' → ∃ us' : List Value, Instr.fill pl us.toArray (l.map fun p => (p.1, a.eval p.2)) = some us'.toArray ∧ RelL hp σ cs' us'
  | [], cs, cs', us, hr, h => by
    simp [fillsA] at h
    subst h
    exact ⟨us, by simp [Instr.fill], hr⟩
  | (i, x) :: l, cs, cs', us, hr, h => by
    simp only [List.map_cons, fillsA] at h
    split at h
    · rename_i off size hp'
      cases hf : fillA cs off size (s.get x) with
      | none => rw [hf] at h; simp at h
      | some c1 =>
        rw [hf, Option.bind_some] at h
        obtain ⟨h1, h2, us1, h3, h4⟩ := fillA_sound hr (hg x) hf
        obtain ⟨us', h5, h6⟩ := fillsA_sound a s hg pl l c1 cs' us1 h4 h
        refine ⟨us', ?_, h6⟩
        simp only [List.map_cons, Instr.fill, hp']
        have hc : ((a.eval x).cells.size ≠ size || decide (off + (a.eval x).cells.size > us.toArray.size)) = false := by
          simp [h1]
          omega
        rw [if_neg (by rw [hc]; simp)]
        rw [h3]
        exact h5
    · simp at h
theorem zero_of {t : TypeId} {zs : List AV} (h : zeroC P t = some zs) : ∃ i z us, P.info? t = some i ∧ i.zero = some z ∧ z.cells = us.toArray ∧ zs = us.map .v ∧ ∀ hp σ, RelL hp σ zs us := by
  unfold zeroC at h
  cases hi : P.info? t with
  | none => simp [hi] at h
  | some i =>
    cases hz : i.zero with
    | none => simp [hi, hz] at h
    | some z =>
      simp only [hi, hz, Option.bind_some] at h
      split at h
      · rename_i ha
        simp only [Option.some.injEq] at h
        refine ⟨i, z, z.cells.toList, rfl, hz, by simp, h.symm, fun hp σ => ?_⟩
        rw [← h]
        exact RelL.vs _ fun u hu => by rw [← oneV_eq]; exact (List.all_eq_true.1 ha) u hu
      · simp at h
theorem buildA_sound {a : Act} {s : St} (hg : ∀ x, Rel hp σ (s.get x) (a.eval x)) {t : TypeId} {l : List (Nat × Operand)} {r : AV} (h : buildA P t (l.map fun p => (p.1, s.get p.2)) = some r) :
    ∃ z, (∀ W, (Instr.build t ((l.toArray).map fun (i, x) => (i, a.eval x))).run P W = .ok z W) ∧ Rel hp σ r z := by
  unfold buildA at h
  split at h
  case isFalse => simp at h
  rename_i hplaced
  cases hz : zeroC P t with
  | none => rw [hz] at h; simp at h
  | some zs =>
    rw [hz, Option.bind_some] at h
    obtain ⟨i, z, us, hi, hzz, hc, rfl, hrel⟩ := zero_of hz
    cases hf : fillsA (placesA P t) (us.map .v) (l.map fun p => (p.1, s.get p.2)) with
    | none => rw [hf] at h; simp at h
    | some cs =>
      rw [hf] at h
      simp only [Option.map_some, Option.some.injEq] at h
      subst h
      obtain ⟨us', h1, h2⟩ := fillsA_sound a s hg _ l _ _ us (hrel hp σ) hf
      refine ⟨.agg us'.toArray, fun W => run_build W t _ us'.toArray ?_, by simp only [Rel]; exact ⟨us', rfl, h2⟩⟩
      have hpl : ((l.toArray).map fun (i, x) => (i, a.eval x)).toList = l.map fun p => (p.1, a.eval p.2) := by simp
      rw [hpl]
      unfold Program.built
      unfold placesA at h1
      unfold placed at hplaced
      cases hu : P.underlying t with
      | none => rw [hu] at hplaced; simp at hplaced
      | some d =>
        rw [hu] at hplaced h1
        cases d
        case struct fs =>
          obtain ⟨ps, hps⟩ := Option.isSome_iff_exists.1 hplaced
          simp only [hps] at h1
          simp only [hi, hzz, hps, hc]
          exact h1
        case array n e =>
          obtain ⟨ie, hie⟩ := Option.isSome_iff_exists.1 hplaced
          simp only [hie] at h1
          simp only [hi, hzz, hie, hc]
          exact h1
        all_goals simp at hplaced
theorem assertA_sound {x r : AV} {u : Value} {xt t : TypeId} {ok : Bool} (hx : Rel hp σ x u) (h : assertA P x t ok = some r) : ∃ z, (∀ W, (Instr.typeAssert u xt t ok).run P W = .ok z W) ∧ Rel hp σ r z := by
  unfold assertA at h
  have hif : ∀ {W : World} {d : TypeDesc}, P.underlying t = some d → (∀ ms, d ≠ .interface ms) → ∀ (t' : TypeId) (v : Value), (Instr.typeAssert (.iface t' v) xt t ok).run P W = (if t' = t then (pure (if ok then .tuple #[v, .bool true] else v) : Sem Value) else
      (if ok then (do pure (.tuple #[← zeroValue t, .bool false])) else runtimePanic (.typeAssertion (some xt) (some t') t ""))).run P W := by
    intro W d hd hne t' v
    unfold Instr.typeAssert
    rw [Sem.run_bind, run_underlying hd W]
    cases d <;> first | (exact absurd rfl (hne _)) | (by_cases ht : t' = t <;> simp [ht]) 
  have hd : isIface P t = some false → ∃ d, P.underlying t = some d ∧ ∀ ms, d ≠ .interface ms := by
    intro hi
    unfold isIface at hi
    split at hi
    · simp at hi
    · rename_i d hne hd
      exact ⟨d, hd, fun ms hc => hne ms hc⟩
    · simp at hi
  unfold assertB at h
  split at h
  · rename_i t' y hi
    obtain ⟨d, hd1, hd2⟩ := hd hi
    simp only [Rel] at hx
    obtain ⟨v, rfl, hv⟩ := hx
    split at h
    · rename_i ht
      simp only [Option.some.injEq] at h
      subst h
      refine ⟨.tuple #[v, .bool true], fun W => by rw [hif hd1 hd2, if_pos ht.symm]; rfl, ?_⟩
      simp only [Rel]
      exact ⟨[v, .bool true], rfl, by simp only [RelT, Rel]; exact ⟨hv, trivial, trivial⟩⟩
    · rename_i ht
      unfold zeroV at h
      cases hii : P.info? t with
      | none => simp [hii] at h
      | some i =>
        cases hz : i.zero with
        | none => simp [hii, hz] at h
        | some z =>
          simp only [hii, hz, Option.bind_some, Option.map_some, Option.some.injEq] at h
          subst h
          refine ⟨.tuple #[z, .bool false], fun W => ?_, ?_⟩
          · rw [hif hd1 hd2, if_neg (fun hc => ht hc.symm)]
            simp [zeroValue, typeInfo, hii, hz]
          · simp only [Rel]
            exact ⟨[z, .bool false], rfl, by simp only [RelT, Rel]; exact ⟨rel_av _ _ z, trivial, trivial⟩⟩
  · rename_i t' y hi
    obtain ⟨d, hd1, hd2⟩ := hd hi
    simp only [Rel] at hx
    obtain ⟨v, rfl, hv⟩ := hx
    split at h
    · rename_i ht
      simp only [Option.some.injEq] at h
      subst h
      exact ⟨v, fun W => by rw [hif hd1 hd2, if_pos ht.symm]; rfl, hv⟩
    · simp at h
  · simp at h
end
end Go.Ai

/- Blocks told by other names: at a loop's head, at a call and behind it. -/
import Derived.Test.YtmebpmghmghhkaaAiApp
set_option linter.unusedVariables false
set_option linter.unusedSimpArgs false
namespace Go.Ai
section
variable {P : Program} {hp hp' : Im} {σ σ' σ2 : Sg} {H : Hp} {W W' : World}
/-- What has a new name has it for the same block. -/
def RenOk (f : Nat → Option Nat) (σ σ2 : Sg) : Prop := ∀ i j v, f i = some j → σ i = some v → σ2 j = some v
theorem Rel.ren0 {f : Nat → Option Nat} (hf : RenOk f σ σ2) {a : AV} {y : Value} (h : Rel hp σ a y) : Rel hp σ2 (a.ren0 f) y := by
  cases a with
  | ptr id o =>
    simp only [AV.ren0]
    cases hfi : f id with
    | none => simp [Rel]
    | some j =>
      simp only [Rel] at h ⊢
      obtain ⟨k, h1, h2⟩ := h
      exact ⟨k, hf _ _ _ hfi h1, h2⟩
  | rptr id sz i o =>
    simp only [AV.ren0]
    cases hfi : f id with
    | none => simp [Rel]
    | some j =>
      simp only [Rel] at h ⊢
      obtain ⟨k, n, c, h1, h2⟩ := h
      exact ⟨k, n, c, hf _ _ _ hfi h1, h2⟩
  | row id sz o l =>
    simp only [AV.ren0]
    cases hfi : f id with
    | none => simp [Rel]
    | some j =>
      simp only [Rel] at h ⊢
      rcases h with ⟨k, n, c, h1, h2⟩ | ⟨h1, h2⟩
      · exact .inl ⟨k, n, c, hf _ _ _ hfi h1, h2⟩
      · exact .inr ⟨hf _ _ _ hfi h1, h2⟩
  | map id =>
    simp only [AV.ren0]
    cases hfi : f id with
    | none => simp [Rel]
    | some j =>
      simp only [Rel] at h ⊢
      obtain ⟨k, h1, h2⟩ := h
      exact ⟨k, hf _ _ _ hfi h1, h2⟩
  | v x => simpa [AV.ren0, Rel] using h
  | nl => simpa [AV.ren0, Rel] using h
  | lst sz xs => simpa [AV.ren0, Rel] using h
  | eptr cs => simpa [AV.ren0, Rel] using h
  | _ => simp [AV.ren0, Rel]
theorem RelL.ren0 {f : Nat → Option Nat} (hf : RenOk f σ σ2) : ∀ {cs : List AV} {us : List Value}, RelL hp σ cs us → RelL hp σ2 (cs.map (AV.ren0 f)) us
  | [], [], _ => by simp [RelL]
  | c :: cs, u :: us, h => by simp only [RelL, List.map_cons] at h ⊢; exact ⟨⟨h.1.1.ren0 hf, h.1.2⟩, RelL.ren0 hf h.2⟩
  | [], _ :: _, h => by simp [RelL] at h
  | _ :: _, [], h => by simp [RelL] at h
theorem RelT.ren0 {f : Nat → Option Nat} (hf : RenOk f σ σ2) : ∀ {cs : List AV} {us : List Value}, RelT hp σ cs us → RelT hp σ2 (cs.map (AV.ren0 f)) us
  | [], [], _ => by simp [RelT]
  | c :: cs, u :: us, h => by simp only [RelT, List.map_cons] at h ⊢; exact ⟨h.1.ren0 hf, RelT.ren0 hf h.2⟩
  | [], _ :: _, h => by simp [RelT] at h
  | _ :: _, [], h => by simp [RelT] at h
theorem Rel.ren1 {f : Nat → Option Nat} (hf : RenOk f σ σ2) {a : AV} {y : Value} (h : Rel hp σ a y) : Rel hp σ2 (a.ren1 f) y := by
  cases a with
  | agg cs => simp only [AV.ren1, Rel] at h ⊢; obtain ⟨vs, h1, h2⟩ := h; exact ⟨vs, h1, h2.ren0 hf⟩
  | fn g a b => simp only [AV.ren1, Rel] at h ⊢; obtain ⟨va, vb, h1, h2, h3⟩ := h; exact ⟨va, vb, h1, h2.ren0 hf, h3.ren0 hf⟩
  | ifc t x => simp only [AV.ren1, Rel] at h ⊢; obtain ⟨v, h1, h2⟩ := h; exact ⟨v, h1, h2.ren0 hf⟩
  | _ => exact Rel.ren0 hf h
theorem RelT.ren1 {f : Nat → Option Nat} (hf : RenOk f σ σ2) : ∀ {cs : List AV} {us : List Value}, RelT hp σ cs us → RelT hp σ2 (cs.map (AV.ren1 f)) us
  | [], [], _ => by simp [RelT]
  | c :: cs, u :: us, h => by simp only [RelT, List.map_cons] at h ⊢; exact ⟨h.1.ren1 hf, RelT.ren1 hf h.2⟩
  | [], _ :: _, h => by simp [RelT] at h
  | _ :: _, [], h => by simp [RelT] at h
theorem RelL.ren1 {f : Nat → Option Nat} (hf : RenOk f σ σ2) : ∀ {cs : List AV} {us : List Value}, RelL hp σ cs us → RelL hp σ2 (cs.map (AV.ren1 f)) us
  | [], [], _ => by simp [RelL]
  | c :: cs, u :: us, h => by simp only [RelL, List.map_cons] at h ⊢; exact ⟨⟨h.1.1.ren1 hf, h.1.2⟩, RelL.ren1 hf h.2⟩
  | [], _ :: _, h => by simp [RelL] at h
  | _ :: _, [], h => by simp [RelL] at h
theorem Rel.ren2 {f : Nat → Option Nat} (hf : RenOk f σ σ2) {a : AV} {y : Value} (h : Rel hp σ a y) : Rel hp σ2 (a.ren2 f) y := by
  cases a with
  | tup cs => simp only [AV.ren2, Rel] at h ⊢; obtain ⟨vs, h1, h2⟩ := h; exact ⟨vs, h1, h2.ren1 hf⟩
  | _ => exact Rel.ren1 hf h
theorem BlkRel.ren {f : Nat → Option Nat} (hf : RenOk f σ σ2) {b : Blk} {v : Value} (h : BlkRel hp σ W b v) : BlkRel hp σ2 W (b.ren f) v := by
  cases b with
  | var t cs =>
    simp only [BlkRel, Blk.ren] at h ⊢
    obtain ⟨k, us, h1, h2, h3⟩ := h
    exact ⟨k, us, h1, h2, h3.ren1 hf⟩
  | row t sz xs => exact h
  | rowc t sz c xs => exact h
  | map t es =>
    simp only [BlkRel, Blk.ren] at h ⊢
    obtain ⟨r, ms, clock, h1, h2, h3, vs, h4, h5⟩ := h
    refine ⟨r, ms, clock, h1, h2, ?_, vs, ?_, ?_⟩
    · simpa [Function.comp_def] using h3
    · have := h4.ren1 hf
      simpa [Function.comp_def] using this
    · simpa [Function.comp_def] using h5
theorem has_iff {n : Nat} : ∀ {l : List Nat}, has n l = true ↔ n ∈ l
  | [] => by simp [has]
  | k :: r => by
    unfold has
    split
    · rename_i h; simp [h]
    · rename_i h
      rw [has_iff]
      simp [Ne.symm h]
theorem place_out {n j : Nat} : ∀ {l : List Nat}, place n l = some j → l[j]? = some n
  | [], h => by simp [place] at h
  | k :: r, h => by
    unfold place at h
    split at h
    · rename_i hk
      simp at h
      subst h hk
      rfl
    · cases hp : place n r with
      | none => simp [hp] at h
      | some m =>
        simp [hp] at h
        subst h
        simpa using place_out hp
def Alive (H : Hp) (ids : List Nat) : Prop := ids.Nodup ∧ ∀ i ∈ ids, (blk H i).isSome = true
theorem addAll_alive : ∀ {l seen : List Nat}, Alive H seen → Alive H (addAll H seen l)
  | [], seen, h => h
  | k :: r, seen, h => by
    unfold addAll
    apply addAll_alive
    split
    · exact h
    · rename_i hk
      split
      · rename_i hb
        refine ⟨List.nodup_append.2 ⟨h.1, by simp, fun a ha b hb' => ?_⟩, fun i hi => ?_⟩
        · simp at hb'
          subst hb'
          intro he
          subst he
          exact hk (has_iff.2 ha)
        · rcases List.mem_append.1 hi with h1 | h1
          · exact h.2 i h1
          · simp at h1
            subst h1
            exact hb
      · exact h
theorem reach_alive : ∀ {n i : Nat} {seen : List Nat}, Alive H seen → Alive H (reach H n i seen)
  | 0, _, _, h => h
  | n + 1, i, seen, h => by
    unfold reach
    split
    · exact h
    · exact reach_alive (addAll_alive h)
theorem alive_nil : Alive H [] := ⟨by simp, by simp⟩
/-- The names of some blocks alone. -/
def pickS (σ : Sg) (ids : List Nat) : Sg := fun j => (ids[j]?).bind σ
theorem pickS_ok (σ : Sg) (ids : List Nat) : RenOk (place · ids) σ (pickS σ ids) := fun i j v h1 h2 => by
  unfold pickS
  rw [place_out h1]
  exact h2
theorem blk_pick {f : Nat → Option Nat} {ids : List Nat} {j : Nat} {b : Blk} (h : blk (pickR H f ids) j = some b) : ∃ i b0, ids[j]? = some i ∧ blk H i = some b0 ∧ b = b0.ren f := by
  unfold blk pickR at h
  rw [List.getElem?_map] at h
  cases hi : ids[j]? with
  | none => rw [hi] at h; simp at h
  | some i =>
    rw [hi] at h
    simp only [Option.map_some, Option.bind_some] at h
    obtain ⟨b0, h1, h2⟩ := Option.map_eq_some_iff.1 h
    exact ⟨i, b0, rfl, h1, h2.symm⟩
theorem pick_heap0 {ids : List Nat} (hr : HeapRel hp σ H W) (ha : ids.Nodup) : HeapRel hp (pickS σ ids) (pickH H ids) W := by
  constructor
  · exact hr.im
  · intro j b hb
    obtain ⟨i, b0, h1, h2, rfl⟩ := blk_pick hb
    obtain ⟨v, h3, h4, h5⟩ := hr.own i b0 h2
    exact ⟨v, by simp [pickS, h1, h3], h4.ren (pickS_ok σ ids), h5⟩
  · intro i j b c v w k hb hc hv hw hkv hkw
    obtain ⟨i', b0, h1, h2, _⟩ := blk_pick hb
    obtain ⟨j', c0, h3, h4, _⟩ := blk_pick hc
    simp only [pickS, h1, Option.bind_some] at hv
    simp only [pickS, h3, Option.bind_some] at hw
    have := hr.apart i' j' b0 c0 v w k h2 h4 hv hw hkv hkw
    subst this
    exact (List.getElem?_inj (List.getElem?_eq_some_iff.1 h1).1 ha).1 (h1.trans h3.symm)
  · intro j v hv
    unfold pickS at hv
    cases hi : ids[j]? with
    | none => rw [hi] at hv; simp at hv
    | some i =>
      have := (List.getElem?_eq_some_iff.1 hi).1
      simpa [pickH, pickR] using this
  · intro j v k hv hk
    unfold pickS at hv
    cases hi : ids[j]? with
    | none => rw [hi] at hv; simp at hv
    | some i =>
      rw [hi] at hv
      exact hr.lt i v k hv hk
theorem pick_heap {ids : List Nat} (hr : HeapRel hp σ H W) (ha : Alive H ids) : HeapRel hp (pickS σ ids) (pickH H ids) W := pick_heap0 hr ha.1
theorem Ev.pick {E : Ent} {ids : List Nat} (h : Ev E hp σ W) : Ev E hp (pickS σ ids) W :=
  ⟨h.size, h.tape, h.os, h.out, h.im, h.keep, h.imNew, fun j v k hv hk => by
    unfold pickS at hv
    cases hi : ids[j]? with
    | none => rw [hi] at hv; simp at hv
    | some i => rw [hi] at hv; exact h.sgNew i v k hv hk⟩
theorem find_map {f : Nat → AV} {n : Nat} : ∀ {l : List Nat}, find n (l.map fun k => (k, f k)) = f n ∨ find n (l.map fun k => (k, f k)) = .junk
  | [] => .inr rfl
  | k :: r => by
    simp only [List.map_cons, find]
    split
    · rename_i h
      subst h
      exact .inl rfl
    · exact find_map
theorem addAll_more {H : Hp} : ∀ (l seen : List Nat), (∃ r, addAll H seen l = seen ++ r) ∧ (seen.Nodup → (addAll H seen l).Nodup)
  | [], seen => ⟨⟨[], by simp [addAll]⟩, fun h => h⟩
  | k :: l, seen => by
    unfold addAll
    split
    · exact addAll_more l seen
    · rename_i hk
      split
      · obtain ⟨⟨r, h1⟩, h2⟩ := addAll_more (H := H) l (seen ++ [k])
        refine ⟨⟨k :: r, by rw [h1]; simp⟩, fun h => h2 ?_⟩
        rw [List.nodup_append]
        refine ⟨h, by simp, fun a ha b hb => ?_⟩
        simp only [List.mem_singleton] at hb
        subst hb
        intro he
        subst he
        exact hk (has_iff.2 ha)
      · exact addAll_more l seen
theorem reach_more {H : Hp} : ∀ (n i : Nat) (seen : List Nat), (∃ r, reach H n i seen = seen ++ r) ∧ (seen.Nodup → (reach H n i seen).Nodup)
  | 0, i, seen => ⟨⟨[], by simp [reach]⟩, fun h => h⟩
  | n + 1, i, seen => by
    unfold reach
    split
    · exact ⟨⟨[], by simp⟩, fun h => h⟩
    · rename_i k _
      obtain ⟨⟨r, h1⟩, h2⟩ := addAll_more (H := H) (((blk H k).map Blk.ids).getD []) seen
      obtain ⟨⟨r', h3⟩, h4⟩ := reach_more n (i + 1) (addAll H seen (((blk H k).map Blk.ids).getD []))
      exact ⟨⟨r ++ r', by rw [h3, h1, List.append_assoc]⟩, fun h => h4 (h2 h)⟩
theorem rangeL_eq : ∀ n : Nat, rangeL n = List.range n
  | 0 => rfl
  | n + 1 => by rw [rangeL, rangeL_eq n, List.range_succ]
theorem Now.normTo {E : Ent} {s : St} {a : Act} {b : Nat} {keep : List Nat} (h0 : ∀ id v, E.σ id = some v → id < b) (h : Now E s a W hp σ) : ∃ σ2, Now E (Ai.normTo b keep s) a W hp σ2 := by
  have hm := reach_more (H := s.H) (s.H.length + 1) 0 (addAll s.H (rangeL b) ((keep.map fun n => (n, s.tmp n)).flatMap fun x => x.2.ids2))
  have ha := addAll_more (H := s.H) ((keep.map fun n => (n, s.tmp n)).flatMap fun x => x.2.ids2) (rangeL b)
  have hnod : (rangeL b).Nodup := by rw [rangeL_eq]; exact List.nodup_range
  obtain ⟨⟨r2, h2⟩, h3⟩ := hm
  obtain ⟨⟨r1, h1⟩, h4⟩ := ha
  refine ⟨pickS σ _, pick_heap0 h.heap (h3 (h4 hnod)), fun n => ?_, h.ev.pick, h.defers, h.nt, fun id v hv => ?_⟩
  · unfold St.tmp Ai.normTo
    simp only [List.map_map, Function.comp_def]
    rcases find_map (n := n) (f := fun k => (s.tmp k).ren2 (place · _)) (l := keep) with h1 | h1
    · rw [h1]
      exact (h.tmps n).ren2 (pickS_ok σ _)
    · rw [h1]
      simp [Rel]
  · have hid := h0 id v hv
    unfold pickS
    rw [h2, h1, rangeL_eq, List.append_assoc, List.getElem?_append_left (by simpa using hid), List.getElem?_range hid]
    exact h.sg id v hv
end
end Go.Ai

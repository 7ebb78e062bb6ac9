/- What is told by hand is so. -/
import Derived.Test.YtejoagfpklpafaaAiVar
import Derived.Test.YtejoagfpklpafaaAiSound
import Derived.Test.YtejoagfpklpafaaPrimB
import Derived.Test.YtejoagfpklpafaaPrimPut
set_option linter.unusedVariables false
set_option linter.unusedSimpArgs false
namespace Go.Ai
open Go.Proofs Go.RowKit
section
variable {hp : Im} {σ : Sg} {H : Hp} {W W' : World}
theorem HeapRel.drop (hr : HeapRel hp σ H W) (id : Nat) : HeapRel hp σ (H.set id none) W := by
  constructor
  · exact hr.im
  · exact fun i b hb => hr.own i b (sub_set id i b hb)
  · exact fun i j b c v w k hb hc => hr.apart i j b c v w k (sub_set id i b hb) (sub_set id j c hc)
  · intro i v h
    simpa using hr.dom i v h
  · exact hr.lt
theorem HeapRel.gone {id k : Nat} {b0 : Blk} {v : Value} (hr : HeapRel hp σ H W) (hb0 : blk H id = some b0) (hσ : σ id = some v) (hv : bn v = some k) (hsize : W'.heap.size = W.heap.size)
    (hoth : ∀ j, j ≠ k → W'.heap[j]? = W.heap[j]?) : HeapRel hp σ (H.set id none) W' := by
  have hlt := blk_lt hb0
  obtain ⟨v', h1, _, h3⟩ := hr.own id b0 hb0
  rw [hσ] at h1
  simp only [Option.some.injEq] at h1
  subst h1
  have hk := h3 k hv
  have hd := hr.drop id
  constructor
  · intro j o hj
    rw [hoth j (fun he => by subst he; rw [hk] at hj; simp at hj)]
    exact hr.im j o hj
  · intro i c hc
    obtain ⟨w, h4, h5, h6⟩ := hd.own i c hc
    refine ⟨w, h4, h5.keep (ImLe.refl _) (SgLe.refl _) fun j hj => hoth j (fun he => ?_), h6⟩
    subst he
    have hi : i ≠ id := fun he => by
      subst he
      rw [blk_set_same _ hlt] at hc
      simp at hc
    exact hi (hr.apart i id c b0 w v j (sub_set id i c hc) hb0 h4 hσ hj hv)
  · exact hd.apart
  · exact hd.dom
  · intro i w j hw hj
    rw [hsize]
    exact hr.lt i w j hw hj
theorem arg1 {x : AV} {vs : List Value} (h : RelT hp σ [x] vs) : ∃ v, vs = [v] ∧ Rel hp σ x v := by
  match vs, h with
  | [v], h => exact ⟨v, rfl, by simpa [RelT] using h⟩
  | [], h => simp [RelT] at h
  | _ :: _ :: _, h => simp [RelT] at h
/-- The variable behind a pointer. -/
theorem var_of {id : Nat} {t : TypeId} {cs : List AV} {v : Value} (hr : HeapRel hp σ H W) (hb : blk H id = some (.var t cs)) (hx : Rel hp σ (.ptr id 0) v) :
    ∃ k us, v = .pointer (some ⟨k, 0, none⟩) ∧ σ id = some v ∧ W.heap[k]? = some (.cells us.toArray t (0, 0)) ∧ RelL hp σ cs us ∧ hp k = none := by
  obtain ⟨w, h1, h2, h3⟩ := hr.own id _ hb
  simp only [BlkRel] at h2
  obtain ⟨k, us, rfl, h4, h5⟩ := h2
  simp only [Rel] at hx
  obtain ⟨k', h6, rfl⟩ := hx
  rw [h1] at h6
  simp only [Option.some.injEq, Value.pointer.injEq, Addr.mk.injEq, and_true] at h6
  subst h6
  exact ⟨k, us, rfl, h1, h4, h5, h3 k rfl⟩
theorem relL2 {a b : AV} {us : List Value} (h : RelL hp σ [a, b] us) : ∃ u v, us = [u, v] ∧ Rel hp σ a u ∧ Rel hp σ b v ∧ u.oneCell' = true ∧ v.oneCell' = true := by
  match us, h with
  | [u, v], h =>
    simp only [RelL, and_true] at h
    exact ⟨u, v, rfl, h.1.1, h.2.1, h.1.2, h.2.2⟩
  | [], h => simp [RelL] at h
  | [_], h => simp [RelL] at h
  | _ :: _ :: _ :: _, h => simp [RelL] at h
theorem check_ok {args : List AV} {K : AV → Hp → Prop} {vs : List Value} (ha : RelT hp σ args vs) (hr : HeapRel hp σ H W) (h : primCheck 79 args H K) :
    Calls Try.prog 62 vs.toArray W fun e W' => ∃ v, e = .returned v ∧ After hp σ W K v W' := by
  unfold primCheck at h
  split at h
  · rename_i id
    obtain ⟨v, rfl, hx⟩ := arg1 ha
    split at h
    · rename_i t p q hb
      obtain ⟨rfl, hs, h⟩ := h
      obtain ⟨k, us, rfl, hσ, hheap, hus, hk⟩ := var_of hr hb hx
      obtain ⟨u, v, rfl, hu, hv, hu1, hv1⟩ := relL2 hus
      have hnew : RelL hp σ [.ptr id 0, q] [.pointer (some ⟨k, 0, none⟩), v] := by
        simp only [RelL, and_true]
        exact ⟨⟨by simp only [Rel]; exact ⟨k, hσ, rfl⟩, rfl⟩, hv, hv1⟩
      have used : u = .pointer (some ⟨k, 0, none⟩) → Calls Try.prog 62 #[.pointer (some ⟨k, 0, none⟩)] W fun e W' => ∃ v, e = .returned v ∧ After hp σ W K v W' := fun hu => by
        subst hu
        refine (Go.Proofs.Ytejoagfpklpafaa.copyCheck_used k W (by rw [Lib.cell_of_heap hheap]; rfl)).mono ?_
        rintro e w' ⟨rfl, rfl⟩
        refine ⟨_, rfl, _, _, hp, σ, h, hr.write hb hσ rfl rfl (fun _ _ => rfl) ?_, Ev.refl _ _ _ _, SgLe.refl _, by simp only [Rel]; exact ⟨[], rfl, by simp [RelT]⟩⟩
        simp only [BlkRel]
        exact ⟨k, _, rfl, hheap, hnew⟩
      unfold selfA at hs
      split at hs
      · simp only [Rel] at hu
        subst hu
        refine (Go.Proofs.Ytejoagfpklpafaa.copyCheck_fresh k W (by rw [Lib.cell_of_heap hheap]; rfl) (by simp [World.shape?, hheap]) (Lib.frozen_of_heap hheap 0)).mono ?_
        rintro e w' ⟨rfl, rfl⟩
        have hset : (W.setCell ⟨k, 0, none⟩ (.pointer (some ⟨k, 0, none⟩))).heap[k]? = some (.cells #[.pointer (some ⟨k, 0, none⟩), v] 79 (0, 0)) := by rw [heap_setCell_same W k 0 _ _ _ hheap]; rfl
        have hoth : ∀ j, j ≠ k → (W.setCell ⟨k, 0, none⟩ (.pointer (some ⟨k, 0, none⟩))).heap[j]? = W.heap[j]? := fun j hj => heap_setCell_other W _ j _ hj
        have hsz : (W.setCell ⟨k, 0, none⟩ (.pointer (some ⟨k, 0, none⟩))).heap.size = W.heap.size := by simp
        refine ⟨_, rfl, _, _, hp, σ, h, hr.write hb hσ rfl hsz hoth ?_, Ev.write hσ rfl hsz rfl rfl rfl hoth, SgLe.refl _, by simp only [Rel]; exact ⟨[], rfl, by simp [RelT]⟩⟩
        simp only [BlkRel]
        exact ⟨k, _, rfl, hset, hnew⟩
      · subst hs
        simp only [Rel] at hu
        obtain ⟨k', h6, rfl⟩ := hu
        rw [hσ] at h6
        simp only [Option.some.injEq, Value.pointer.injEq, Addr.mk.injEq, and_true] at h6
        subst h6
        exact used rfl
      · exact hs.elim
    · exact h.elim
  · exact h.elim
theorem freeze_other (W : World) (k n j : Nat) (hj : j ≠ k) : (W.drew.freeze ⟨k, 0, none⟩ n).heap[j]? = W.heap[j]? := by
  unfold World.freeze
  split
  · rfl
  · show (Array.modify _ k _)[j]? = _
    rw [Array.getElem?_modify, if_neg (fun h => hj h.symm)]
    rfl
theorem cellsB_rel : ∀ {l : List UInt8} {us : List Value}, RelL hp sg0 (cellsB l).flatten us → us = l.map fun x => Value.int .u8 x.toNat
  | [], [], _ => rfl
  | [], _ :: _, h => by simp [cellsB, RelL] at h
  | x :: l, [], h => by simp [cellsB, RelL] at h
  | x :: l, y :: ys, h => by
    have h' : (y = Value.int .u8 x.toNat ∧ y.oneCell' = true) ∧ RelL hp sg0 (cellsB l).flatten ys := by
      simpa [cellsB, RelL, Rel] using h
    rw [h'.1.1, cellsB_rel h'.2]
    rfl
theorem string_ok {args : List AV} {K : AV → Hp → Prop} {vs : List Value} (ha : RelT hp σ args vs) (hr : HeapRel hp σ H W) (h : primString 79 5 args H K) :
    Calls Try.prog 50 vs.toArray W fun e W' => ∃ v, e = .returned v ∧ After hp σ W K v W' := by
  unfold primString at h
  split at h
  · rename_i id
    obtain ⟨v, rfl, hx⟩ := arg1 ha
    split at h
    · rename_i t p q hb
      obtain ⟨rfl, h⟩ := h
      obtain ⟨k, us, rfl, hσ, hheap, hus, hk⟩ := var_of hr hb hx
      obtain ⟨u, v, rfl, hu, hv, hu1, hv1⟩ := relL2 hus
      unfold stringA at h
      split at h
      · simp only [Rel] at hv
        subst hv
        refine (Go.Proofs.Ytejoagfpklpafaa.string_nil k u W hheap).mono ?_
        rintro e w' ⟨rfl, rfl⟩
        exact ⟨_, rfl, _, _, hp, σ, h, hr.stays (Nat.le_refl _) (fun _ _ => rfl), (⟨Nat.le_refl _, rfl, rfl, rfl, ImLe.refl _, fun _ _ _ => rfl, fun _ _ h => .inl h, fun id v k h1 h2 => .inr ⟨id, v, h1, h2⟩⟩ : Ev ⟨hp, σ, W, 0⟩ hp σ W.drew), SgLe.refl _, by simp only [Rel]; rfl⟩
      · rename_i j sz off n
        obtain ⟨rfl, rfl, hn, h⟩ := h
        unfold stringB at h
        split at h
        · rename_i u2 sz2 xs hj
          obtain ⟨rfl, rfl, rfl, l, rfl, h⟩ := h
          have hlen : (cellsB l).length = l.length := by simp [cellsB]
          rw [hlen] at hv hn
          simp only [Rel] at hv
          rcases hv with ⟨g, n, c, hσj, hle, _, hA⟩ | ⟨_, _, h0, _⟩
          · have hv := hA (.inl trivial)
            simp only [Nat.zero_mul, Nat.sub_zero] at hv
            subst hv
            obtain ⟨w, h1, h2, h3⟩ := hr.own j _ hj
            rw [hσj] at h1
            simp only [Option.some.injEq] at h1
            subst h1
            simp only [BlkRel] at h2
            obtain ⟨_, _, us2, hown, hus2⟩ := h2
            rcases hown.2 with ⟨hc, _⟩ | ⟨g', cap, cur, hc, _, hg, hcap, hmax, hcs, htake⟩
            · simp at hc
            · simp only [Value.slice.injEq, Option.some.injEq, Addr.mk.injEq, and_true, true_and] at hc
              obtain ⟨rfl, rfl, rfl⟩ := hc
              rw [hlen] at hcap htake
              have hus3 : us2 = l.map fun x => Value.int .u8 x.toNat := cellsB_rel hus2
              refine (Go.Proofs.Ytejoagfpklpafaa.string_row k g c u l cur W (fun he => by subst he; simp at hn) hheap hg (fun j x hx => ?_) (by rw [hcs]; omega) hcap hmax).mono ?_
              · have hx2 : us2[j]? = some (.int .u8 x.toNat) := by rw [hus3]; simp [hx]
                have hcx : cur[j]? = some (.int .u8 x.toNat) := by
                  rw [← htake] at hx2
                  have hlt := (List.getElem?_eq_some_iff.1 hx2).1
                  rw [List.getElem?_take_of_lt (by simp at hlt; omega)] at hx2
                  simpa using hx2
                rw [add_none, Nat.zero_add, Lib.cell_of_heap hg]
                exact hcx
              · rintro e w' ⟨rfl, rfl⟩
                have hsz : (W.drew.freeze ⟨g, 0, none⟩ l.length).heap.size = W.heap.size := by
                  unfold World.freeze
                  split
                  · rfl
                  · show (Array.modify _ _ _).size = _
                    simp
                have hmeta : (W.drew.freeze ⟨g, 0, none⟩ l.length).tape = W.tape ∧ (W.drew.freeze ⟨g, 0, none⟩ l.length).os = W.os ∧ (W.drew.freeze ⟨g, 0, none⟩ l.length).output = W.output := by
                  unfold World.freeze
                  split <;> exact ⟨rfl, rfl, rfl⟩
                exact ⟨_, rfl, _, _, hp, σ, h, hr.gone hj hσj rfl hsz (fun i hi => freeze_other W g _ i hi), Ev.write hσj rfl hsz hmeta.1 hmeta.2.1 hmeta.2.2 (fun i hi => freeze_other W g _ i hi), SgLe.refl _, by simp only [Rel]; rfl⟩
          · omega
        · exact h.elim
      · exact h.elim
    · exact h.elim
  · exact h.elim
theorem putF_same : ∀ k n, Go.Proofs.Ytejoagfpklpafaa.putF k n = putF k n
  | 0, _ => rfl
  | k + 1, n => by simp only [Go.Proofs.Ytejoagfpklpafaa.putF, putF, putF_same k]
theorem below_after {K : AV → Hp → Prop} {r : AV} {v : Value} (hr : HeapRel hp σ H W) (hb : Below W.heap.size W W') (hk : K r H) (hv : Rel hp σ r v) : After hp σ W K v W' := by
  have hkeep : ∀ k, k < W.heap.size → W'.heap[k]? = W.heap[k]? := fun k hk => hb.block k hk
  exact ⟨r, H, hp, σ, hk, hr.stays hb.size hkeep, ⟨hb.size, hb.tape, hb.os, hb.output, ImLe.refl _, fun k hk _ => hkeep k hk, fun _ _ h => .inl h, fun i w k h1 h2 => .inr ⟨i, w, h1, h2⟩⟩, SgLe.refl _, hv⟩
theorem put_ok {args : List AV} {K : AV → Hp → Prop} {vs : List Value} (ha : RelT hp σ args vs) (hr : HeapRel hp σ H W) (h : primPut args H K) :
    Calls Try.prog 47 vs.toArray W fun e W' => ∃ v, e = .returned v ∧ After hp σ W K v W' := by
  unfold primPut at h
  split at h
  · rename_i m
    obtain ⟨v, rfl, hx⟩ := arg1 ha
    simp only [Rel] at hx
    subst hx
    unfold putA at h
    split at h
    · rename_i hm
      obtain ⟨k, rfl⟩ : ∃ k : Nat, m = k := ⟨m.toNat, by omega⟩
      refine (Go.Proofs.Ytejoagfpklpafaa.put_good k (by omega) W).mono ?_
      rintro e w' ⟨rfl, hb⟩
      refine ⟨_, rfl, below_after hr hb h ?_⟩
      rw [putF_same, Int.toNat_natCast]
      simp only [Rel]
      exact ⟨_, rfl, by simp only [RelT, Rel, and_true, true_and]; rfl⟩
    · rename_i hm
      refine (Go.Proofs.Ytejoagfpklpafaa.put_bad m (by omega) W).mono ?_
      rintro e w' ⟨rfl, hb⟩
      refine ⟨_, rfl, below_after hr hb h ?_⟩
      simp only [Rel]
      exact ⟨_, rfl, by simp only [RelT, Rel, and_true, true_and]; rfl⟩
  · exact h.elim
end
end Go.Ai

/- What the model has an entry of its own for: slices.overlaps at two rows of one's own, the order of two texts. -/
import Derived.Test.YtmebpmghmghhkaaAiSound
import Derived.Test.YtmebpmghmghhkaaAiVar
import Derived.Lib.Overlaps
import Derived.Laws.Externs
set_option linter.unusedVariables false
set_option linter.unusedSimpArgs false
namespace Go.Ai
section
variable {P : Program} {hp : Im} {σ : Sg} {H : Hp} {W : World}
theorem overlaps_ok {f : FuncId} {fn : Func} {t tR e : TypeId} {args : List AV} {vs : List Value} {r : AV} (hf : P.funcs[f]? = some fn) (hname : (fn.name == "runtime.NumGoroutine") = false) (hb : fn.body.isNone = true) (hn : Extern.findNext fn = none) (he : Extern.find fn = some (Extern.SlicesOverlaps.overlaps #[t, t] #[tR]))
    (hu : P.underlying t = some (.slice e)) {size : Nat} (hs : szO P e = some size) (ha : RelT hp σ args vs) (hr : HeapRel hp σ H W) (h : extOverlaps H args = some r) : ∃ v, (callFunc f vs.toArray).run P W = .ok (.value v) W ∧ Rel hp σ r v := by
  unfold extOverlaps at h
  split at h
  · rename_i a sa oa la b sb ob lb
    split at h
    · simp at h
    · rename_i hab
      split at h
      · simp at h
      rename_i hla
      split at h
      · simp at h
      rename_i hlb
      unfold overB at h
      split at h
      · rename_i t1 s1 xs1 t2 s2 c2 xs2 hba hbb
        simp only [Option.some.injEq] at h
        subst h
        match vs, ha with
        | [u, w], ha =>
          simp only [RelT, and_true] at ha
          obtain ⟨hx, hy⟩ := ha
          refine ⟨.bool false, ?_, by simp only [Rel]⟩
          rw [run_callFunc_extern hf hname hb hn he]
          have hrun : (Extern.SlicesOverlaps.overlaps #[t, t] #[tR] #[u, w]).run P W = .ok (.bool false) W := by
            obtain ⟨us1, hrow1, hn1⟩ := rowish_row hr hba
            obtain ⟨us2, hrow2, hn2⟩ := rowish_rowc hr hbb
            simp only [Rel] at hx hy
            rcases hx with ⟨k1, n1, c1, h1, h2, ⟨A, c1', rfl, _⟩, h4⟩ | ⟨_, _, hz, _⟩
            · rcases hy with ⟨k2, n2, c2', g1, g2, ⟨B, c2'', rfl, _⟩, g4⟩ | ⟨_, _, hz, _⟩
              · have e1 := h4 (.inr (by omega))
                have e2 := g4 (.inr (by omega))
                rw [e1, e2]
                obtain ⟨_, _, _, _, cur1, hh1, _, _⟩ := hrow1.at_ k1 n1 c1 h1
                obtain ⟨_, _, _, _, cur2, hh2, hs2, _⟩ := hrow2.at_ k2 n2 c2' g1
                obtain ⟨rfl, rfl⟩ := hn2 k2 n2 c2' g1
                have hk : k1 ≠ k2 := fun he => by
                  subst he
                  exact hab (hr.apart a b _ _ _ _ k1 hba hbb h1 g1 rfl rfl)
                have hz : cur2.size ≠ 0 := by
                  rw [hs2]
                  exact Nat.ne_of_gt (Nat.mul_pos (by omega) hrow2.pos)
                exact Lib.run_overlaps_apart W t tR e hu size (fun w => run_sizeOf hs w) ⟨k1, oa * sa, none⟩ ⟨k2, ob * sb, none⟩ la (c1 - oa) lb _ hk t1 t2 cur1.size cur2.size
                  (by simp [World.shape?, hh1]) (by simp [World.shape?, hh2]) hz (by simp [World.frozen?, hh1]) (by simp [World.frozen?, hh1])
              · exact absurd hz hlb
            · exact absurd hz hla
          rw [hrun]
          rfl
        | [], ha => simp [RelT] at ha
        | [_], ha => simp [RelT] at ha
        | _ :: _ :: _ :: _, ha => simp [RelT] at ha
      · simp at h
  · simp at h
theorem find_shift {p : Nat → Bool} : ∀ n, ((List.range (n + 1)).find? p) = if p 0 = true then some 0 else ((List.range n).find? fun i => p (i + 1)).map (· + 1) := fun n => by
  rw [List.range_succ_eq_map, List.find?_cons]
  cases h : p 0
  · simp only [Bool.false_eq_true, if_false]
    rw [List.find?_map]
    rfl
  · simp
theorem cmpL_eq : ∀ (x y : List UInt8), cmpL x y = match (List.range (min x.length y.length)).find? fun i => (x.getD i 0) != (y.getD i 0) with
    | some i => if x.getD i 0 < y.getD i 0 then -1 else 1
    | none => if x.length < y.length then -1 else if x.length > y.length then 1 else 0
  | [], [] => by simp [cmpL]
  | [], _ :: _ => by simp [cmpL]
  | _ :: _, [] => by simp [cmpL]
  | a :: x, b :: y => by
    have e : min (a :: x).length (b :: y).length = min x.length y.length + 1 := by simp
    rw [e, find_shift]
    simp only [List.getD_cons_zero, List.getD_cons_succ]
    unfold cmpL
    by_cases hab : a = b
    · subst hab
      have h1 : ¬ (a < a) := UInt8.lt_irrefl a
      rw [if_neg h1, if_neg h1, if_neg (by simp), cmpL_eq x y]
      cases (List.range (min x.length y.length)).find? fun i => (x.getD i 0) != (y.getD i 0) with
      | none => simp
      | some i => simp
    · have hne : (a != b) = true := by simpa using hab
      rw [if_pos hne]
      simp only [List.getD_cons_zero]
      by_cases h1 : a < b
      · rw [if_pos h1, if_pos h1]
      · rw [if_neg h1, if_neg h1]
        have : b < a := by
          rcases UInt8.lt_or_lt_of_ne hab with h | h
          · exact absurd h h1
          · exact h
        rw [if_pos this]
theorem cmp_ok {f : FuncId} {fn : Func} {args : List AV} {vs : List Value} {r : AV} (hf : P.funcs[f]? = some fn) (hname : (fn.name == "runtime.NumGoroutine") = false) (hb : fn.body.isNone = true) (hn : Extern.findNext fn = none) (he : Extern.find fn = some Extern.BytealgCompare.compare)
    (ha : RelT hp σ args vs) (h : extCmp H args = some r) : ∃ v, (callFunc f vs.toArray).run P W = .ok (.value v) W ∧ Rel hp σ r v := by
  unfold extCmp at h
  split at h
  · rename_i a b
    simp only [Option.some.injEq] at h
    subst h
    match vs, ha with
    | [u, w], ha =>
      simp only [RelT, and_true, Rel] at ha
      obtain ⟨rfl, rfl⟩ := ha
      refine ⟨_, ?_, by simp only [Rel]; rfl⟩
      rw [run_callFunc_extern hf hname hb hn he]
      have hget : ∀ (b : ByteArray) (i : Nat), b[i]! = b.data.toList.getD i 0 := fun b i => by
        rw [getElem!_def]
        by_cases h : i < b.size
        · have h2 : i < b.data.toList.length := by rw [Array.length_toList]; exact h
          rw [getElem?_pos b i h, List.getD_eq_getElem?_getD, List.getElem?_eq_getElem h2]
          simp [ByteArray.getElem_eq_getElem_data]
        · have h2 : b.data.toList.length ≤ i := by rw [Array.length_toList]; exact Nat.not_lt.1 h
          rw [getElem?_neg b i h, List.getD_eq_getElem?_getD, List.getElem?_eq_none h2]
          rfl
      have hc : Extern.BytealgCompare.cmp a b = cmpL a.data.toList b.data.toList := by
        rw [cmpL_eq]
        unfold Extern.BytealgCompare.cmp
        simp only [hget]
        have hl : ∀ b : ByteArray, b.data.toList.length = b.size := fun b => by rw [Array.length_toList]; rfl
        rw [hl, hl]
        rfl
      have hrun : (Extern.BytealgCompare.compare #[.string a, .string b]).run P W = .ok (.int .i64 (Extern.BytealgCompare.cmp a b)) W := rfl
      rw [hc] at hrun
      show ((Extern.BytealgCompare.compare #[.string a, .string b]).run P W).andThen _ = _
      rw [hrun]
      rfl
    | [], ha => simp [RelT] at ha
    | [_], ha => simp [RelT] at ha
    | _ :: _ :: _ :: _, ha => simp [RelT] at ha
  · simp at h
end
end Go.Ai

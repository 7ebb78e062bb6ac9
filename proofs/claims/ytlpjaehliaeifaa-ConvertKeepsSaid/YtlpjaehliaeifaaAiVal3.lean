/- Operations that look at no memory: elements, composite values, functions, interfaces. -/
import Derived.Test.YtlpjaehliaeifaaAiVal2
import Derived.Great.FillDense
set_option linter.unusedVariables false
set_option linter.unusedSimpArgs false
namespace Go.Ai
section
variable {P : Program} {hp : Im} {σ : Sg}

theorem exSh_out : ∀ {sh : List Sh} {K : List AV → Prop}, exSh sh K → ∃ cs, K cs
  | [], K, h => ⟨[], h⟩
  | .int k :: r, K, ⟨n, h⟩ => let ⟨cs, h⟩ := exSh_out h; ⟨_, h⟩
  | .bool :: r, K, ⟨n, h⟩ => let ⟨cs, h⟩ := exSh_out h; ⟨_, h⟩
  | .str :: r, K, ⟨n, h⟩ => let ⟨cs, h⟩ := exSh_out h; ⟨_, h⟩
  | .sl sz :: r, K, ⟨n, h⟩ => let ⟨cs, h⟩ := exSh_out h; ⟨_, h⟩
  | .other :: r, K, ⟨n, h⟩ => let ⟨cs, h⟩ := exSh_out h; ⟨_, h⟩
theorem run_indexAt_slice {W : World} {t e : TypeId} {ad : Addr} {k : IntKind} {len cap sz : Nat} {i : Int} (hu : P.underlying t = some (.slice e)) (hs : szO P e = some sz) (h0 : 0 ≤ i) (h1 : i < (len : Int)) :
    (Instr.indexAt t (.slice (some ad) len cap) (.int k i)).run P W = .ok (.pointer (some (ad.add (i.toNat * sz)))) W := by
  simp [Instr.indexAt, asIntOf, run_underlying hu, h0, h1, run_sizeOf hs]
theorem indexAddrA_sound {t : TypeId} {x y : AV} {u v : Value} {K : AV → Prop} (hx : Rel hp σ x u) (hy : Rel hp σ y v) (h : indexAddrA P t x y K) : Yld P hp σ (Instr.indexAt t u v) K := by
  unfold indexAddrA at h
  split at h
  · rename_i k i
    simp only [Rel] at hy
    subst hy
    split at h
    · rename_i sz xs
      split at h
      · rename_i e he
        obtain ⟨hs, h0, h⟩ := h
        obtain ⟨cs, hc, h⟩ := exSh_out h
        simp only [Rel] at hx
        obtain ⟨A, cap, rfl, hcap, hA⟩ := hx
        have hlt : i.toNat < xs.length := (List.getElem?_eq_some_iff.1 hc).1
        obtain ⟨ad, rfl, hsp, hr⟩ := hA (by intro hc'; simp [hc'] at hlt)
        obtain ⟨_, hcs⟩ := RelRow.get i.toNat 0 xs hr hc
        refine ⟨_, _, fun W => run_indexAt_slice (elem_eq he) hs h0 (by omega), h, ?_⟩
        simp only [Rel]
        refine ⟨_, rfl, add_spot hsp _, RelCs.shift hsp _ 0 _ ?_⟩
        rw [Nat.zero_add] at hcs
        exact hcs
      · exact h.elim
    · rename_i id sz off len
      split at h
      · rename_i e he
        obtain ⟨hs, h0, h1, h⟩ := h
        simp only [Rel] at hx
        rcases hx with ⟨k', n, c, hσ, hle, _, hA⟩ | ⟨_, _, rfl, _⟩
        · have hy := hA (.inr (by omega))
          subst hy
          refine ⟨_, _, fun W => run_indexAt_slice (elem_eq he) hs h0 h1, h, ?_⟩
          simp only [Rel]
          refine ⟨k', n, c, hσ, by omega, ?_⟩
          rw [add_none, Nat.add_mul, Nat.add_zero]
        · omega
      · exact h.elim
    · split at h
      · rename_i n e he
        split at h
        · rename_i sz hs
          obtain ⟨h0, h1, h⟩ := h
          obtain ⟨ad, r, rfl, hk, hr⟩ := moveA_sound hx h
          refine ⟨_, r, fun W => ?_, hk, hr⟩
          simp [Instr.indexAt, asIntOf, run_underlying (arr_of he), Instr.sureAddr, h0, h1, run_sizeOf hs]
        · exact h.elim
      · exact h.elim
  · exact h.elim
theorem indexA_sound {t : TypeId} {x y : AV} {u v : Value} {K : AV → Prop} (hx : Rel hp σ x u) (hy : Rel hp σ y v) (h : indexA P t x y K) : Yld P hp σ (Instr.index t u v) K := by
  unfold indexA at h
  split at h
  · rename_i k i
    simp only [Rel] at hy
    subst hy
    split at h
    · rename_i s
      obtain ⟨ht, h0, h1, h⟩ := h
      simp only [Rel] at hx
      subst hx
      refine .v (fun W => ?_) h
      have hlt : i.toNat < s.size := by omega
      have hb : s[i.toNat]? = some (s.data.getD i.toNat 0) := by
        have hs : s.size = s.data.size := rfl
        rw [getElem?_pos s i.toNat hlt]
        simp [ByteArray.getElem_eq_getElem_data, Array.getD, ← hs, hlt]
      simp [Instr.index, asIntOf, run_underlying ht, h0, hb]
    · rename_i cs
      split at h
      · rename_i n e he
        split at h
        · rename_i sz hs
          obtain ⟨h0, h1, h⟩ := h
          simp only [Rel] at hx
          obtain ⟨vs, rfl, hv⟩ := hx
          cases hl : ldv P e cs (i.toNat * sz) with
          | none => rw [hl] at h; exact h.elim
          | some r =>
            rw [hl] at h
            obtain ⟨z, hz, hr⟩ := run_part (W := default) hv hl
            refine ⟨z, r, fun W => ?_, h, hr⟩
            simp [Instr.index, asIntOf, run_underlying (arr_of he), h0, h1, run_sizeOf hs, hz]
        · exact h.elim
      · exact h.elim
    · exact h.elim
  · exact h.elim
theorem lenA_sound {t : TypeId} {x : AV} {u : Value} {K : AV → Prop} {ts : List TypeId} {ty : TypeId} (hx : Rel hp σ x u) (h : lenA P t x K) : Yld P hp σ (Builtin.len_ (t :: ts).toArray ty #[u]) K := by
  unfold lenA at h
  split at h
  · simp only [Rel] at hx
    subst hx
    exact .v (fun W => by simp [Builtin.len_, run_underlying h.1, goInt]) h.2
  · obtain ⟨e, he⟩ := elem_of h.1
    simp only [Rel] at hx
    subst hx
    exact .v (fun W => by simp [Builtin.len_, run_underlying he, goInt]) h.2
  · obtain ⟨e, he⟩ := elem_of h.1
    simp only [Rel] at hx
    obtain ⟨A, rfl⟩ := hx
    exact .v (fun W => by simp [Builtin.len_, run_underlying he, goInt]) h.2
  · obtain ⟨e, he⟩ := elem_of h.1
    simp only [Rel] at hx
    obtain ⟨A, cap, rfl, _⟩ := hx
    exact .v (fun W => by simp [Builtin.len_, run_underlying he, goInt]) h.2
  · obtain ⟨e, he⟩ := elem_of h.1
    simp only [Rel] at hx
    rcases hx with ⟨_, _, _, _, _, ⟨A, c', rfl, _⟩, _⟩ | ⟨_, _, rfl, A, rfl⟩
    · exact .v (fun W => by simp [Builtin.len_, run_underlying he, goInt]) h.2
    · exact .v (fun W => by simp [Builtin.len_, run_underlying he, goInt]) h.2
  · exact h.elim
theorem minA_sound {xs : List AV} {us : List Value} {r : AV} {ts : Array TypeId} {ty : TypeId} (hx : RelT hp σ xs us) (h : minA xs = some r) : ∃ z, (∀ W, (Builtin.min_ ts ty us.toArray).run P W = .ok z W) ∧ Rel hp σ r z := by
  unfold minA at h
  split at h
  · rename_i k x k' y
    simp only [Option.some.injEq] at h
    subst h
    match us, hx with
    | [u, v], hx =>
      simp only [RelT, Rel] at hx
      obtain ⟨rfl, rfl, _⟩ := hx
      exact ⟨.int k (if y < x then y else x), fun W => by simp [Builtin.min_, Builtin.min2], by simp [Rel]⟩
    | [], hx => simp [RelT] at hx
    | [_], hx => simp [RelT] at hx
    | _ :: _ :: _ :: _, hx => simp [RelT] at hx
  · simp at h
theorem unA_sound {op : UnOp} {x : AV} {u : Value} {s : St} {K : AV → St → Prop} (hx : Rel hp σ x u) (h : unA op x s K) : Yld P hp σ (Op.unary op u) (K · s) := by
  unfold unA at h
  split at h
  · simp only [Rel] at hx
    subst hx
    exact .v (fun W => by simp [Op.unary]) h
  · simp only [Rel] at hx
    subst hx
    exact .v (fun W => by simp [Op.unary, Op.intArith]) h
  · exact h.elim
theorem extractA_sound {x r : AV} {u : Value} {j : Nat} (hx : Rel hp σ x u) (h : extractA x j = some r) : ∃ z, (∀ W, (Instr.extract u j).run P W = .ok z W) ∧ Rel hp σ r z := by
  unfold extractA at h
  split at h
  · rename_i vs
    simp only [Rel] at hx
    obtain ⟨us, rfl, hv⟩ := hx
    obtain ⟨z, hz, hr⟩ := hv.get j h
    exact ⟨z, fun W => by simp [Instr.extract, hz], hr⟩
  · simp at h
theorem ifcA_sound {t : TypeId} {x : AV} {u : Value} {s : St} {K : AV → St → Prop} (hx : Rel hp σ x u) (h : ifcA P t x s K) : Yld P hp σ (Instr.makeInterface t u) (K · s) := by
  unfold ifcA at h
  split at h
  · rename_i hi
    unfold isIface at hi
    split at hi
    · simp at hi
    · rename_i d hne hd
      refine ⟨.iface t u, _, fun W => ?_, h, by simp only [Rel]; exact ⟨u, rfl, hx⟩⟩
      unfold Instr.makeInterface
      rw [Sem.run_bind, run_underlying hd W]
      cases d <;> first | rfl | exact absurd rfl (hne _)
    · simp at hi
  · exact h.elim
end
end Go.Ai

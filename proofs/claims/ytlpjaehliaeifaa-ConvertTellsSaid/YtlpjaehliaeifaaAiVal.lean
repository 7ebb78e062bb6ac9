/- Operations that look at no memory: what the abstract machine says of one, the model's operation does. -/
import Derived.Test.YtlpjaehliaeifaaAiBin
import Derived.Laws.Small
import Derived.Laws.Pointers
import Derived.Laws.Slices
set_option linter.unusedVariables false
set_option linter.unusedSimpArgs false
namespace Go.Ai
section
variable {P : Program} {hp : Im} {σ : Sg}

theorem elem_of {t : TypeId} (h : (elemOfS P t).isSome = true) : ∃ e, P.underlying t = some (.slice e) := by
  unfold elemOfS at h
  split at h
  · rename_i e he
    exact ⟨e, he⟩
  · simp at h
theorem elem_eq {t e : TypeId} (h : elemOfS P t = some e) : P.underlying t = some (.slice e) := by
  unfold elemOfS at h
  split at h
  · rename_i e' he
    simp at h
    subst h
    exact he
  · simp at h
theorem ptr_of {t : TypeId} (h : (ptrOf P t).isSome = true) : P.underlying t = some (.pointer (P.pointee t)) := by
  unfold ptrOf at h
  split at h
  · rename_i e he
    rw [he]
    simp [Program.pointee, he]
  · simp at h
theorem eqlSliceNil (W : World) (t e : TypeId) (a : Option Addr) (n c n' c' : Nat) (h : P.underlying t = some (.slice e)) :
    (binOp .eql t (.slice a n c) (.slice none n' c')).run P W = .ok (.bool a.isNone) W := by
  have h1 : ∀ d, (Op.equalIn (d + 1) t (.slice a n c) (.slice none n' c')).run P W = .ok a.isNone W := fun d => by
    cases a <;> simp [Op.equalIn, run_underlying h]
  simp only [binOp]
  simp [Op.equal, Op.maxDepth, h1 9999]
theorem neqSliceNil (W : World) (t e : TypeId) (a : Option Addr) (n c n' c' : Nat) (h : P.underlying t = some (.slice e)) :
    (binOp .neq t (.slice a n c) (.slice none n' c')).run P W = .ok (.bool (!a.isNone)) W := by
  have h1 : ∀ d, (Op.equalIn (d + 1) t (.slice a n c) (.slice none n' c')).run P W = .ok a.isNone W := fun d => by
    cases a <;> simp [Op.equalIn, run_underlying h]
  simp only [binOp]
  simp [Op.equal, Op.maxDepth, h1 9999]

/-- What an operation on two values comes to. -/
def Bin2 (P : Program) (hp : Im) (σ : Sg) (op : BinOp) (t : TypeId) (u v : Value) (K : AV → Prop) : Prop :=
  ∃ z r, (∀ W o1 o2, (eqGuard op t o1 o2 u v).run P W = .ok () W) ∧ (∀ W, (binOp op t u v).run P W = .ok z W) ∧ K r ∧ Rel hp σ r z
theorem Bin2.of {op : BinOp} {t : TypeId} {u v z : Value} {K : AV → Prop} (h1 : ∀ c d, ¬ (u = .agg c ∧ v = .agg d)) (h2 : ¬ (u = .nilIface ∧ v = .nilIface)) (hz : ∀ W, (binOp op t u v).run P W = .ok z W) (h : K (.v z)) :
    Bin2 P hp σ op t u v K := ⟨z, .v z, fun W o1 o2 => eqGuard_ok h1 h2, hz, h, by simp [Rel]⟩
theorem flat_struct {t : TypeId} {sh : List Sh} (h : flatSh P t = some sh) : P.underlying t = some (.struct (P.fieldsOf t)) ∧ P.stoodInHeld t = false ∧ P.eqGuardType P.depth t = false ∧ flatFs P 0 (P.fieldsOf t).toList = some sh := by
  unfold flatSh at h
  split at h
  · rename_i fs hf
    split at h
    · rename_i hc
      have : P.fieldsOf t = fs := by simp [Program.fieldsOf, hf]
      rw [this]
      exact ⟨hf, hc.1, hc.2, h⟩
    · simp at h
  · simp at h
theorem binA_sound {op : BinOp} {t : TypeId} {x y : AV} {u v : Value} {K : AV → Prop} (hx : Rel hp σ x u) (hy : Rel hp σ y v) (h : binA P op t x y K) : Bin2 P hp σ op t u v K := by
  unfold binA at h
  split at h
  · -- numbers
    rename_i k a k' b
    simp only [Rel] at hx hy
    subst hx hy
    split at h
    · obtain ⟨h0, h⟩ := h
      refine Bin2.of (by simp) (by simp) (fun W => ?_) h
      simp [binOp, Op.shift, Int.not_lt.2 h0]
    · obtain ⟨h0, h⟩ := h
      refine Bin2.of (by simp) (by simp) (fun W => ?_) h
      simp [binOp, Op.shift, Int.not_lt.2 h0]
    · obtain ⟨rfl, h⟩ := h
      obtain ⟨z, hz, hk⟩ := intA_sound (P := P) (t := t) h
      exact Bin2.of (by simp) (by simp) hz hk
  · simp only [Rel] at hx hy
    subst hx hy
    obtain ⟨z, hz, hk⟩ := strA_sound (P := P) (t := t) h
    exact Bin2.of (by simp) (by simp) hz hk
  · simp only [Rel] at hx hy
    subst hx hy
    split at h
    · exact Bin2.of (by simp) (by simp) (fun W => run_eql_bool W t _ _ h.1) h.2
    · exact Bin2.of (by simp) (by simp) (fun W => run_neq_bool W t _ _ h.1) h.2
    · exact h.elim
  · rename_i xs ys
    simp only [Rel] at hx hy
    obtain ⟨us, rfl, hx⟩ := hx
    obtain ⟨vs, rfl, hy⟩ := hy
    cases hf : flatSh P t with
    | none => rw [hf] at h; cases op <;> exact h.elim
    | some sh =>
      rw [hf, Option.bind_some] at h
      obtain ⟨hu, hs, hg, hfl⟩ := flat_struct hf
      cases he : eqSh sh xs ys with
      | none => rw [he] at h; cases op <;> exact h.elim
      | some b =>
        rw [he] at h
        have hrun : ∀ W : World, (Op.equalIn 10000 t (.agg us.toArray) (.agg vs.toArray)).run P W = .ok b W := fun W => by
          rw [run_equalIn_struct W 9999 t _ _ hu hs]
          exact eqSh_sound 9998 hp σ xs ys us vs hx hy _ 0 sh b hfl (by simpa using he)
        cases op
        case eql => exact ⟨.bool b, _, fun W o1 o2 => run_eqGuard_agg W .eql t o1 o2 _ _ hg, fun W => by rw [run_eql_struct, hrun]; rfl, h, by simp [Rel]⟩
        case neq => exact ⟨.bool !b, _, fun W o1 o2 => run_eqGuard_agg W .neq t o1 o2 _ _ hg, fun W => by rw [run_neq_struct, hrun]; rfl, h, by simp [Rel]⟩
        all_goals exact h.elim
  · simp only [Rel] at hx hy
    subst hx hy
    split at h
    · obtain ⟨e, he⟩ := elem_of h.1
      exact Bin2.of (by simp) (by simp) (fun W => eqlSliceNil W t e none 0 0 0 0 he) h.2
    · obtain ⟨e, he⟩ := elem_of h.1
      exact Bin2.of (by simp) (by simp) (fun W => neqSliceNil W t e none 0 0 0 0 he) h.2
    · exact h.elim
  · rename_i sz xs
    simp only [Rel] at hx hy
    obtain ⟨A, cap, rfl, _, hA⟩ := hx
    subst hy
    have hne : A.isNone = true → xs = [] := fun hn => Decidable.byContradiction fun hc => by
      obtain ⟨ad, rfl, _⟩ := hA (by simpa using hc)
      simp at hn
    split at h
    · obtain ⟨e, he⟩ := elem_of h.1
      exact Bin2.of (by simp) (by simp) (fun W => eqlSliceNil W t e A _ _ 0 0 he) (h.2 _ hne)
    · obtain ⟨e, he⟩ := elem_of h.1
      exact Bin2.of (by simp) (by simp) (fun W => neqSliceNil W t e A _ _ 0 0 he) (h.2 _ hne)
    · exact h.elim
  · simp only [Rel] at hx hy
    subst hx hy
    split at h
    · exact Bin2.of (by simp) (by simp) (fun W => run_eql_pointer_nil W t none (ptr_of h.1)) h.2
    · exact Bin2.of (by simp) (by simp) (fun W => run_neq_pointer_nil W t none (ptr_of h.1)) h.2
    · exact h.elim
  · simp only [Rel] at hx hy
    obtain ⟨k, _, rfl⟩ := hx
    subst hy
    split at h
    · exact Bin2.of (by simp) (by simp) (fun W => run_eql_pointer_nil W t (some _) (ptr_of h.1)) h.2
    · exact Bin2.of (by simp) (by simp) (fun W => run_neq_pointer_nil W t (some _) (ptr_of h.1)) h.2
    · exact h.elim
  · exact h.elim
end
end Go.Ai

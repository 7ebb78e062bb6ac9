/- An operation that looks at no memory yields the same whatever the memory. -/
import Derived.Test.YtlpjaehliaeifaaAiVal4
set_option linter.unusedVariables false
set_option linter.unusedSimpArgs false
namespace Go.Ai
section
variable {P : Program} {hp : Im} {σ : Sg}
theorem run_vOf {m : Sem Value} {z : Value} {W W' : World} (h : m.run P W = .ok z W') : (do pure (Next.value (← m)) : Sem Next).run P W = .ok (.value z) W' := by
  simp [Sem.run_bind, h]
theorem optA_out {x : Option AV} {s : St} {K : AV → St → Prop} (h : optA x s K) : ∃ r, x = some r ∧ K r s := by
  cases x with
  | none => exact h.elim
  | some r => exact ⟨r, rfl, h⟩
/-- What an operation that looks at no memory comes to. -/
def Free (P : Program) (hp : Im) (σ : Sg) (o : Oper) (a : Act) (K : AV → Prop) : Prop := ∃ v r, (∀ W, (execOp a.eval o).run P W = .ok (.value v) W) ∧ K r ∧ Rel hp σ r v
theorem getO_rel {a : Act} {s : St} (hg : ∀ x, Rel hp σ (s.get x) (a.eval x)) (x : Option Operand) : RelO hp σ (getO s x) (x.map a.eval) := by
  cases x with
  | none => simp [getO, RelO]
  | some x => simpa [getO, RelO] using hg x
theorem gets_rel {a : Act} {s : St} (hg : ∀ x, Rel hp σ (s.get x) (a.eval x)) : ∀ l : List Operand, RelT hp σ (l.map s.get) (l.map a.eval)
  | [] => by simp [RelT]
  | x :: l => by simp only [List.map_cons, RelT]; exact ⟨hg x, gets_rel hg l⟩
theorem roomA_spec {H : Hp} {W : World} {x : AV} {u : Value} (hr : HeapRel hp σ H W) (hx : Rel hp σ x u) : RoomOk σ x u (roomA H x) := by
  intro r h
  unfold roomA at h
  split at h
  · rename_i id sz len
    split at h
    · rename_i t sz' c0 xs hb
      simp only [Option.some.injEq] at h
      subst h
      refine ⟨id, sz, len, rfl, ?_⟩
      obtain ⟨v, hσ, hbr, _⟩ := hr.own id _ hb
      simp only [BlkRel] at hbr
      obtain ⟨_, _, us, _, hv⟩ := hbr
      simp only [Rel] at hx
      rcases hv with ⟨rfl, rfl, rfl⟩ | ⟨k, cur, rfl, _, _⟩
      · rcases hx with ⟨k, n, c, h1, _⟩ | ⟨_, _, rfl, A, rfl⟩
        · rw [hσ] at h1; simp at h1
        · exact .inr ⟨rfl, rfl, hσ, A, rfl⟩
      · rcases hx with ⟨k', n, c, h1, h2, _, h3⟩ | ⟨h1, _⟩
        · rw [hσ] at h1
          simp only [Option.some.injEq, Value.slice.injEq, Addr.mk.injEq, and_true, true_and] at h1
          obtain ⟨rfl, rfl, rfl⟩ := h1
          have h4 := h3 (.inl trivial)
          simp only [Nat.zero_mul, Nat.sub_zero] at h4
          exact .inl ⟨k, hσ, h4, by omega⟩
        · rw [hσ] at h1; simp at h1
    · simp at h
  · simp at h
theorem opF0_sound {C : Cfg} {call : Callee} {o : Oper} {s : St} {a : Act} {W : World} {K : AV → St → Prop} (hf : isF0 o = true) (hr : HeapRel hp σ s.H W) (hg : ∀ x, Rel hp σ (s.get x) (a.eval x)) (h : opA C call o s K) : Free C.P hp σ o a (K · s) := by
  obtain ⟨dst, op, ty, pos, af, g⟩ := o
  have yld : ∀ {m : Sem Value} {K' : AV → Prop}, Yld C.P hp σ m K' → (execOp a.eval ⟨dst, op, ty, pos, af, g⟩ = do pure (Next.value (← m))) → Free C.P hp σ ⟨dst, op, ty, pos, af, g⟩ a K' := fun ⟨z, r, h1, h2, h3⟩ he =>
    ⟨z, r, fun W => by rw [he]; exact run_vOf (h1 W), h2, h3⟩
  have yldo : ∀ {m : Sem Value} {x : Option AV}, optA x s K → (∀ r, x = some r → ∃ z, (∀ W, m.run C.P W = .ok z W) ∧ Rel hp σ r z) → (execOp a.eval ⟨dst, op, ty, pos, af, g⟩ = do pure (Next.value (← m))) → Free C.P hp σ ⟨dst, op, ty, pos, af, g⟩ a (K · s) := fun h hr he => by
    obtain ⟨r, hx, hk⟩ := optA_out h
    obtain ⟨z, hz, hrel⟩ := hr r hx
    exact ⟨z, r, fun W => by rw [he]; exact run_vOf (hz W), hk, hrel⟩
  cases op
  case move x => exact ⟨a.eval x, s.get x, fun W => rfl, h, hg x⟩
  case assign x => exact ⟨a.eval x, s.get x, fun W => rfl, h, hg x⟩
  case pick c x y =>
    have hc := hg c
    have hx := hg x
    have hy := hg y
    simp only [opA] at h
    unfold pickA at h
    split at h
    · rename_i c0 x0 y0 e1 e2 e3
      rw [e1] at hc; rw [e2] at hx; rw [e3] at hy
      simp only [Rel] at hc hx hy
      refine ⟨_, _, fun W => ?_, h, by simp [Rel]; rfl⟩
      simp only [execOp, hc, hx, hy, asBool, Sem.run_bind, Sem.run_pure, Result.andThen_ok]
      cases c0 <;> rfl
    · rename_i c0 e1 _
      rw [e1] at hc
      simp only [Rel] at hc
      cases c0
      · exact ⟨a.eval y, s.get y, fun W => by simp [execOp, hc, asBool], by simpa using h, hy⟩
      · exact ⟨a.eval x, s.get x, fun W => by simp [execOp, hc, asBool], by simpa using h, hx⟩
    · exact h.elim
  case binOp op t x y u =>
    obtain ⟨z, r, h1, h2, h3, h4⟩ := binA_sound (P := C.P) (op := op) (t := t) (K := (K · s)) (hg x) (hg y) h
    refine ⟨z, r, fun W => ?_, h3, h4⟩
    simp only [execOp, Sem.run_bind, h1, h2, Result.andThen_ok, Sem.run_pure]
  case unOp op t x => exact yld (unA_sound (hg x) h) rfl
  case makeFunc fn first cap =>
    cases fn with
    | func f =>
      refine ⟨.func (.func f) (first.map a.eval) (cap.map a.eval), _, fun W => rfl, h, ?_⟩
      simp only [Rel]
      refine ⟨first.toList.map a.eval, cap.toList.map a.eval, ?_, gets_rel hg _, gets_rel hg _⟩
      have e : ∀ x : Array Operand, x.map a.eval = (x.toList.map a.eval).toArray := fun x => by rw [← Array.toList_map]
      rw [e, e]
    | _ => exact h.elim
  case makeInterface t x => exact yld (ifcA_sound (hg x) h) rfl
  case field t x i => exact yldo h (fun r hr => fieldA_sound (hg x) hr) rfl
  case extract x j => exact yldo h (fun r hr => extractA_sound (hg x) hr) rfl
  case slice t x lo hi mx => exact yld (sliceA_sound (roomA_spec hr (hg x)) (hg x) (getO_rel hg lo) (getO_rel hg hi) (getO_rel hg mx) h) rfl
  case fieldAddr t x i => exact yld (fieldAddrA_sound (hg x) h) rfl
  case index t x i => exact yld (indexA_sound (hg x) (hg i) h) rfl
  case indexAddr t x i => exact yld (indexAddrA_sound (hg x) (hg i) h) rfl
  case nilCheck x =>
    have hx := hg x
    simp only [opA] at h
    unfold nilA at h
    split at h
    · rename_i id f e
      rw [e] at hx
      have hx' := hx
      simp only [Rel] at hx
      obtain ⟨k, _, hx⟩ := hx
      exact ⟨_, _, fun W => by simp only [execOp, hx]; rfl, h, by rw [hx] at hx'; exact hx'⟩
    · rename_i id sz i f e
      rw [e] at hx
      have hx' := hx
      simp only [Rel] at hx
      obtain ⟨k, n, c, _, _, hx⟩ := hx
      exact ⟨_, _, fun W => by simp only [execOp, hx]; rfl, h, by rw [hx] at hx'; exact hx'⟩
    · rename_i cs e
      rw [e] at hx
      have hx' := hx
      simp only [Rel] at hx
      obtain ⟨ad, hx, _⟩ := hx
      exact ⟨_, _, fun W => by simp only [execOp, hx]; rfl, h, by rw [hx] at hx'; exact hx'⟩
    · exact h.elim
  case build t parts =>
    refine yldo h (fun r hr => ?_) rfl
    have := buildA_sound hg hr
    simpa using this
  case typeAssert x xt t ok => exact yldo h (fun r hr => assertA_sound (hg x) hr) rfl
  case call c =>
    obtain ⟨callee, args, ts⟩ := c
    obtain ⟨args⟩ := args
    obtain ⟨ts⟩ := ts
    cases callee with
    | builtin b =>
      cases b
      case len =>
        match ts, args, h with
        | t :: ts, [x], h =>
          obtain ⟨z, r, h1, h2, h3⟩ := lenA_sound (P := C.P) (t := t) (K := (K · s)) (ts := ts) (ty := ty) (hg x) h
          refine ⟨z, r, fun W => ?_, h2, h3⟩
          simp only [execOp, resolve, List.map_toArray, List.map_cons, List.map_nil, Sem.run_bind, Sem.run_pure, Result.andThen_ok, invoke, builtin, h1]
        | [], _, h => exact h.elim
        | _ :: _, [], h => exact h.elim
        | _ :: _, _ :: _ :: _, h => exact h.elim
      case min =>
        have h' : optA (minA (args.map s.get)) s K := by cases ts <;> exact h
        obtain ⟨r, hr, hk⟩ := optA_out h'
        obtain ⟨z, hz, hrel⟩ := minA_sound (P := C.P) (ts := ts.toArray) (ty := ty) (gets_rel hg args) hr
        refine ⟨z, r, fun W => ?_, hk, hrel⟩
        simp only [execOp, resolve, List.map_toArray, Sem.run_bind, Sem.run_pure, Result.andThen_ok, invoke, builtin, hz]
      all_goals simp [isF0] at hf
    | _ => simp [isF0] at hf
  all_goals simp [isF0] at hf
end
end Go.Ai

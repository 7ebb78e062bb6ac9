/- Operations one after another, in the order of the text. -/
import Derived.Test.YtlpjaehliaeifaaAiStep
set_option linter.unusedVariables false
set_option linter.unusedSimpArgs false
namespace Go.Ai
section
variable {C : Cfg} {call : Callee} {E : Ent} {s : St} {a : Act} {W W' : World} {hp hp' : Im} {σ σ' : Sg} {ops : Array Oper} {o : Oper} {rest : List Oper} {K : St → Prop}
theorem tmps_put {a : Act} {d : Nat} {v : Value} (h : d < a.tmps.size) (n : Nat) : (a.put (some d) v).tmps.getD n undef = if d = n then v else a.tmps.getD n undef := by
  simp only [Act.put, Array.getD_eq_getD_getElem?, Array.getElem?_setIfInBounds]
  split
  · rename_i hn
    subst hn
    simp [h]
  · rfl
theorem put_size (a : Act) (d : Option Nat) (v : Value) : (a.put d v).tmps.size = a.tmps.size := by cases d <;> simp [Act.put]
theorem put_defers (a : Act) (d : Option Nat) (v : Value) : (a.put d v).defers = a.defers := by cases d <;> rfl
theorem Now.told {d : Nat} {x : AV} (h : Now E s a W hp σ) (hx : Rel hp σ x (a.tmps.getD d undef)) : Now E ⟨(d, x) :: s.t, s.H⟩ a W hp σ := by
  refine ⟨h.heap, fun n => ?_, h.ev, h.defers, h.nt, h.sg⟩
  show Rel hp σ (if d = n then x else find n s.t) _
  split
  · rename_i hn
    subst hn
    exact hx
  · exact h.tmps n
/-- A result goes into its slot. -/
theorem Now.put {d : Option Nat} {r : AV} {v : Value} {s' : St} (h : Now E s a W hp σ) (hd : ∀ k, d = some k → k < E.nt) (ht : s'.t = s.t) (hr : HeapRel hp' σ' s'.H W') (hev : Ev ⟨hp, σ, W, 0⟩ hp' σ' W') (hs : SgLe σ σ') (hrel : Rel hp' σ' r v) :
    Now E (s'.put d r) (a.put d v) W' hp' σ' := by
  have htm : ∀ n, Rel hp' σ' (find n s'.t) (a.tmps.getD n undef) := fun n => by
    rw [ht]
    exact Rel.mono hev.im hs _ _ (h.tmps n)
  cases d with
  | none => exact ⟨hr, htm, h.ev.trans hev, h.defers, h.nt, h.sg.trans hs⟩
  | some k =>
    refine ⟨hr, fun n => ?_, h.ev.trans hev, h.defers, (put_size _ _ _).trans h.nt, h.sg.trans hs⟩
    rw [tmps_put (by rw [h.nt]; exact hd k rfl)]
    show Rel hp' σ' (if k = n then r else find n s'.t) _
    split
    · exact hrel
    · exact htm n
theorem op_step (hc : CallOK C call) (hn : Now E s a W hp σ) (hd : ∀ k, o.dst = some k → k < E.nt) (h : opA C call o s fun r s' => K (s'.put o.dst r)) :
    Ends C.P o a W fun v W' => ∃ s' hp' σ', K s' ∧ Now E s' (a.put o.dst v) W' hp' σ' ∧ (grows C o = true → Grow W W') ∧ Ev ⟨hp, σ, W, 0⟩ hp' σ' W' ∧ SgLe σ σ' :=
  (opA_sound hc hn.heap (fun x => hn.get x) h).mono fun v W' ⟨r, s', hp', σ', h1, h2, h3, h4, h5, h6, h7⟩ => ⟨_, hp', σ', h1, hn.put hd h2 h3 h4 h5 h6, h7, h4, h5⟩
theorem guard_step (hn : Now E s a W hp σ) (hd : ∀ k, o.dst = some k → k < E.nt) (h : wpOpsA C call ops.toList (o :: rest) s K) :
    (Region.wanted o (yielded ops a.tmps) = true ∧ ∃ s1, Now E s1 a W hp σ ∧ opA C call o s1 fun r s' => wpOpsA C call ops.toList rest (s'.put o.dst r) K) ∨
    (Region.wanted o (yielded ops a.tmps) = false ∧ ∃ s1, Now E s1 (a.put o.dst undef) W hp σ ∧ wpOpsA C call ops.toList rest s1 K) := by
  have skip : ∀ s1 : St, Now E s1 a W hp σ → Now E (s1.put o.dst (.v (.tuple #[]))) (a.put o.dst undef) W hp σ := fun s1 h1 =>
    h1.put hd rfl h1.heap (Ev.refl _ _ _ _) (SgLe.refl _) (by simp [Rel, undef])
  unfold wpOpsA at h
  cases hg : o.guard with
  | none =>
    rw [hg] at h
    exact .inl ⟨by simp [Region.wanted, hg], s, hn, h⟩
  | some gw =>
    obtain ⟨j, want⟩ := gw
    rw [hg] at h
    simp only at h
    have hy : ∀ d, (ops[j]?).bind (·.dst) = some d → yielded ops a.tmps j = (match a.tmps[d]? with | some (.bool b) => some b | _ => none) := fun d he => by
      unfold yielded
      rw [he]
      rfl
    have hdd : (ops.toList[j]?).bind (·.dst) = (ops[j]?).bind (·.dst) := by rw [Array.getElem?_toList]
    rw [hdd] at h
    cases he : (ops[j]?).bind (·.dst) with
    | none => rw [he] at h; exact h.elim
    | some d =>
      rw [he] at h
      simp only [Option.map_some] at h
      have ht := hn.tmps d
      split at h
      · rename_i b hb
        simp only [Option.some.injEq] at hb
        rw [hb] at ht
        simp only [Rel] at ht
        have htd : a.tmps[d]? = some (.bool b) := by
          rw [Array.getD_eq_getD_getElem?] at ht
          cases hx : a.tmps[d]? with
          | none => rw [hx] at ht; simp [undef] at ht
          | some x => rw [hx] at ht; simp at ht; rw [ht]
        have hyj : yielded ops a.tmps j = some b := by rw [hy d he, htd]
        split at h
        · rename_i hbw
          subst hbw
          refine .inl ⟨by simp [Region.wanted, hg, hyj], _, hn.told (d := d) (x := .v (.bool b)) (by rw [ht]; simp [Rel]), h⟩
        · rename_i hbw
          have hbw' : b = !want := by cases b <;> cases want <;> simp at hbw ⊢
          refine .inr ⟨by simp [Region.wanted, hg, hyj, hbw], _, skip _ (hn.told (d := d) (x := .v (.bool !want)) (by rw [ht, hbw']; simp [Rel])), h⟩
      · rename_i cs hb
        simp only [Option.some.injEq] at hb
        rw [hb] at ht
        simp only [Rel] at ht
        have hyj : yielded ops a.tmps j = none := by
          rw [hy d he]
          rw [Array.getD_eq_getD_getElem?] at ht
          cases hx : a.tmps[d]? with
          | none => rfl
          | some x => rw [hx] at ht; simp at ht; rw [ht]
        exact .inr ⟨by simp [Region.wanted, hg, hyj], _, skip s hn, h⟩
      · exact h.elim
theorem list_sound (hc : CallOK C call) {Q : Exit → Act → World → Prop} (hQ : ∀ s' a' W' hp' σ', Now E s' a' W' hp' σ' → K s' → Q .normal a' W') : ∀ (l : List Oper) (s : St) (a : Act) (W : World) (hp : Im) (σ : Sg),
    (∀ o ∈ l, ∀ k, o.dst = some k → k < E.nt) → Now E s a W hp σ → wpOpsA C call ops.toList l s K → wpList C.P ops Q l a W
  | [], s, a, W, hp, σ, _, hn, h => hQ s a W hp σ hn h
  | o :: rest, s, a, W, hp, σ, hd, hn, h => by
    unfold wpList
    rcases guard_step hn (hd o (by simp)) h with ⟨hw, s1, h1, h2⟩ | ⟨hw, s1, h1, h2⟩
    · rw [if_pos hw]
      refine .inl ((op_step (K := fun s1 => wpOpsA C call ops.toList rest s1 K) hc h1 (hd o (by simp)) h2).wp fun v W' ⟨s', hp', σ', h3, h4, _⟩ => ?_)
      exact list_sound hc hQ rest s' _ W' hp' σ' (fun x hx => hd x (by simp [hx])) h4 h3
    · rw [if_neg (by rw [hw]; simp)]
      exact list_sound hc hQ rest s1 _ W hp σ (fun x hx => hd x (by simp [hx])) h1 h2
end
end Go.Ai

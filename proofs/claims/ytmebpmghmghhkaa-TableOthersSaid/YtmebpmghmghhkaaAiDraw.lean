/- Operations one after another, in the order of the text. -/
import Derived.Test.YtmebpmghmghhkaaAiStep
set_option linter.unusedVariables false
set_option linter.unusedSimpArgs false
namespace Go.Ai
section
variable {C : Cfg} {call : Callee} {E : Ent} {s : St} {a : Act} {W W' : World} {hp hp' : Im} {σ σ' : Sg} {ops : Array Oper} {o : Oper} {rest : List Oper} {K : St → Prop}
theorem tmps_put {a : Act} {d : Nat} {v : Value} (h : d < a.tmps.size) (n : Nat) : (a.put (some d) v).tmps.getD n undef = if d = n then v else a.tmps.getD n undef := by
  simp only [Act.put, Array.getD_eq_getD_getElem?, Array.getElem?_setIfInBounds]
  split
  · rename_i hn
    subst hn
    simp [h]
  · rfl
theorem put_size (a : Act) (d : Option Nat) (v : Value) : (a.put d v).tmps.size = a.tmps.size := by cases d <;> simp [Act.put]
theorem put_defers (a : Act) (d : Option Nat) (v : Value) : (a.put d v).defers = a.defers := by cases d <;> rfl
theorem Now.told {d : Nat} {x : AV} (h : Now E s a W hp σ) (hx : Rel hp σ x (a.tmps.getD d undef)) : Now E ⟨(d, x) :: s.t, s.H⟩ a W hp σ := by
  refine ⟨h.heap, fun n => ?_, h.ev, h.defers, h.nt, h.sg⟩
  show Rel hp σ (if d = n then x else find n s.t) _
  split
  · rename_i hn
    subst hn
    exact hx
  · exact h.tmps n
/-- A result goes into its slot. -/
theorem Now.put {d : Option Nat} {r : AV} {v : Value} {s' : St} (h : Now E s a W hp σ) (hd : ∀ k, d = some k → k < E.nt) (ht : s'.t = s.t) (hr : HeapRel hp' σ' s'.H W') (hev : Ev ⟨hp, σ, W, 0⟩ hp' σ' W') (hs : SgLe σ σ') (hrel : Rel hp' σ' r v) :
    Now E (s'.put d r) (a.put d v) W' hp' σ' := by
  have htm : ∀ n, Rel hp' σ' (find n s'.t) (a.tmps.getD n undef) := fun n => by
    rw [ht]
    exact Rel.mono hev.im hs _ _ (h.tmps n)
  cases d with
  | none => exact ⟨hr, htm, h.ev.trans hev, h.defers, h.nt, h.sg.trans hs⟩
  | some k =>
    refine ⟨hr, fun n => ?_, h.ev.trans hev, h.defers, (put_size _ _ _).trans h.nt, h.sg.trans hs⟩
    rw [tmps_put (by rw [h.nt]; exact hd k rfl)]
    show Rel hp' σ' (if k = n then r else find n s'.t) _
    split
    · exact hrel
    · exact htm n
theorem op_step (hc : CallOK C call) (hn : Now E s a W hp σ) (hd : ∀ k, o.dst = some k → k < E.nt) (h : opA C call o s fun r s' => K (s'.put o.dst r)) :
    Ends C.P o a W fun v W' => ∃ s' hp' σ', K s' ∧ Now E s' (a.put o.dst v) W' hp' σ' ∧ (grows C o = true → Grow W W') ∧ Ev ⟨hp, σ, W, 0⟩ hp' σ' W' ∧ SgLe σ σ' :=
  (opA_sound hc hn.heap (fun x => hn.get x) h).mono fun v W' ⟨r, s', hp', σ', h1, h2, h3, h4, h5, h6, h7⟩ => ⟨_, hp', σ', h1, hn.put hd h2 h3 h4 h5 h6, h7, h4, h5⟩
theorem guard_step (hn : Now E s a W hp σ) (hd : ∀ k, o.dst = some k → k < E.nt) (h : wpOpsA C call ops.toList (o :: rest) s K) :
    (Region.wanted o (yielded ops a.tmps) = true ∧ ∃ s1, Now E s1 a W hp σ ∧ opA C call o s1 fun r s' => wpOpsA C call ops.toList rest (s'.put o.dst r) K) ∨
    (Region.wanted o (yielded ops a.tmps) = false ∧ ∃ s1, Now E s1 (a.put o.dst undef) W hp σ ∧ wpOpsA C call ops.toList rest s1 K) := by
  have skip : ∀ s1 : St, Now E s1 a W hp σ → Now E (s1.put o.dst (.v (.tuple #[]))) (a.put o.dst undef) W hp σ := fun s1 h1 =>
    h1.put hd rfl h1.heap (Ev.refl _ _ _ _) (SgLe.refl _) (by simp [Rel, undef])
  unfold wpOpsA at h
  cases hg : o.guard with
  | none =>
    rw [hg] at h
    exact .inl ⟨by simp [Region.wanted, hg], s, hn, h⟩
  | some gw =>
    obtain ⟨j, want⟩ := gw
    rw [hg] at h
    simp only at h
    have hy : ∀ d, (ops[j]?).bind (·.dst) = some d → yielded ops a.tmps j = (match a.tmps[d]? with | some (.bool b) => some b | _ => none) := fun d he => by
      unfold yielded
      rw [he]
      rfl
    have hdd : (ops.toList[j]?).bind (·.dst) = (ops[j]?).bind (·.dst) := by rw [Array.getElem?_toList]
    rw [hdd] at h
    cases he : (ops[j]?).bind (·.dst) with
    | none => rw [he] at h; exact h.elim
    | some d =>
      rw [he] at h
      simp only [Option.map_some] at h
      have ht := hn.tmps d
      split at h
      · rename_i b hb
        simp only [Option.some.injEq] at hb
        rw [hb] at ht
        simp only [Rel] at ht
        have htd : a.tmps[d]? = some (.bool b) := by
          rw [Array.getD_eq_getD_getElem?] at ht
          cases hx : a.tmps[d]? with
          | none => rw [hx] at ht; simp [undef] at ht
          | some x => rw [hx] at ht; simp at ht; rw [ht]
        have hyj : yielded ops a.tmps j = some b := by rw [hy d he, htd]
        split at h
        · rename_i hbw
          subst hbw
          refine .inl ⟨by simp [Region.wanted, hg, hyj], _, hn.told (d := d) (x := .v (.bool b)) (by rw [ht]; simp [Rel]), h⟩
        · rename_i hbw
          have hbw' : b = !want := by cases b <;> cases want <;> simp at hbw ⊢
          refine .inr ⟨by simp [Region.wanted, hg, hyj, hbw], _, skip _ (hn.told (d := d) (x := .v (.bool !want)) (by rw [ht, hbw']; simp [Rel])), h⟩
      · rename_i cs hb
        simp only [Option.some.injEq] at hb
        rw [hb] at ht
        simp only [Rel] at ht
        have hyj : yielded ops a.tmps j = none := by
          rw [hy d he]
          rw [Array.getD_eq_getD_getElem?] at ht
          cases hx : a.tmps[d]? with
          | none => rfl
          | some x => rw [hx] at ht; simp at ht; rw [ht]
        exact .inr ⟨by simp [Region.wanted, hg, hyj], _, skip s hn, h⟩
      · exact h.elim
theorem list_sound (hc : CallOK C call) {Q : Exit → Act → World → Prop} (hQ : ∀ s' a' W' hp' σ', Now E s' a' W' hp' σ' → K s' → Q .normal a' W') : ∀ (l : List Oper) (s : St) (a : Act) (W : World) (hp : Im) (σ : Sg),
    (∀ o ∈ l, ∀ k, o.dst = some k → k < E.nt) → Now E s a W hp σ → wpOpsA C call ops.toList l s K → wpList C.P ops Q l a W
  | [], s, a, W, hp, σ, _, hn, h => hQ s a W hp σ hn h
  | o :: rest, s, a, W, hp, σ, hd, hn, h => by
    unfold wpList
    rcases guard_step hn (hd o (by simp)) h with ⟨hw, s1, h1, h2⟩ | ⟨hw, s1, h1, h2⟩
    · rw [if_pos hw]
      refine .inl ((op_step (K := fun s1 => wpOpsA C call ops.toList rest s1 K) hc h1 (hd o (by simp)) h2).wp fun v W' ⟨s', hp', σ', h3, h4, _⟩ => ?_)
      exact list_sound hc hQ rest s' _ W' hp' σ' (fun x hx => hd x (by simp [hx])) h4 h3
    · rw [if_neg (by rw [hw]; simp)]
      exact list_sound hc hQ rest s1 _ W hp σ (fun x hx => hd x (by simp [hx])) h1 h2
end
end Go.Ai
set_option linter.unusedVariables false
set_option linter.unusedSimpArgs false
namespace Go.Ai
section
variable {C : Cfg} {call : Callee} {E : Ent} {s : St} {a : Act} {W W' : World} {hp hp' : Im} {σ σ' : Sg} {ops : Array Oper}
theorem dsts_of {id : Nat} {ops : Array Oper} {d : Bool} {n : Nat} (h : dstsOk n (.region id ops d) = true) : ∀ o ∈ ops.toList, ∀ k, o.dst = some k → k < n := by
  intro o ho k hk
  have h1 : (ops.toList.all fun o => match o.dst with
    | none => true
    | some d => decide (d < n)) = true := by cases d <;> exact h
  have := List.all_eq_true.1 h1 o ho
  rw [hk] at this
  simpa using this
/-- One operation of a region, told with what it leaves standing. -/
def opT (C : Cfg) (ops : Array Oper) (i : Nat) (K : Act → World → Prop) (a : Act) (W : World) : Prop :=
  match ops[i]? with
  | none => K a W
  | some o => (Region.wanted o (yielded ops a.tmps) = true ∧ Ends C.P o a W fun v W' => K (a.put o.dst v) W' ∧ (grows C o = true → Grow W W')) ∨ (Region.wanted o (yielded ops a.tmps) = false ∧ K (a.put o.dst undef) W)
def anyT (C : Cfg) (ops : Array Oper) (R : Act → World → Prop) : Nat → Array Bool → Act → World → Prop
  | 0, listed, a, w => Region.ready .any ops listed = [] ∧ R a w
  | fuel + 1, listed, a, w => (Region.ready .any ops listed = [] → R a w) ∧ ∀ i ∈ Region.ready .any ops listed, opT C ops i (anyT C ops R fuel (listed.setIfInBounds i true)) a w
theorem opT_mono {i : Nat} {K K' : Act → World → Prop} (h : ∀ a w, K a w → K' a w) (hh : opT C ops i K a W) : opT C ops i K' a W := by
  unfold opT at *
  split
  · rename_i he
    rw [he] at hh
    exact h _ _ hh
  · rename_i o he
    rw [he] at hh
    rcases hh with ⟨h1, h2⟩ | ⟨h1, h2⟩
    · exact .inl ⟨h1, h2.mono fun v W' hk => ⟨h _ _ hk.1, hk.2⟩⟩
    · exact .inr ⟨h1, h _ _ h2⟩
theorem opT_wp {i : Nat} {K : Act → World → Prop} {Q : Exit → Act → World → Prop} (hh : opT C ops i K a W) : wpOp C.P ops Q i K a W := by
  unfold opT at hh
  unfold wpOp
  split
  · rename_i he
    rw [he] at hh
    exact hh
  · rename_i o he
    rw [he] at hh
    rcases hh with ⟨h1, h2⟩ | ⟨h1, h2⟩
    · rw [if_pos h1]
      exact .inl (h2.wp fun v W' hk => hk.1)
    · rw [if_neg (by rw [h1]; simp)]
      exact h2
theorem anyT_wp {R : Act → World → Prop} {Q : Exit → Act → World → Prop} (hR : ∀ a w, R a w → Q .normal a w) : ∀ (fuel : Nat) (listed : Array Bool) (a : Act) (W : World), anyT C ops R fuel listed a W → wpAny C.P .any ops Q fuel listed a W
  | 0, listed, a, W, h => ⟨h.1, hR _ _ h.2⟩
  | fuel + 1, listed, a, W, h => ⟨fun h0 => hR _ _ (h.1 h0), fun i hi => opT_wp (opT_mono (fun a w hk => anyT_wp hR fuel _ a w hk) (h.2 i hi))⟩
/-- An operation's value is settled. -/
def Yl (C : Cfg) (ops : Array Oper) (o : Oper) (v : Value) (a : Act) (W : World) : Prop :=
  (Region.wanted o (yielded ops a.tmps) = true ∧ ∀ w, (isF0 o = true ∨ Grow W w) → (execOp a.eval o).run C.P w = .ok (.value v) w) ∨ (Region.wanted o (yielded ops a.tmps) = false ∧ v = undef)
theorem Yl.opT {i : Nat} {o : Oper} {v : Value} {K : Act → World → Prop} (hi : ops[i]? = some o) (hy : Yl C ops o v a W) (h : K (a.put o.dst v) W) : opT C ops i K a W := by
  unfold Ai.opT
  rw [hi]
  rcases hy with ⟨h1, h2⟩ | ⟨h1, rfl⟩
  · exact .inl ⟨h1, .value v W (h2 W (.inr (Grow.refl W))) ⟨h, fun _ => Grow.refl W⟩⟩
  · exact .inr ⟨h1, h⟩
theorem Yl.same {o : Oper} {v : Value} {a' : Act} (hy : Yl C ops o v a W) (he : execOp a'.eval o = execOp a.eval o) (hw : Region.wanted o (yielded ops a'.tmps) = Region.wanted o (yielded ops a.tmps)) (hg : isF0 o = true ∨ Grow W W') : Yl C ops o v a' W' := by
  unfold Yl at *
  rw [he, hw]
  refine hy.imp_left fun ⟨h1, h2⟩ => ⟨h1, fun w hw => h2 w ?_⟩
  rcases hg with hg | hg
  · exact .inl hg
  · exact hw.imp_right fun h => hg.trans h
theorem Ends.same {o : Oper} {a' : Act} {K : Value → World → Prop} (he : execOp a'.eval o = execOp a.eval o) (h : Ends C.P o a W K) : Ends C.P o a' W K := by
  cases h with
  | value v W' h1 h2 => exact .value v W' (by rw [he]; exact h1) h2
  | skip W' h1 h2 => exact .skip W' (by rw [he]; exact h1) h2
  | enter f args W' h1 h2 => exact .enter f args W' (by rw [he]; exact h1) h2
theorem opT_put {j : Nat} {oi oj : Oper} {v : Value} (hj : ops[j]? = some oj) (hap : oi.apart ops oj = true) (hsi : ∀ cs b, oi.op ≠ .select cs b) (hsj : ∀ cs b, oj.op ≠ .select cs b) (hgr : isF0 oi = true ∨ grows C oj = true)
    {K : Act → World → Prop} (hy : Yl C ops oi v a W) (h : opT C ops j K (a.put oi.dst v) W) : opT C ops j (fun a' w' => Yl C ops oi v a' w' ∧ K (a'.put oi.dst v) w') a W := by
  obtain ⟨h1, h2, h3⟩ := Oper.apart_spec hap
  unfold opT at *
  rw [hj] at h ⊢
  simp only at h ⊢
  rw [wanted_put oj a oi.dst v h1] at h
  have keep : ∀ u W', (isF0 oi = true ∨ Grow W W') → Yl C ops oi v (a.put oj.dst u) W' := fun u W' hg => hy.same (execOp_put oi hsi a oj.dst u h3) (wanted_put oi a oj.dst u h3) hg
  rcases h with ⟨hw, he⟩ | ⟨hw, hk⟩
  · refine .inl ⟨hw, (he.same (execOp_put oj hsj a oi.dst v h1).symm).mono fun u W' ⟨hk, hg⟩ => ⟨⟨keep u W' (hgr.imp_right hg), ?_⟩, hg⟩⟩
    rw [← Act.put_comm a v u h2]
    exact hk
  · refine .inr ⟨hw, keep undef W (.inr (Grow.refl W)), ?_⟩
    rw [← Act.put_comm a v undef h2]
    exact hk
/-- What waits for `i`, be it by way of others. -/
def Beh (ops : Array Oper) (i : Nat) (done : List Nat) (j : Nat) : Prop := ∃ n, waitsT ops i done n j = true
theorem beh_step {i j : Nat} {done : List Nat} (h : Beh ops i done j) : ∃ oj e, ops[j]? = some oj ∧ has j done = false ∧ isY oj = false ∧ e ∈ oj.after ∧ Region.binds .any e = true ∧ (e.on = i ∨ Beh ops i done e.on) := by
  obtain ⟨n, h⟩ := h
  cases n with
  | zero => simp [waitsT] at h
  | succ n =>
    unfold waitsT at h
    cases hj : ops[j]? with
    | none => rw [hj] at h; simp at h
    | some oj =>
      rw [hj] at h
      simp only [Bool.and_eq_true, Bool.not_eq_true'] at h
      obtain ⟨⟨h1, h2⟩, h3⟩ := h
      obtain ⟨e, he, hb⟩ := Array.any_eq_true'.1 h3
      simp only [Bool.and_eq_true, Bool.or_eq_true, beq_iff_eq] at hb
      exact ⟨oj, e, rfl, h1, h2, he, hb.1, hb.2.imp id fun h => ⟨n, h⟩⟩
theorem firstT {R : Act → World → Prop} {i : Nat} {done : List Nat} {oi : Oper} {v : Value} (hi : ops[i]? = some oi) (hsel : ∀ (j : Nat) (o : Oper) cs b, ops[j]? = some o → o.op ≠ .select cs b) :
    ∀ (fuel : Nat) (listed : Array Bool) (a : Act) (W : World),
      (∀ j oj, ops[j]? = some oj → j ≠ i → listed.getD j true = false → (∀ e ∈ oj.after, Region.binds .any e = true → e.on ≠ i) → ¬ Beh ops i done j → oi.apart ops oj = true ∧ (isF0 oi = true ∨ grows C oj = true)) →
      (∀ k, Beh ops i done k → listed.getD k true = false) →
      i ∈ Region.ready .any ops listed → Yl C ops oi v a W →
      anyT C ops R fuel (listed.setIfInBounds i true) (a.put oi.dst v) W → anyT C ops R (fuel + 1) listed a W := by
  intro fuel
  induction fuel with
  | zero =>
    intro listed a W _ _ hr hy H
    refine ⟨fun h => (by rw [h] at hr; cases hr), fun j hj => ?_⟩
    by_cases hji : j = i
    · subst hji; exact hy.opT hi H
    · have := ready_mono hj hji
      rw [H.1] at this
      cases this
  | succ fuel ih =>
    intro listed a W hfree hbeh hr hy H
    refine ⟨fun h => (by rw [h] at hr; cases hr), fun j hj => ?_⟩
    by_cases hji : j = i
    · subst hji; exact hy.opT hi H
    · have h1 := H.2 j (ready_mono hj hji)
      obtain ⟨hjun, oj, hoj, hall⟩ := mem_ready.1 hj
      have hnot : ∀ e ∈ oj.after, Region.binds .any e = true → e.on ≠ i := fun e he hb heq => by
        have h1 := hall e he hb
        have h0 := (mem_ready.1 hr).1
        rw [heq] at h1
        rcases Nat.lt_or_ge i listed.size with h' | h'
        · simp [h'] at h0 h1; rw [h0] at h1; cases h1
        · simp [Array.getElem?_eq_none h'] at h1
      have hnb : ¬ Beh ops i done j := fun hb => by
        obtain ⟨oj', e, ho', _, _, he, heb, hor⟩ := beh_step hb
        rw [hoj] at ho'
        simp only [Option.some.injEq] at ho'
        subst ho'
        rcases hor with h0 | h0
        · exact hnot e he heb h0
        · have h3 := hbeh _ h0
          have h4 := hall e he heb
          rw [Array.getD_eq_getD_getElem?] at h3
          rcases Nat.lt_or_ge e.on listed.size with h' | h'
          · simp [h'] at h3 h4; rw [h3] at h4; cases h4
          · simp [Array.getElem?_eq_none h'] at h3
      obtain ⟨hap, hgr⟩ := hfree j oj hoj hji hjun hnot hnb
      have h2 := opT_put hoj hap (fun cs b => hsel i oi cs b hi) (fun cs b => hsel j oj cs b hoj) hgr hy h1
      have hfree' : ∀ k ok, ops[k]? = some ok → k ≠ i → (listed.setIfInBounds j true).getD k true = false →
          (∀ e ∈ ok.after, Region.binds .any e = true → e.on ≠ i) → ¬ Beh ops i done k → oi.apart ops ok = true ∧ (isF0 oi = true ∨ grows C ok = true) := fun k ok hk hki hun hno hnb => by
        refine hfree k ok hk hki ?_ hno hnb
        by_cases hjk : j = k
        · subst hjk; exact hjun
        · rw [getD_set_ne true hjk] at hun; exact hun
      have hbeh' : ∀ k, Beh ops i done k → (listed.setIfInBounds j true).getD k true = false := fun k hk => by
        have hne : j ≠ k := fun he => hnb (by rw [he]; exact hk)
        rw [getD_set_ne true hne]
        exact hbeh k hk
      refine opT_mono (fun a' w' h3 => ih (listed.setIfInBounds j true) a' w' hfree' hbeh' (ready_mono hr (Ne.symm hji)) h3.1 ?_) h2
      rw [Array.setIfInBounds_comm _ _ hji]
      exact h3.2
/-! ### What is listed -/
def Lst (ops : Array Oper) (listed : Array Bool) (X : List Nat) : Prop := listed.size = ops.size ∧ (∀ x ∈ X, x < ops.size) ∧ ∀ j, j < ops.size → (listed[j]? = some (has j X))
theorem Lst.put {listed : Array Bool} {X : List Nat} {i : Nat} (h : Lst ops listed X) (hi : i < ops.size) : Lst ops (listed.setIfInBounds i true) (i :: X) := by
  refine ⟨by simpa using h.1, fun x hx => ?_, fun j hj => ?_⟩
  · rcases List.mem_cons.1 hx with rfl | hx
    · exact hi
    · exact h.2.1 x hx
  · rw [Array.getElem?_setIfInBounds]
    unfold has
    split
    · simp [h.1, hi]
    · exact h.2.2 j hj
theorem Lst.same {listed : Array Bool} {X Y : List Nat} (h : Lst ops listed X) (hxy : ∀ x, x ∈ X ↔ x ∈ Y) : Lst ops listed Y := by
  refine ⟨h.1, fun x hx => h.2.1 x ((hxy x).2 hx), fun j hj => ?_⟩
  rw [h.2.2 j hj]
  congr 1
  rw [Bool.eq_iff_iff, has_iff, has_iff]
  exact hxy j
theorem ready_iff {listed : Array Bool} {X : List Nat} (h : Lst ops listed X) {j : Nat} {o : Oper} (ho : ops[j]? = some o) : j ∈ Region.ready .any ops listed ↔ readyB o j X = true := by
  have hj := (Array.getElem?_eq_some_iff.1 ho).1
  have hg : ∀ (k : Nat) (d : Bool), k < ops.size → listed.getD k d = has k X := fun k d hk => by
    rw [Array.getD_eq_getD_getElem?, h.2.2 k hk]
    rfl
  rw [mem_ready]
  unfold readyB
  simp only [Bool.and_eq_true, Bool.not_eq_true', Array.all_eq_true_iff_forall_mem, Bool.or_eq_true]
  constructor
  · rintro ⟨h1, o', ho', h2⟩
    rw [ho] at ho'
    simp only [Option.some.injEq] at ho'
    subst ho'
    refine ⟨by rw [← hg j true hj]; exact h1, fun e he => ?_⟩
    cases hb : Region.binds .any e
    · exact .inl rfl
    · refine .inr ?_
      have h3 := h2 e he hb
      rcases Nat.lt_or_ge e.on ops.size with h4 | h4
      · rw [← hg e.on false h4]; exact h3
      · simp [Array.getD_eq_getD_getElem?, Array.getElem?_eq_none (show listed.size ≤ e.on by rw [h.1]; exact h4)] at h3
  · rintro ⟨h1, h2⟩
    refine ⟨by rw [hg j true hj]; exact h1, o, ho, fun e he hb => ?_⟩
    have h3 := (h2 e he).resolve_left (by rw [hb]; simp)
    have h4 := h.2.1 e.on (has_iff.1 h3)
    rw [hg e.on false h4]
    exact h3
theorem ready_some {listed : Array Bool} {j : Nat} (h : j ∈ Region.ready .any ops listed) : ∃ o, ops[j]? = some o := by
  obtain ⟨_, o, ho, _⟩ := mem_ready.1 h
  exact ⟨o, ho⟩
/-! ### All orders -/
/-- A new variable that came ahead of its turn. -/
structure Early (E : Ent) (k : Nat) (us : List Value) (e : TypeId) (W : World) (hp : Im) (σ : Sg) : Prop where
  heap : W.heap[k]? = some (.cells us.toArray e (0, 0))
  im : hp k = none
  free : ∀ id v, σ id = some v → bn v ≠ some k
  new : E.W.heap.size ≤ k
theorem Early.step {k : Nat} {us : List Value} {e : TypeId} (h : Early E k us e W hp σ) (hev : Ev ⟨hp, σ, W, 0⟩ hp' σ' W') : Early E k us e W' hp' σ' := by
  have hk := (Array.getElem?_eq_some_iff.1 h.heap).1
  have hno : ¬ (⟨hp, σ, W, 0⟩ : Ent).owns k := fun ⟨id, v, h1, h2⟩ => h.free id v h1 h2
  refine ⟨by rw [hev.keep k hk hno]; exact h.heap, ?_, fun id v h1 h2 => ?_, h.new⟩
  · cases hh : hp' k with
    | none => rfl
    | some o =>
      rcases hev.imNew k o hh with h3 | h3 | h3
      · have := h.im
        simp only at h3
        rw [this] at h3
        simp at h3
      · simp only at h3
        omega
      · exact absurd h3 hno
  · rcases hev.sgNew id v k h1 h2 with h3 | h3
    · simp only at h3
      omega
    · exact absurd h3 hno

theorem Now.world (h : Now E s a W hp σ) (hs : W.heap.size ≤ W'.heap.size) (hk : ∀ k, k < W.heap.size → W'.heap[k]? = W.heap[k]?) (ht : W'.tape = W.tape) (ho : W'.os = W.os) (hout : W'.output = W.output) : Now E s a W' hp σ :=
  ⟨h.heap.stays hs hk, h.tmps, h.ev.trans (n := 0) ⟨hs, ht, ho, hout, ImLe.refl _, fun k hk' _ => hk k hk', fun _ _ h => .inl h, fun i v k h1 h2 => .inr ⟨i, v, h1, h2⟩⟩, h.defers, h.nt, h.sg⟩
theorem f_step {o : Oper} {rest : List Oper} {K : St → Prop} (hf : (isF0 o || isF1 o) = true) (hn : Now E s a W hp σ) (hd : ∀ k, o.dst = some k → k < E.nt) (h : wpOpsA C call ops.toList (o :: rest) s K) :
    ∃ v s', Yl C ops o v a W ∧ Now E s' (a.put o.dst v) W hp σ ∧ wpOpsA C call ops.toList rest s' K := by
  rcases guard_step hn hd h with ⟨hw, s1, h1, h2⟩ | ⟨hw, s1, h1, h2⟩
  · by_cases h0 : isF0 o = true
    · obtain ⟨v, r, h3, h4, h5⟩ := opF0_sound (hp := hp) (σ := σ) h0 h1.heap (fun x => h1.get x) h2
      exact ⟨v, _, .inl ⟨hw, fun w _ => h3 w⟩, h1.put hd rfl h1.heap (Ev.refl _ _ _ _) (SgLe.refl _) h5, h4⟩
    · have hf1 : isF1 o = true := by simpa [h0] using hf
      obtain ⟨v, r, h3, h4, h5⟩ := opF1_sound (hp := hp) (σ := σ) (W := W) hf1 h1.heap (fun x => h1.get x) h2
      refine ⟨v, _, .inl ⟨hw, fun w hg => h3 w (hg.resolve_left h0)⟩, h1.put hd rfl h1.heap (Ev.refl _ _ _ _) (SgLe.refl _) h5, h4⟩
  · exact ⟨undef, s1, .inr ⟨hw, rfl⟩, h1, h2⟩
/-- What is known of the one new variable. -/
structure VarY (C : Cfg) (ops : Array Oper) (ys : List Nat) (y : Nat) (oy : Oper) (e : TypeId) (d : Nat) (us : List Value) (z : Value) (ti : TypeInfo) : Prop where
  ys : ys = [y]
  o : ops[y]? = some oy
  op : oy.op = .alloc e
  dst : oy.dst = some d
  guard : oy.guard = none
  info : C.P.info? e = some ti
  zero : ti.zero = some z
  cells : z.cells = us.toArray
  zc : zeroC C.P e = some (us.map .v)
  rel : ∀ hp σ, RelL hp σ (us.map .v) us
  ok : ∀ j oj, ops[j]? = some oj → j ≠ y → waitsFor oj y = true ∨ (Oper.apart ops oy oj = true ∧ Oper.apart ops oj oy = true)
theorem VarY.notF {ys : List Nat} {y : Nat} {oy : Oper} {e : TypeId} {d : Nat} {us : List Value} {z : Value} {ti : TypeInfo} (h : VarY C ops ys y oy e d us z ti) : (isF0 oy || isF1 oy) = false := by
  obtain ⟨dst, op, ty, pos, af, g⟩ := oy
  have := h.op
  simp only at this
  subst this
  rfl
theorem has_false {n : Nat} {l : List Nat} : has n l = false ↔ n ∉ l := by
  rw [← has_iff]
  simp
theorem readyB_mem {o : Oper} {j : Nat} {X : List Nat} (h : readyB o j X = true) : j ∉ X ∧ ∀ e ∈ o.after, Region.binds .any e = true → e.on ∈ X := by
  unfold readyB at h
  simp only [Bool.and_eq_true, Bool.not_eq_true', Array.all_eq_true_iff_forall_mem, Bool.or_eq_true] at h
  exact ⟨has_false.1 h.1, fun e he hb => has_iff.1 ((h.2 e he).resolve_left (by rw [hb]; simp))⟩
theorem waits_mem {o : Oper} {j y : Nat} {X : List Nat} (h : readyB o j X = true) (hw : waitsFor o y = true) : y ∈ X := by
  unfold waitsFor at hw
  obtain ⟨e, he, hb⟩ := Array.any_eq_true'.1 hw
  simp only [Bool.and_eq_true, beq_iff_eq] at hb
  rw [← hb.2]
  exact (readyB_mem h).2 e he hb.1
theorem others_mem {i y : Nat} : ∀ {ys : List Nat}, y ∈ others i ys ↔ y ∈ ys ∧ y ≠ i
  | [] => by simp [others]
  | x :: r => by
    unfold others
    split
    · rename_i h
      rw [others_mem (ys := r)]
      constructor
      · rintro ⟨h1, h2⟩; exact ⟨List.mem_cons_of_mem _ h1, h2⟩
      · rintro ⟨h1, h2⟩
        rcases List.mem_cons.1 h1 with rfl | h1
        · exact absurd h h2
        · exact ⟨h1, h2⟩
    · rename_i h
      rw [List.mem_cons, others_mem (ys := r)]
      constructor
      · rintro (rfl | ⟨h1, h2⟩)
        · exact ⟨List.mem_cons_self .., h⟩
        · exact ⟨List.mem_cons_of_mem _ h1, h2⟩
      · rintro ⟨h1, h2⟩
        rcases List.mem_cons.1 h1 with rfl | h1
        · exact .inl rfl
        · exact .inr ⟨h1, h2⟩
theorem alone_out {i j : Nat} {L X : List Nat} {oj : Oper} (h : aloneOk ops i L = true) (hj : ops[j]? = some oj) (hji : j ≠ i) (hX : ∀ x ∈ X, x ∈ L) (hr : readyB oj j X = true) : isY oj = true ∨ j ∈ L := by
  unfold aloneOk at h
  have h1 := List.all_eq_true.1 h j (List.mem_range.2 (Array.getElem?_eq_some_iff.1 hj).1)
  simp only [hj, Bool.or_eq_true, beq_iff_eq, hji, false_or, Bool.not_eq_true'] at h1
  rcases h1 with h1 | h1
  · exact .inl h1
  · by_cases hm : j ∈ L
    · exact .inr hm
    · have h2 : readyB oj j L = true := by
        obtain ⟨_, h3⟩ := readyB_mem hr
        unfold readyB
        simp only [Bool.and_eq_true, Bool.not_eq_true', Array.all_eq_true_iff_forall_mem, Bool.or_eq_true]
        refine ⟨has_false.2 hm, fun e he => ?_⟩
        cases hb : Region.binds .any e
        · exact .inl rfl
        · exact .inr (has_iff.2 (hX _ (h3 e he hb)))
      rw [h2] at h1
      simp at h1
theorem rest_out {i : Nat} {done : List Nat} {oi : Oper} (h : restOk C ops oi i done = true) (j : Nat) (oj : Oper) (hj : ops[j]? = some oj) (hji : j ≠ i) (hd : j ∉ done) (hno : ∀ e ∈ oj.after, Region.binds .any e = true → e.on ≠ i) (hnb : ¬ Beh ops i done j) :
    oi.apart ops oj = true ∧ (isF0 oi = true ∨ grows C oj = true) := by
  unfold restOk at h
  have h1 := List.all_eq_true.1 h j (List.mem_range.2 (Array.getElem?_eq_some_iff.1 hj).1)
  simp only [hj, Bool.or_eq_true, beq_iff_eq, hji, or_false, has_false.2 hd, Bool.false_eq_true, false_or, Bool.and_eq_true] at h1
  rcases h1 with (h1 | ⟨h1, h2⟩) | h1
  rotate_left 2
  · exact absurd ⟨6, h1⟩ hnb
  · unfold waitsFor at h1
    obtain ⟨e, he, hb⟩ := Array.any_eq_true'.1 h1
    simp only [Bool.and_eq_true, beq_iff_eq] at hb
    exact absurd hb.2 (hno e he hb.1)
  · refine ⟨h1, ?_⟩
    unfold grows
    simp only [Bool.or_eq_true]
    rcases h2 with ((h2 | h2) | h2) | h2
    · exact .inl h2
    · exact .inr (.inl (.inl h2))
    · exact .inr (.inl (.inr h2))
    · exact .inr (.inr h2)
theorem beh_un {listed : Array Bool} {X done : List Nat} {i k : Nat} (hl : Lst ops listed X) (hX : ∀ x ∈ X, x ∈ done ∨ ∃ ox, ops[x]? = some ox ∧ isY ox = true) (hb : Beh ops i done k) : listed.getD k true = false := by
  obtain ⟨ok, e, ho, hd, hy, _⟩ := beh_step hb
  rw [Array.getD_eq_getD_getElem?, hl.2.2 k (Array.getElem?_eq_some_iff.1 ho).1]
  simp only [Option.getD_some]
  refine has_false.2 fun hk => ?_
  rcases hX k hk with h | ⟨ox, h1, h2⟩
  · exact has_false.1 hd h
  · rw [ho] at h1
    simp only [Option.some.injEq] at h1
    subst h1
    rw [hy] at h2
    cases h2
theorem draw_run (hc : CallOK C call) {K : St → Prop} {R : Act → World → Prop} (hsel : ∀ (j : Nat) (o : Oper) cs b, ops[j]? = some o → o.op ≠ .select cs b) (hR : ∀ s' a' W' hp' σ', Now E s' a' W' hp' σ' → K s' → R a' W')
    (hd : ∀ o ∈ ops.toList, ∀ k, o.dst = some k → k < E.nt) (ys : List Nat) (hY : ∀ j oj, ops[j]? = some oj → isY oj = true → ys = [j]) (hYV : ∀ y, y ∈ ys → ∃ oy e d us z ti, VarY C ops ys y oy e d us z ti) :
    ∀ (l done : List Nat), orderOk C ops ys done l = true → (∀ x ∈ done, x < ops.size) → (∀ y, y ∈ ys → y ∈ done ∨ y ∈ l) →
      (∀ (s : St) (a : Act) (W : World) (hp : Im) (σ : Sg) y oy e d us z ti, VarY C ops ys y oy e d us z ti → y ∉ done → y ∈ l → Now E s a W hp σ → wpOpsA C call ops.toList (pickOps ops.toList l) s K → ∀ k, Early E k us e W hp σ →
        ∀ listed, Lst ops listed (y :: done) → anyT C ops R (l.length - 1) listed (a.put (some d) (.pointer (some ⟨k, 0, none⟩))) W) ∧
      (∀ (s : St) (a : Act) (W : World) (hp : Im) (σ : Sg), Now E s a W hp σ → wpOpsA C call ops.toList (pickOps ops.toList l) s K → ∀ listed, Lst ops listed done → anyT C ops R l.length listed a W)
  | [], done, ho, hlt, hyd => by
    refine ⟨fun s a W hp σ y oy e d us z ti _ _ hy => by simp at hy, fun s a W hp σ hn h listed hl => ⟨?_, hR s a W hp σ hn h⟩⟩
    refine List.eq_nil_iff_forall_not_mem.2 fun j hj => ?_
    obtain ⟨oj, hoj⟩ := ready_some hj
    obtain ⟨h1, _⟩ := readyB_mem ((ready_iff hl hoj).1 hj)
    unfold orderOk at ho
    have := List.all_eq_true.1 ho j (List.mem_range.2 (Array.getElem?_eq_some_iff.1 hoj).1)
    exact h1 (has_iff.1 this)
  | i :: r, done, ho, hlt, hyd => by
    unfold orderOk at ho
    cases hi : ops[i]? with
    | none => rw [hi] at ho; simp at ho
    | some oi =>
      rw [hi] at ho
      simp only [Bool.and_eq_true] at ho
      obtain ⟨⟨hready, hkind⟩, hrest⟩ := ho
      have hil : i < ops.size := (Array.getElem?_eq_some_iff.1 hi).1
      have hidst : ∀ k, oi.dst = some k → k < E.nt := hd oi (Array.mem_toList_iff.2 (Array.mem_of_getElem? hi))
      have hpick : pickOps ops.toList (i :: r) = oi :: pickOps ops.toList r := by
        simp [pickOps, hi]
      obtain ⟨hnd, hafter⟩ := readyB_mem hready
      obtain ⟨ihB, ihA⟩ := draw_run hc hsel hR hd ys hY hYV r (i :: done) hrest (fun x hx => by rcases List.mem_cons.1 hx with rfl | hx <;> first | exact hil | exact hlt x hx) (fun y hy => by
        rcases hyd y hy with h1 | h1
        · exact .inl (by simp [h1])
        · rcases List.mem_cons.1 h1 with rfl | h1
          · exact .inl (by simp)
          · exact .inr h1)
      rw [hpick]
      -- what stands beside an early variable
      have hside : ∀ {y oy e d us z ti}, VarY C ops ys y oy e d us z ti → y ∉ done → i ≠ y → (∀ k, oi.dst = some k → k ≠ d) ∧ d ∉ oi.looksAt ops := fun {y oy e d us z ti} hv hyn hiy => by
        rcases hv.ok i oi hi hiy with h1 | ⟨h1, h2⟩
        · exact absurd (waits_mem hready h1) hyn
        · obtain ⟨h3, h4, _⟩ := Oper.apart_spec h1
          refine ⟨fun k hk he => h4 d hv.dst (by rw [hk, he]), h3 d hv.dst⟩
      have hreadyI : ∀ {listed}, Lst ops listed done → i ∈ Region.ready .any ops listed := fun {listed} hl => (ready_iff hl hi).2 hready
      have hreadyY : ∀ {listed y}, i ≠ y → Lst ops listed (y :: done) → i ∈ Region.ready .any ops listed := fun {listed y} hiy hl => (ready_iff hl hi).2 (by
        unfold readyB
        simp only [Bool.and_eq_true, Bool.not_eq_true', Array.all_eq_true_iff_forall_mem, Bool.or_eq_true]
        refine ⟨has_false.2 (by simp [hiy, hnd]), fun e he => ?_⟩
        cases hb : Region.binds .any e
        · exact .inl rfl
        · exact .inr (has_iff.2 (by simp [hafter e he hb])))
      have hLY : ∀ {listed y}, Lst ops listed (y :: done) → Lst ops (listed.setIfInBounds i true) (y :: i :: done) := fun {listed y} hl => (hl.put hil).same fun x => by simp only [List.mem_cons]; constructor <;> (rintro (h | h | h) <;> simp [h])
      by_cases hF : (isF0 oi || isF1 oi) = true
      · -- it looks only: it may come at any time
        rw [if_pos hF] at hkind
        have hfree : ∀ (listed : Array Bool) (X : List Nat), Lst ops listed X → (∀ x ∈ done, x ∈ X) → ∀ j oj, ops[j]? = some oj → j ≠ i → listed.getD j true = false → (∀ e ∈ oj.after, Region.binds .any e = true → e.on ≠ i) → ¬ Beh ops i done j → oi.apart ops oj = true ∧ (isF0 oi = true ∨ grows C oj = true) := fun listed X hl hX j oj hj hji hun hno hnb => by
          refine rest_out hkind j oj hj hji (fun hm => ?_) hno hnb
          rw [Array.getD_eq_getD_getElem?, hl.2.2 j (Array.getElem?_eq_some_iff.1 hj).1] at hun
          simp only [Option.getD_some] at hun
          exact has_false.1 hun (hX j hm)
        refine ⟨fun s a W hp σ y oy e d us z ti hv hyn hyl hn h k hE listed hl => ?_, fun s a W hp σ hn h listed hl => ?_⟩
        · have hiy : i ≠ y := fun he => by
            subst he
            have := hv.o
            rw [hi] at this
            simp only [Option.some.injEq] at this
            subst this
            rw [hv.notF] at hF
            simp at hF
          have hyr : y ∈ r := by
            rcases List.mem_cons.1 hyl with h1 | h1
            · exact absurd h1.symm hiy
            · exact h1
          obtain ⟨v, s', h1, h2, h3⟩ := f_step hF hn hidst h
          obtain ⟨hs1, hs2⟩ := hside hv hyn hiy
          have hB := ihB s' _ W hp σ y oy e d us z ti hv (by simp [Ne.symm hiy, hyn]) hyr h2 h3 k hE _ (hLY hl)
          rw [Act.put_comm a v _ (fun k hk he => hs1 k hk (by simpa using he.symm))] at hB
          have hlen : (i :: r).length - 1 = (r.length - 1) + 1 := by
            have := List.length_pos_of_mem hyr
            simp
            omega
          rw [hlen]
          refine firstT hi hsel (r.length - 1) listed _ W (hfree listed _ hl (by simp_all)) (fun k hk => beh_un hl (fun x hx => by
            rcases List.mem_cons.1 hx with rfl | hx
            · exact .inr ⟨oy, hv.o, by unfold isY; rw [hv.op]; simp [hv.guard, hv.dst]⟩
            · exact .inl hx) hk) (hreadyY hiy hl) (h1.same ?_ ?_ (.inr (Grow.refl W))) hB
          · exact execOp_put oi (fun cs b => hsel i oi cs b hi) a (some d) _ fun d' hd' => by simp at hd'; subst hd'; exact hs2
          · exact wanted_put oi a (some d) _ fun d' hd' => by simp at hd'; subst hd'; exact hs2
        · obtain ⟨v, s', h1, h2, h3⟩ := f_step hF hn hidst h
          exact firstT hi hsel r.length listed a W (hfree listed _ hl (fun _ h => h)) (fun k hk => beh_un hl (fun x hx => .inl hx) hk) (hreadyI hl) h1 (ihA s' _ W hp σ h2 h3 _ (hl.put hil))
      · rw [if_neg hF] at hkind
        -- the operation itself
        have hop : ∀ {K' : Act → World → Prop} {s : St} {a : Act} {W : World} {hp : Im} {σ : Sg}, Now E s a W hp σ → wpOpsA C call ops.toList (oi :: pickOps ops.toList r) s K →
            (∀ (v : Value) (W' : World) (s' : St) (hp' : Im) (σ' : Sg), Now E s' (a.put oi.dst v) W' hp' σ' → wpOpsA C call ops.toList (pickOps ops.toList r) s' K → Ev ⟨hp, σ, W, 0⟩ hp' σ' W' → K' (a.put oi.dst v) W') → opT C ops i K' a W := fun {K' s a W hp σ} hn h hk => by
          unfold opT
          rw [hi]
          rcases guard_step hn hidst h with ⟨hw, s1, h1, h2⟩ | ⟨hw, s1, h1, h2⟩
          · refine .inl ⟨hw, (op_step (K := fun s1 => wpOpsA C call ops.toList (pickOps ops.toList r) s1 K) hc h1 hidst h2).mono fun v W' ⟨s', hp', σ', h3, h4, h5, h6, _⟩ => ⟨hk v W' s' hp' σ' h4 h3 h6, h5⟩⟩
          · exact .inr ⟨hw, hk undef W s1 hp σ h1 h2 (Ev.refl _ _ _ _)⟩
        have hB : ∀ (s : St) (a : Act) (W : World) (hp : Im) (σ : Sg) y oy e d us z ti, VarY C ops ys y oy e d us z ti → y ∉ done → y ∈ i :: r → Now E s a W hp σ → wpOpsA C call ops.toList (oi :: pickOps ops.toList r) s K → ∀ k, Early E k us e W hp σ →
            ∀ listed, Lst ops listed (y :: done) → anyT C ops R ((i :: r).length - 1) listed (a.put (some d) (.pointer (some ⟨k, 0, none⟩))) W := by
          intro s a W hp σ y oy e d us z ti hv hyn hyl hn h k hE listed hl
          by_cases hiy : i = y
          · -- its turn, and it has come already
            subst hiy
            have hoy := hv.o
            rw [hi] at hoy
            simp only [Option.some.injEq] at hoy
            subst hoy
            unfold wpOpsA at h
            rw [hv.guard] at h
            have h' : newVarA e (zeroC C.P e) s fun r' s' => wpOpsA C call ops.toList (pickOps ops.toList r) (s'.put oi.dst r') K := by
              obtain ⟨dst, op, ty, pos, af, g⟩ := oi
              have := hv.op
              simp only at this
              subst this
              exact h
            rw [hv.zc, hv.dst] at h'
            have hle := upd_le hn.heap.dom (.pointer (some ⟨k, 0, none⟩))
            refine ihA _ _ W hp (upd σ s.H.length (.pointer (some ⟨k, 0, none⟩))) ?_ h' listed hl
            have hsz := (Array.getElem?_eq_some_iff.1 hE.heap).1
            refine ⟨?_, fun m => ?_, ?_, hn.defers, (put_size _ _ _).trans hn.nt, hn.sg.trans hle⟩
            · refine hn.heap.step rfl (fun _ _ h => h) (Nat.le_refl _) (fun _ _ _ => rfl) (fun i' c w j hc' hw hj => ⟨rfl, fun hb => ?_⟩) (fun j hj => ?_) ?_
              · exact hE.free i' w hw (by rw [hj]; simpa [bn] using hb.symm)
              · simp only [bn, Option.some.injEq] at hj
                subst hj
                exact ⟨hsz, hE.im⟩
              · simp only [BlkRel]
                exact ⟨k, us, rfl, hE.heap, hv.rel _ _⟩
            · rw [tmps_put (by rw [hn.nt]; exact hidst d hv.dst)]
              show Rel hp _ (if d = m then .ptr s.H.length 0 else find m s.t) _
              split
              · simp only [Rel]
                exact ⟨k, upd_same _ _, rfl⟩
              · exact Rel.mono (ImLe.refl _) hle _ _ (hn.tmps m)
            · refine ⟨hn.ev.size, hn.ev.tape, hn.ev.os, hn.ev.out, hn.ev.im, hn.ev.keep, hn.ev.imNew, fun id v j h1 h2 => ?_⟩
              rcases upd_out h1 with ⟨_, rfl⟩ | h3
              · simp only [bn, Option.some.injEq] at h2
                subst h2
                exact .inl hE.new
              · exact hn.ev.sgNew id v j h3 h2
          · have hyr : y ∈ r := by
              rcases List.mem_cons.1 hyl with h1 | h1
              · exact absurd h1.symm hiy
              · exact h1
            have hlen : (i :: r).length - 1 = (r.length - 1) + 1 := by
              have := List.length_pos_of_mem hyr
              simp
              omega
            rw [hlen]
            have hir := hreadyY hiy hl
            obtain ⟨hs1, hs2⟩ := hside hv hyn hiy
            have hlook : ∀ d', some d = some d' → d' ∉ oi.looksAt ops := fun d' hd' => by simp at hd'; subst hd'; exact hs2
            refine ⟨fun h0 => by rw [h0] at hir; simp at hir, fun j hj => ?_⟩
            have hji : j = i := Decidable.byContradiction fun hji => by
              obtain ⟨oj, hoj⟩ := ready_some hj
              have hrj := (ready_iff hl hoj).1 hj
              have hys := hv.ys
              have hmem := (readyB_mem hrj).1
              simp only [List.mem_cons, not_or] at hmem
              rcases alone_out hkind hoj hji (fun x hx => by
                rw [hys, List.mem_append, others_mem]
                rcases List.mem_cons.1 hx with rfl | hx
                · exact .inl ⟨by simp, Ne.symm hiy⟩
                · exact .inr hx) hrj with h1 | h1
              · have := hY j oj hoj h1
                rw [hys] at this
                simp only [List.cons.injEq, and_true] at this
                exact hmem.1 this.symm
              · rw [hys, List.mem_append, others_mem] at h1
                rcases h1 with ⟨h1, _⟩ | h1
                · exact hmem.1 (by simpa using h1)
                · exact hmem.2 h1
            subst hji
            have hmain := hop (K' := fun a' W' => ∃ v, a' = a.put oi.dst v ∧ anyT C ops R (r.length - 1) (listed.setIfInBounds j true) (a'.put (some d) (.pointer (some ⟨k, 0, none⟩))) W') hn h fun v W' s' hp' σ' h1 h2 h3 =>
              ⟨v, rfl, ihB s' _ W' hp' σ' y oy e d us z ti hv (by simp [Ne.symm hiy, hyn]) hyr h1 h2 k (hE.step h3) _ (hLY hl)⟩
            -- the same with the early variable in its slot
            unfold opT at hmain ⊢
            rw [hi] at hmain ⊢
            simp only at hmain ⊢
            have hcomm : ∀ v : Value, (a.put oi.dst v).put (some d) (.pointer (some ⟨k, 0, none⟩)) = (a.put (some d) (.pointer (some ⟨k, 0, none⟩))).put oi.dst v := fun v => Act.put_comm a v _ (fun k' hk he => hs1 k' hk (by simpa using he.symm))
            rw [wanted_put oi a (some d) _ hlook]
            have hfix : ∀ v W', (∃ v', a.put oi.dst v = a.put oi.dst v' ∧ anyT C ops R (r.length - 1) (listed.setIfInBounds j true) ((a.put oi.dst v).put (some d) (.pointer (some ⟨k, 0, none⟩))) W') → anyT C ops R (r.length - 1) (listed.setIfInBounds j true) ((a.put (some d) (.pointer (some ⟨k, 0, none⟩))).put oi.dst v) W' := fun v W' ⟨_, _, h⟩ => by
              rw [← hcomm]
              exact h
            rcases hmain with ⟨hw, he⟩ | ⟨hw, hk⟩
            · exact .inl ⟨hw, ((he.mono fun v W' ⟨h1, h2⟩ => ⟨hfix v W' h1, h2⟩).same (execOp_put oi (fun cs b => hsel j oi cs b hi) a (some d) _ hlook))⟩
            · exact .inr ⟨hw, hfix undef W hk⟩
        refine ⟨hB, fun s a W hp σ hn h listed hl => ?_⟩
        have hir := hreadyI hl
        refine ⟨fun h0 => by rw [h0] at hir; simp at hir, fun j hj => ?_⟩
        by_cases hji : j = i
        · subst hji
          exact hop hn h fun v W' s' hp' σ' h1 h2 _ => ihA s' _ W' hp' σ' h1 h2 _ (hl.put hil)
        · -- the new variable comes ahead of its turn
          obtain ⟨oj, hoj⟩ := ready_some hj
          have hrj := (ready_iff hl hoj).1 hj
          have hjd := (readyB_mem hrj).1
          have hjy : j ∈ ys := by
            rcases alone_out hkind hoj hji (fun x hx => by simp [hx]) hrj with h1 | h1
            · rw [hY j oj hoj h1]
              simp
            · rcases List.mem_append.1 h1 with h1 | h1
              · exact (others_mem.1 h1).1
              · exact absurd h1 hjd
          obtain ⟨oy, e, d, us, z, ti, hv⟩ := hYV j hjy
          have hyl : j ∈ i :: r := (hyd j hjy).resolve_left hjd
          unfold opT
          rw [hv.o]
          refine .inl ⟨by simp [Region.wanted, hv.guard], .value (.pointer (some ⟨W.heap.size, 0, none⟩)) (W.alloc (.cells us.toArray e)) ?_ ⟨?_, fun _ => grow_alloc W _⟩⟩
          · simp [execOp, hv.op, Instr.alloc, zeroValue, typeInfo, hv.info, hv.zero, newVar, newRow, hv.cells]
          · rw [hv.dst]
            have hn1 : Now E s a (W.alloc (.cells us.toArray e)) hp σ := hn.world (by simp) (fun k hk => alloc_old W _ k hk) rfl rfl rfl
            refine hB s a _ hp σ j oy e d us z ti hv hjd hyl hn1 h W.heap.size ⟨alloc_new W _, ?_, fun id v h1 h2 => ?_, hn.ev.size⟩ _ (hl.put (Array.getElem?_eq_some_iff.1 hoj).1)
            · cases hh : hp W.heap.size with
              | none => rfl
              | some o =>
                have := (Array.getElem?_eq_some_iff.1 (hn.heap.im _ _ hh)).1
                omega
            · have := hn.heap.lt id v _ h1 h2
              omega

theorem anyT_more {R : Act → World → Prop} : ∀ (n : Nat) (listed : Array Bool) (a : Act) (W : World), anyT C ops R n listed a W → anyT C ops R (n + 1) listed a W
  | 0, listed, a, W, h => ⟨fun _ => h.2, fun i hi => by rw [h.1] at hi; simp at hi⟩
  | n + 1, listed, a, W, h => ⟨h.1, fun i hi => opT_mono (fun a w h => anyT_more n _ a w h) (h.2 i hi)⟩
theorem anyT_le {R : Act → World → Prop} {n m : Nat} (hle : n ≤ m) {listed : Array Bool} {a : Act} {W : World} (h : anyT C ops R n listed a W) : anyT C ops R m listed a W := by
  induction m with
  | zero =>
    have : n = 0 := by omega
    subst this
    exact h
  | succ m ih =>
    rcases Nat.lt_or_ge m n with h1 | h1
    · have : n = m + 1 := by omega
      subst this
      exact h
    · exact anyT_more m _ a W (ih h1)
/-! ### Orders in a tree -/
theorem subT_draw {K : St → Prop} {j : Nat} : ∀ {t t' : OT} {s : St}, subT j t = some t' → drawT C call ops.toList t s K → wpOpsA C call ops.toList (pickOps ops.toList [j]) s fun s => drawT C call ops.toList t' s K
  | .done, t', s, h, _ => by simp [subT] at h
  | .step i t, t', s, h, hd => by
    unfold subT at h
    split at h
    · rename_i hi
      simp only [Option.some.injEq] at h
      subst hi h
      exact hd
    · simp at h
  | .fork a b, t', s, h, hd => by
    unfold subT at h
    split at h
    · rename_i t hs
      simp only [Option.some.injEq] at h
      subst h
      exact subT_draw hs hd.1
    · exact subT_draw h hd.2
theorem pick_one {i : Nat} {oi : Oper} (h : ops[i]? = some oi) : pickOps ops.toList [i] = [oi] := by
  unfold pickOps
  rw [Array.getElem?_toList, h]
  rfl
theorem lone_out {i : Nat} {X : List Nat} {listed : Array Bool} (h : loneOk ops i X = true) (hl : Lst ops listed X) {j : Nat} (hj : j ∈ Region.ready .any ops listed) : j = i := by
  obtain ⟨oj, hoj⟩ := ready_some hj
  have hr := (ready_iff hl hoj).1 hj
  unfold loneOk at h
  have h1 := List.all_eq_true.1 h j (List.mem_range.2 (Array.getElem?_eq_some_iff.1 hoj).1)
  rw [hoj] at h1
  simpa [hr] using h1
theorem tree_run {K : St → Prop} {R : Act → World → Prop} (hc : CallOK C call) (hsel : ∀ (j : Nat) (o : Oper) cs b, ops[j]? = some o → o.op ≠ .select cs b) (hR : ∀ s' a' W' hp' σ', Now E s' a' W' hp' σ' → K s' → R a' W') (hd : ∀ o ∈ ops.toList, ∀ k, o.dst = some k → k < E.nt) :
    ∀ (n : Nat) (done : List Nat) (t : OT), treeOk C ops n done t = true → ∀ (s : St) (a : Act) (W : World) (hp : Im) (σ : Sg), Now E s a W hp σ → drawT C call ops.toList t s K → ∀ listed, Lst ops listed done → anyT C ops R n listed a W := by
  intro n
  have atEnd : ∀ (n : Nat) (done : List Nat), treeOk C ops n done .done = true → ∀ (listed : Array Bool), Lst ops listed done → Region.ready .any ops listed = [] := fun n done ht listed hl => by
    have ht' : ((List.range ops.size).all fun j => has j done) = true := by cases n <;> exact ht
    have hall : ∀ j, j < ops.size → j ∈ done := fun j hj => has_iff.1 (List.all_eq_true.1 ht' j (List.mem_range.2 hj))
    refine List.eq_nil_iff_forall_not_mem.2 fun j hj => ?_
    obtain ⟨oj, hoj⟩ := ready_some hj
    exact (readyB_mem ((ready_iff hl hoj).1 hj)).1 (hall j (Array.getElem?_eq_some_iff.1 hoj).1)
  induction n with
  | zero =>
    intro done t ht s a W hp σ hn h listed hl
    cases t with
    | done => exact ⟨atEnd 0 done ht listed hl, hR s a W hp σ hn h⟩
    | step i t => simp [treeOk] at ht
    | fork x y => simp [treeOk] at ht
  | succ n ih =>
    intro done t ht s a W hp σ hn h listed hl
    -- one operation that is run as it stands
    have hop : ∀ {i : Nat} {oi : Oper} {t' : OT} {s : St} {a : Act} {W : World} {hp : Im} {σ : Sg}, ops[i]? = some oi → treeOk C ops n (i :: done) t' = true → Now E s a W hp σ → (wpOpsA C call ops.toList [oi] s fun s => drawT C call ops.toList t' s K) → ∀ listed, Lst ops listed done →
        opT C ops i (anyT C ops R n (listed.setIfInBounds i true)) a W := fun {i oi t' s a W hp σ} hi ht' hn h listed hl => by
      have hil := (Array.getElem?_eq_some_iff.1 hi).1
      have hidst : ∀ k, oi.dst = some k → k < E.nt := hd oi (by
        rw [Array.mem_toList_iff]
        exact Array.mem_of_getElem? hi)
      unfold opT
      rw [hi]
      rcases guard_step hn hidst h with ⟨hw, s1, h1, h2⟩ | ⟨hw, s1, h1, h2⟩
      · exact .inl ⟨hw, (op_step (K := fun s1 => wpOpsA C call ops.toList [] s1 fun s => drawT C call ops.toList t' s K) hc h1 hidst h2).mono fun v W' ⟨s', hp', σ', h3, h4, h5, h6, _⟩ => ⟨ih _ _ ht' s' _ W' hp' σ' h4 h3 _ (hl.put hil), h5⟩⟩
      · exact .inr ⟨hw, ih _ _ ht' s1 _ W hp σ h1 h2 _ (hl.put hil)⟩
    cases t with
    | done =>
      have hempty := atEnd (n + 1) done ht listed hl
      exact ⟨fun _ => hR s a W hp σ hn h, fun j hj => by rw [hempty] at hj; simp at hj⟩
    | step i t =>
      unfold treeOk at ht
      cases hi : ops[i]? with
      | none => rw [hi] at ht; simp at ht
      | some oi =>
        rw [hi] at ht
        simp only [Bool.and_eq_true] at ht
        obtain ⟨⟨hready, hkind⟩, ht⟩ := ht
        have hil := (Array.getElem?_eq_some_iff.1 hi).1
        have hir := (ready_iff hl hi).2 hready
        have h' : wpOpsA C call ops.toList [oi] s fun s => drawT C call ops.toList t s K := by
          have := h
          unfold drawT at this
          rw [pick_one hi] at this
          exact this
        have lone : loneOk ops i done = true → anyT C ops R (n + 1) listed a W := fun hlone => by
          refine ⟨fun h0 => by rw [h0] at hir; simp at hir, fun j hj => ?_⟩
          have hji := lone_out hlone hl hj
          subst hji
          exact hop hi ht hn h' listed hl
        by_cases hF : (isF0 oi || isF1 oi) = true
        · rw [if_pos hF] at hkind
          rcases (by simpa using hkind : restOk C ops oi i done = true ∨ loneOk ops i done = true) with hrest | hlone
          · have hidst : ∀ k, oi.dst = some k → k < E.nt := hd oi (by
              rw [Array.mem_toList_iff]
              exact Array.mem_of_getElem? hi)
            obtain ⟨v, s', h1, h2, h3⟩ := f_step hF hn hidst h'
            refine firstT hi hsel n listed a W (fun j oj hj hji hun hno hnb => ?_) (fun k hk => beh_un hl (fun x hx => .inl hx) hk) hir h1 (ih _ _ ht s' _ W hp σ h2 h3 _ (hl.put hil))
            refine rest_out hrest j oj hj hji (fun hm => ?_) hno hnb
            rw [Array.getD_eq_getD_getElem?, hl.2.2 j (Array.getElem?_eq_some_iff.1 hj).1] at hun
            simp only [Option.getD_some] at hun
            exact has_false.1 hun hm
          · exact lone hlone
        · rw [if_neg hF] at hkind
          exact lone hkind
    | fork x y =>
      unfold treeOk at ht
      simp only [Bool.and_eq_true] at ht
      obtain ⟨hany, hall⟩ := ht
      obtain ⟨j0, hj0, hj0r⟩ := List.any_eq_true.1 hany
      refine ⟨fun h0 => ?_, fun j hj => ?_⟩
      · cases hj : ops[j0]? with
        | none => rw [hj] at hj0r; simp at hj0r
        | some oj =>
          rw [hj] at hj0r
          have := (ready_iff hl hj).2 hj0r
          rw [h0] at this
          simp at this
      · obtain ⟨oj, hoj⟩ := ready_some hj
        have hrj := (ready_iff hl hoj).1 hj
        have h1 := List.all_eq_true.1 hall j (List.mem_range.2 (Array.getElem?_eq_some_iff.1 hoj).1)
        rw [hoj] at h1
        simp only [hrj, Bool.not_true, Bool.false_or] at h1
        cases hs : subT j (.fork x y) with
        | none => rw [hs] at h1; simp at h1
        | some t' =>
          rw [hs] at h1
          have h2 := subT_draw hs h
          rw [pick_one hoj] at h2
          exact hop hoj h1 hn h2 listed hl
/-! ### A map that is made while other operations run -/
/-- Where nothing is told of a slot, anything may go. -/
theorem Now.side {d : Nat} {v : Value} (hn : Now E s a W hp σ) (hj : s.tmp d = .junk) (hd : d < E.nt) : Now E s (a.put (some d) v) W hp σ := by
  refine ⟨hn.heap, fun n => ?_, hn.ev, hn.defers, (put_size _ _ _).trans hn.nt, hn.sg⟩
  rw [tmps_put (by rw [hn.nt]; exact hd)]
  split
  · rename_i h
    subst h
    rw [hj]
    simp [Rel]
  · exact hn.tmps n
/-- A block of nobody's changes. -/
theorem Now.aside {r : Nat} (hn : Now E s a W hp σ) (him : hp r = none) (hfree : ∀ id v, σ id = some v → bn v ≠ some r) (hnew : E.W.heap.size ≤ r) (hsize : W'.heap.size = W.heap.size) (hoth : ∀ j, j ≠ r → W'.heap[j]? = W.heap[j]?)
    (ht : W'.tape = W.tape) (ho : W'.os = W.os) (hout : W'.output = W.output) : Now E s a W' hp σ := by
  have hh : HeapRel hp σ s.H W' := by
    constructor
    · intro k o hk
      rw [hoth k (fun he => by rw [he, him] at hk; simp at hk)]
      exact hn.heap.im k o hk
    · intro id b hb
      obtain ⟨v, h1, h2, h3⟩ := hn.heap.own id b hb
      exact ⟨v, h1, h2.keep (ImLe.refl _) (SgLe.refl _) fun k hk => hoth k (fun he => hfree id v h1 (by rw [hk, he])), h3⟩
    · exact hn.heap.apart
    · exact hn.heap.dom
    · intro id v k h1 h2
      rw [hsize]
      exact hn.heap.lt id v k h1 h2
  refine ⟨hh, hn.tmps, ⟨by rw [hsize]; exact hn.ev.size, ht.trans hn.ev.tape, ho.trans hn.ev.os, hout.trans hn.ev.out, hn.ev.im, fun k hk hno => ?_, hn.ev.imNew, hn.ev.sgNew⟩, hn.defers, hn.nt, hn.sg⟩
  rw [hoth k (by omega)]
  exact hn.ev.keep k hk hno
theorem insOf_out {o : Oper} {d : Nat} {n : Int} {x : Operand} (h : insOf o d = some (n, x)) : ∃ t, o.op = .insert t (.tmp d) (.const (.int .i64 n)) x ∧ o.dst = none ∧ o.guard = none := by
  unfold insOf at h
  split at h
  · rename_i t d' n' x' ho hd hg
    split at h
    · rename_i he
      subst he
      simp only [Option.some.injEq, Prod.mk.injEq] at h
      obtain ⟨rfl, rfl⟩ := h
      exact ⟨t, ho, hd, hg⟩
    · simp at h
  · simp at h
/-- What is put into the map by an operation. -/
def entO (ops : Array Oper) (d : Nat) (a : Act) (i : Nat) : Value × Value :=
  match ops[i]? with
  | some o =>
    match insOf o d with
    | some (n, x) => (.int .i64 n, a.eval x)
    | none => (undef, undef)
  | none => (undef, undef)
/-- What is known of the map's operations. -/
structure MapY (C : Cfg) (ops : Array Oper) (pre : List Nat) (y : Nat) (oy : Oper) (t : TypeId) (d : Nat) (ins post : List Nat) : Prop where
  o : ops[y]? = some oy
  op : oy.op = .makeMap t none
  dst : oy.dst = some d
  guard : oy.guard = none
  ok : mapOk C.P t = true
  hnone : ∀ e ∈ oy.after, Region.binds .any e = false
  hins : ∀ i ∈ ins, ∃ o n x, ops[i]? = some o ∧ insOf o d = some (n, x) ∧ readyB o i (y :: pre) = true ∧ waitsFor o y = true ∧ (∀ t m k x, o.op = .insert t m k x → mapOk C.P t = true) ∧ ∀ e, x = .tmp e → e ≠ d ∧ ∀ (j : Nat) oj, ops[j]? = some oj → oj.dst = some e → waitsFor o j = true
  keys : ∀ i ∈ ins, ∀ j ∈ ins, ∀ oi oj (n : Int) x n' x', ops[i]? = some oi → ops[j]? = some oj → insOf oi d = some (n, x) → insOf oj d = some (n', x') → n = n' → i = j
  fresh : (y :: (ins ++ pre)).Nodup
  hpost : ∀ p ∈ post, ∃ o, ops[p]? = some o ∧ ∀ j ∈ y :: (ins ++ pre), waitsFor o j = true
  hpre : ∀ i ∈ pre, ∃ oi, ops[i]? = some oi ∧ oi.dst ≠ some d ∧ oi.guard = none ∧ Oper.apart ops oy oi = true ∧ Oper.apart ops oi oy = true
  all : ∀ j, j < ops.size → j ∈ y :: (ins ++ (pre ++ post))
  noY : ∀ (j : Nat) oj, ops[j]? = some oj → isY oj = false
theorem freshN_out : ∀ {l : List Nat}, freshN l = true → l.Nodup
  | [], _ => by simp
  | n :: r, h => by
    unfold freshN at h
    simp only [Bool.and_eq_true, Bool.not_eq_true'] at h
    exact List.nodup_cons.2 ⟨has_false.1 h.1, freshN_out h.2⟩
theorem fresh_keys {d : Nat} : ∀ {l : List Nat}, l.Nodup → freshI (keysOf ops d l) = true → ∀ i ∈ l, ∀ j ∈ l, ∀ oi oj n x n' x', ops[i]? = some oi → ops[j]? = some oj → insOf oi d = some (n, x) → insOf oj d = some (n', x') → n = n' → i = j
  | [], _, _, i, hi => by simp at hi
  | k :: r, hnd, h, i, hi => by
    intro j hj oi oj n x n' x' h1 h2 h3 h4 h5
    have hr : freshI (keysOf ops d r) = true ∧ ∀ m z om, k = m → ops[m]? = some om → insOf om d = some z → z.1 ∉ keysOf ops d r := by
      unfold keysOf at h ⊢
      rw [List.filterMap_cons] at h
      split at h
      · rename_i hn
        refine ⟨h, fun m z om he ho hz => ?_⟩
        subst he
        rw [ho] at hn
        simp [hz] at hn
      · rename_i b hb
        unfold freshI at h
        simp only [Bool.and_eq_true, Bool.not_eq_true'] at h
        refine ⟨h.2, fun m z om he ho hz => ?_⟩
        subst he
        rw [ho] at hb
        simp only [hz, Option.map_some, Option.some.injEq] at hb
        rw [hb]
        have := h.1
        simpa using this
    have inr : ∀ m om z, m ∈ r → ops[m]? = some om → insOf om d = some z → z.1 ∈ keysOf ops d r := fun m om z hm ho hz => List.mem_filterMap.2 ⟨m, hm, by rw [ho]; simp [hz]⟩
    rcases List.mem_cons.1 hi with hik | hir <;> rcases List.mem_cons.1 hj with hjk | hjr
    · rw [hik, hjk]
    · have := hr.2 i (n, x) oi hik.symm h1 h3
      exact absurd (inr j oj (n', x') hjr h2 h4) (by rw [← h5]; exact this)
    · have := hr.2 j (n', x') oj hjk.symm h2 h4
      exact absurd (inr i oi (n, x) hir h1 h3) (by rw [h5]; exact this)
    · exact fresh_keys (List.nodup_cons.1 hnd).2 hr.1 i hir j hjr oi oj n x n' x' h1 h2 h3 h4 h5
theorem mapY_of {pre : List Nat} {y : Nat} {ins post : List Nat} (h : mapOkF C ops pre y ins post = true) : ∃ oy t d, MapY C ops pre y oy t d ins post ∧ orderOkF C ops (y :: ins) [] pre = true ∧ orderOk C ops [] (y :: (ins ++ pre)) post = true := by
  unfold mapOkF at h
  cases hy : ops[y]? with
  | none => rw [hy] at h; simp at h
  | some oy =>
    rw [hy] at h
    simp only at h
    split at h
    · rename_i t d hop hdst hg
      simp only [Bool.and_eq_true] at h
      obtain ⟨⟨⟨⟨⟨⟨⟨⟨⟨⟨h1, h2⟩, h3⟩, h4⟩, h5⟩, h6⟩, h7⟩, h8⟩, h8y⟩, h9⟩, h10⟩ := h
      have hfr := freshN_out h6
      refine ⟨oy, t, d, ⟨hy, hop, hdst, hg, h1, fun e he => ?_, fun i hi => ?_, ?_, hfr, fun p hp => ?_, fun i hi => ?_, fun j hj => ?_, fun j oj hj => ?_⟩, h3, h10⟩
      · have := Array.all_eq_true_iff_forall_mem.1 h2 e he
        simpa using this
      · have := List.all_eq_true.1 h4 i hi
        unfold insOk at this
        cases ho : ops[i]? with
        | none => rw [ho] at this; simp at this
        | some o =>
          rw [ho] at this
          simp only at this
          split at this
          · rename_i n x hio
            simp only [Bool.and_eq_true] at this
            obtain ⟨⟨⟨k1, k2⟩, k3⟩, k4⟩ := this
            refine ⟨o, n, x, rfl, hio, k1, k2, fun t m k z hz => by rw [hz] at k3; exact k3, fun e he => ?_⟩
            subst he
            simp only [Bool.and_eq_true, bne_iff_ne] at k4
            refine ⟨k4.1, fun j oj hoj hd => ?_⟩
            have := List.all_eq_true.1 k4.2 j (List.mem_range.2 (Array.getElem?_eq_some_iff.1 hoj).1)
            rw [hoj] at this
            simpa [hd] using this
          · simp at this
      · exact fresh_keys (List.nodup_append.1 (List.nodup_cons.1 hfr).2).1 h5
      · have := List.all_eq_true.1 h7 p hp
        cases ho : ops[p]? with
        | none => rw [ho] at this; simp at this
        | some o =>
          rw [ho] at this
          exact ⟨o, rfl, fun j hj => List.all_eq_true.1 this j hj⟩
      · have := List.all_eq_true.1 h8 i hi
        cases ho : ops[i]? with
        | none => rw [ho] at this; simp at this
        | some o =>
          rw [ho] at this
          simp only [Bool.and_eq_true, bne_iff_ne, Option.isNone_iff_eq_none] at this
          exact ⟨o, rfl, this.1.1.1, this.2, this.1.1.2, this.1.2⟩
      · unfold allDone at h9
        exact has_iff.1 (List.all_eq_true.1 h9 j (List.mem_range.2 hj))
      · have := List.all_eq_true.1 h8y j (List.mem_range.2 (Array.getElem?_eq_some_iff.1 hj).1)
        rw [hj] at this
        simpa using this
    · simp at h
/-- What of the map's operations has come ahead of its turn, and what is there by them. -/
def Side (ops : Array Oper) (y d : Nat) (ins done : List Nat) (E : Ent) (a : Act) (W : World) (hp : Im) (σ : Sg) : Option (List Nat) → Prop
  | none => True
  | some J => J.Nodup ∧ (∀ j ∈ J, j ∈ ins) ∧ (∀ j ∈ J, ∀ o, ops[j]? = some o → ∀ e ∈ o.after, Region.binds .any e = true → e.on = y ∨ e.on ∈ done) ∧
      ∃ r ms clock, a.tmps.getD d undef = .map (some r) ∧ W.heap[r]? = some (.map ms clock) ∧ hp r = none ∧ (∀ id v, σ id = some v → bn v ≠ some r) ∧ E.W.heap.size ≤ r ∧ (ms.toList.map fun m => (m.key, m.val)).Perm (J.map (entO ops d a))
def xsOf (y : Nat) : Option (List Nat) → List Nat
  | none => []
  | some J => y :: J
def remOf (ins : List Nat) : Option (List Nat) → Nat
  | none => ins.length + 1
  | some J => ins.length - J.length
theorem after_waits {o : Oper} {j : Nat} (h : waitsFor o j = true) : ∃ e ∈ o.after, Region.binds .any e = true ∧ e.on = j := by
  unfold waitsFor at h
  obtain ⟨e, he, hb⟩ := Array.any_eq_true'.1 h
  simp only [Bool.and_eq_true, beq_iff_eq] at hb
  exact ⟨e, he, hb.1, hb.2⟩
theorem Side.step {pre : List Nat} {y : Nat} {oy : Oper} {t : TypeId} {d : Nat} {ins post done : List Nat} {x : Option (List Nat)} {i : Nat} {oi : Oper} {v : Value} (hm : MapY C ops pre y oy t d ins post) (hi : ops[i]? = some oi) (hip : i ∈ pre) (hid : i ∉ done) (hsz : ∀ k, oi.dst = some k → k < a.tmps.size)
    (hev : Ev ⟨hp, σ, W, 0⟩ hp' σ' W') (h : Side ops y d ins done E a W hp σ x) : Side ops y d ins (i :: done) E (a.put oi.dst v) W' hp' σ' x := by
  cases x with
  | none => trivial
  | some J =>
    obtain ⟨h1, h2, h3, r, ms, clock, h4, h5, h6, h7, h8, h9⟩ := h
    obtain ⟨oi', hi', hdst, hg, _, _⟩ := hm.hpre i hip
    rw [hi] at hi'
    simp only [Option.some.injEq] at hi'
    subst hi'
    have hiy : i ≠ y := fun he => by
      have := (List.nodup_cons.1 hm.fresh).1
      rw [he] at hip
      exact this (List.mem_append.2 (.inr hip))
    have hr := (Array.getElem?_eq_some_iff.1 h5).1
    have hno : ¬ (⟨hp, σ, W, 0⟩ : Ent).owns r := fun ⟨id, v, k1, k2⟩ => h7 id v k1 k2
    have he : ∀ j ∈ J, entO ops d (a.put oi.dst v) j = entO ops d a j := fun j hj => by
      obtain ⟨o, n, x, ho, hio, _, _, _, hx⟩ := hm.hins j (h2 j hj)
      unfold entO
      rw [ho]
      simp only [hio, Prod.mk.injEq, true_and]
      refine Act.eval_put fun e he hxe => ?_
      obtain ⟨_, hw⟩ := hx e hxe
      obtain ⟨e', he', hb, hon⟩ := after_waits (hw i oi hi he)
      rcases h3 j hj o ho e' he' hb with h | h
      · exact hiy (hon.symm.trans h)
      · rw [hon] at h
        exact hid h
    refine ⟨h1, h2, fun j hj o ho e he hb => (h3 j hj o ho e he hb).imp_right fun h => List.mem_cons_of_mem _ h, r, ms, clock, ?_, by rw [hev.keep r hr hno]; exact h5, ?_, fun id v k1 k2 => ?_, h8, ?_⟩
    · cases hd : oi.dst with
      | none => exact h4
      | some k =>
        rw [tmps_put (hsz k hd), if_neg (fun hk => hdst (by rw [hd, hk]))]
        exact h4
    · cases hh : hp' r with
      | none => rfl
      | some o =>
        rcases hev.imNew r o hh with h | h | h
        · simp only at h
          rw [h6] at h
          simp at h
        · simp only at h
          omega
        · exact absurd h hno
    · rcases hev.sgNew id v r k1 k2 with h | h
      · simp only at h
        omega
      · exact absurd h hno
    · rw [List.map_congr_left he]
      exact h9
theorem perm_of : ∀ {J ins : List Nat}, J.Nodup → ins.Nodup → (∀ j ∈ J, j ∈ ins) → ins.length ≤ J.length → J.Perm ins
  | [], ins, _, _, _, h => by
    cases ins with
    | nil => exact .nil
    | cons i r => simp at h
  | j :: J, ins, hn, hi, hs, h => by
    have hj := hs j (by simp)
    have h1 : ins.Perm (j :: ins.erase j) := List.perm_cons_erase hj
    have h2 := perm_of (J := J) (ins := ins.erase j) (List.nodup_cons.1 hn).2 (hi.erase j) (fun k hk => (hi.mem_erase_iff).2 ⟨fun he => (List.nodup_cons.1 hn).1 (he ▸ hk), hs k (by simp [hk])⟩) (by
      have := h1.length_eq
      simp only [List.length_cons] at this h
      omega)
    exact (List.Perm.cons j h2).trans h1.symm
theorem nodup_le : ∀ {J ins : List Nat}, J.Nodup → (∀ j ∈ J, j ∈ ins) → J.length ≤ ins.length
  | [], _, _, _ => by simp
  | j :: J, ins, hn, hs => by
    have h1 : ins.Perm (j :: ins.erase j) := List.perm_cons_erase (hs j (by simp))
    have h2 := nodup_le (J := J) (ins := ins.erase j) (List.nodup_cons.1 hn).2 (fun k hk => (List.mem_erase_of_ne (fun he => (List.nodup_cons.1 hn).1 (by rw [← he]; exact hk))).2 (hs k (by simp [hk])))
    have := h1.length_eq
    simp only [List.length_cons] at this ⊢
    omega
theorem put_none (a : Act) (v : Value) : a.put none v = a := rfl
/-- One of the map's operations comes. -/
theorem side_come {pre : List Nat} {y : Nat} {oy : Oper} {t : TypeId} {d : Nat} {ins post done : List Nat} {x : Option (List Nat)} {j : Nat} {oj : Oper} {listed : Array Bool} (hm : MapY C ops pre y oy t d ins post) (hd : ∀ o ∈ ops.toList, ∀ k, o.dst = some k → k < E.nt)
    (hdone : ∀ i ∈ done, i ∈ pre) (hl : Lst ops listed (xsOf y x ++ done)) (hj : ops[j]? = some oj) (hjm : j ∈ y :: ins) (hr : readyB oj j (xsOf y x ++ done) = true) (hjunk : s.tmp d = .junk) (hn : Now E s a W hp σ) (hs : Side ops y d ins done E a W hp σ x) {Q : Act → World → Prop}
    (hQ : ∀ a' W' x', Side ops y d ins done E a' W' hp σ x' → Now E s a' W' hp σ → Lst ops (listed.setIfInBounds j true) (xsOf y x' ++ done) → remOf ins x = remOf ins x' + 1 → Q a' W') : opT C ops j Q a W := by
  have hjl := (Array.getElem?_eq_some_iff.1 hj).1
  obtain ⟨hun, haf⟩ := readyB_mem hr
  have hfr := List.nodup_cons.1 hm.fresh
  cases x with
  | none =>
    by_cases hjy : j = y
    · subst hjy
      have := hm.o
      rw [hj] at this
      simp only [Option.some.injEq] at this
      subst this
      have hd' : d < E.nt := hd oj (by rw [Array.mem_toList_iff]; exact Array.mem_of_getElem? hj) d hm.dst
      unfold opT
      rw [hj]
      refine .inl ⟨by simp [Region.wanted, hm.guard], .value (.map (some W.heap.size)) (W.alloc (.map #[] 0)) ?_ ⟨?_, fun _ => grow_alloc W _⟩⟩
      · simp [execOp, hm.op, Instr.makeMap]
      · rw [hm.dst]
        have hn1 : Now E s a (W.alloc (.map #[] 0)) hp σ := hn.world (by simp) (fun k hk => alloc_old W _ k hk) rfl rfl rfl
        refine hQ _ _ (some []) ⟨by simp, by simp, by simp, W.heap.size, #[], 0, ?_, alloc_new W _, ?_, fun id v h1 h2 => ?_, hn.ev.size, by simp⟩ (hn1.side hjunk hd') ?_ (by simp [remOf])
        · rw [tmps_put (by rw [hn.nt]; exact hd'), if_pos rfl]
        · cases hh : hp W.heap.size with
          | none => rfl
          | some o =>
            have := (Array.getElem?_eq_some_iff.1 (hn.heap.im _ _ hh)).1
            omega
        · have := hn.heap.lt id v _ h1 h2
          omega
        · exact hl.put hjl
    · exfalso
      have hji : j ∈ ins := (List.mem_cons.1 hjm).resolve_left hjy
      obtain ⟨o, n, z, ho, _, _, hw, _⟩ := hm.hins j hji
      rw [hj] at ho
      simp only [Option.some.injEq] at ho
      subst ho
      obtain ⟨e, he, hb, hon⟩ := after_waits hw
      have := haf e he hb
      rw [hon] at this
      simp only [xsOf, List.nil_append] at this
      exact hfr.1 (List.mem_append.2 (.inr (hdone _ this)))
  | some J =>
    obtain ⟨h1, h2, h3, r, ms, clock, h4, h5, h6, h7, h8, h9⟩ := hs
    have hjJ : j ≠ y ∧ j ∉ J := ⟨fun he => hun (by simp [xsOf, he]), fun he => hun (by simp [xsOf, he])⟩
    have hji : j ∈ ins := (List.mem_cons.1 hjm).resolve_left hjJ.1
    obtain ⟨o, n, z, ho, hio, hrd, hw, hok, hx⟩ := hm.hins j hji
    rw [hj] at ho
    simp only [Option.some.injEq] at ho
    subst ho
    obtain ⟨t', hop, hdst, hg⟩ := insOf_out hio
    have hkeys : ∀ m ∈ ms.toList, ∃ x, m.key = .int .i64 x ∧ x ≠ n := fun m hm' => by
      have hmem := h9.mem_iff.1 (List.mem_map.2 ⟨m, hm', rfl⟩)
      obtain ⟨k, hk, hke⟩ := List.mem_map.1 hmem
      obtain ⟨ok, n', z', hok', hio', _⟩ := hm.hins k (h2 k hk)
      unfold entO at hke
      rw [hok'] at hke
      simp only [hio', Prod.mk.injEq] at hke
      refine ⟨n', hke.1.symm, fun hnn => ?_⟩
      have := hm.keys k (h2 k hk) j hji ok oj n' z' n z hok' hj hio' hio hnn
      exact hjJ.2 (by rw [← this]; exact hk)
    have hrun := run_update (u := a.eval z) (hok _ _ _ _ hop) h5 hkeys
    have hrlt := (Array.getElem?_eq_some_iff.1 h5).1
    have hoth : ∀ k, k ≠ r → ({ W with heap := W.heap.setIfInBounds r (.map (ms.push ⟨.int .i64 n, a.eval z, clock⟩) (clock + 1)) } : World).heap[k]? = W.heap[k]? := fun k hk => by
      simp only [Array.getElem?_setIfInBounds]
      rw [if_neg (Ne.symm hk)]
    unfold opT
    rw [hj]
    refine .inl ⟨by simp [Region.wanted, hg], .skip { W with heap := W.heap.setIfInBounds r (.map (ms.push ⟨.int .i64 n, a.eval z, clock⟩) (clock + 1)) } ?_ ⟨?_, fun hgr => ?_⟩⟩
    · have hev : a.eval (.tmp d) = .map (some r) := by
        rw [← h4]
        rfl
      have hco : a.eval (.const (.int .i64 n)) = .int .i64 n := rfl
      simp only [execOp, hop, hev, hco]
      rw [Sem.run_bind, hrun]
      rfl
    · rw [hdst, put_none]
      refine hQ _ _ (some (j :: J)) ⟨List.nodup_cons.2 ⟨hjJ.2, h1⟩, fun k hk => ?_, fun k hk o ho e he hb => ?_, r, ms.push ⟨.int .i64 n, a.eval z, clock⟩, clock + 1, h4, by simp [hrlt], h6, h7, h8, ?_⟩ (hn.aside h6 h7 h8 (by simp) hoth rfl rfl rfl) ?_ ?_
      · rcases List.mem_cons.1 hk with rfl | hk
        · exact hji
        · exact h2 k hk
      · rcases List.mem_cons.1 hk with rfl | hk
        · rw [hj] at ho
          simp only [Option.some.injEq] at ho
          subst ho
          have k1 := haf e he hb
          have k2 := (readyB_mem hrd).2 e he hb
          rcases List.mem_cons.1 k2 with k2 | k2
          · exact .inl k2
          · simp only [xsOf, List.cons_append, List.mem_cons, List.mem_append] at k1
            rcases k1 with k1 | k1 | k1
            · exact .inl k1
            · exfalso
              have := (List.nodup_append.1 hfr.2).2.2
              exact this _ (h2 _ k1) _ k2 rfl
            · exact .inr k1
        · exact h3 k hk o ho e he hb
      · rw [Array.toList_push, List.map_append, List.map_cons (f := entO ops d a)]
        have he : entO ops d a j = (.int .i64 n, a.eval z) := by
          unfold entO
          rw [hj]
          simp only [hio]
        rw [he]
        exact (List.perm_append_comm).trans (List.Perm.cons _ h9)
      · exact (hl.put hjl).same fun k => by
          simp only [xsOf, List.cons_append, List.mem_cons, List.mem_append]
          constructor <;> (rintro (h | h | h | h) <;> simp [h])
      · simp only [remOf, List.length_cons]
        have hlt : J.length < ins.length := by
          have := nodup_le (ins := ins) (List.nodup_cons.2 ⟨hjJ.2, h1⟩) (fun k hk => by
            rcases List.mem_cons.1 hk with rfl | hk
            · exact hji
            · exact h2 k hk)
          simp only [List.length_cons] at this
          omega
        omega
    · simp [grows, isF0, isF1, isE, hop] at hgr
theorem parts_out {d : Nat} : ∀ {ins : List Nat} {es : List (Int × AV)}, (∀ i ∈ ins, ∃ o n x, ops[i]? = some o ∧ insOf o d = some (n, x)) → (∀ x, Rel hp σ (s.get x) (a.eval x)) → mapParts s (pickOps ops.toList ins) = some es →
    ∃ vs, RelT hp σ (es.map (·.2)) vs ∧ ins.map (entO ops d a) = zipM es vs
  | [], es, _, _, h => by
    simp only [pickOps, mapParts, Option.some.injEq] at h
    subst h
    exact ⟨[], by simp [RelT], by simp [zipM]⟩
  | i :: r, es, hi, hg, h => by
    obtain ⟨o, n, x, ho, hio⟩ := hi i (by simp)
    obtain ⟨t, hop, _, _⟩ := insOf_out hio
    have hp' : pickOps ops.toList (i :: r) = o :: pickOps ops.toList r := by
      simp [pickOps, ho]
    rw [hp'] at h
    unfold mapParts partOf at h
    rw [hop] at h
    cases hr : mapParts s (pickOps ops.toList r) with
    | none => rw [hr] at h; simp at h
    | some es' =>
      rw [hr] at h
      simp only [Option.some.injEq] at h
      subst h
      obtain ⟨vs, h1, h2⟩ := parts_out (fun k hk => hi k (by simp [hk])) hg hr
      refine ⟨a.eval x :: vs, ?_, ?_⟩
      · simp only [List.map_cons, RelT]
        exact ⟨hg x, h1⟩
      · rw [List.map_cons, h2]
        unfold entO
        rw [ho]
        simp only [hio, zipM, List.map_cons, List.zip_cons_cons]
theorem map_fin {pre : List Nat} {y : Nat} {oy : Oper} {t : TypeId} {d : Nat} {ins post : List Nat} (hc : CallOK C call) {K : St → Prop} {R : Act → World → Prop} (hsel : ∀ (j : Nat) (o : Oper) cs b, ops[j]? = some o → o.op ≠ .select cs b) (hR : ∀ s' a' W' hp' σ', Now E s' a' W' hp' σ' → K s' → R a' W')
    (hd : ∀ o ∈ ops.toList, ∀ k, o.dst = some k → k < E.nt) (hm : MapY C ops pre y oy t d ins post) (hpost : orderOk C ops [] (y :: (ins ++ pre)) post = true) (hjunk : s.tmp d = .junk)
    (h : mkMapA C.P (ops.toList[y]?) (mapParts s (pickOps ops.toList ins)) s fun s => wpOpsA C call ops.toList (pickOps ops.toList post) s K) :
    ∀ (n : Nat) (x : Option (List Nat)) (a : Act) (W : World) (listed : Array Bool), remOf ins x = n → Side ops y d ins pre E a W hp σ x → Now E s a W hp σ → Lst ops listed (xsOf y x ++ pre) → anyT C ops R (n + post.length) listed a W
  | 0, x, a, W, listed, hrem, hs, hn, hl => by
    cases x with
    | none => simp [remOf] at hrem
    | some J =>
      obtain ⟨h1, h2, h3, r, ms, clock, h4, h5, h6, h7, h8, h9⟩ := hs
      have hJ : J.Perm ins := by
        have hin := (List.nodup_append.1 (List.nodup_cons.1 hm.fresh).2).1
        refine perm_of h1 hin h2 ?_
        simp only [remOf] at hrem
        omega
      rw [Array.getElem?_toList, hm.o] at h
      unfold mkMapA mkMapB at h
      simp only [hm.op, hm.dst] at h
      cases hpt : mapParts s (pickOps ops.toList ins) with
      | none => rw [hpt] at h; exact h.elim
      | some es =>
        rw [hpt] at h
        obtain ⟨_, hK⟩ := h
        obtain ⟨vs, hrel, hz⟩ := parts_out (d := d) (fun i hi => by
          obtain ⟨o, n, x, k1, k2, _⟩ := hm.hins i hi
          exact ⟨o, n, x, k1, k2⟩) (fun x => hn.get x) hpt
        have hperm : (ms.toList.map fun m => (m.key, m.val)).Perm (zipM es vs) := by
          rw [← hz]
          exact h9.trans (hJ.map _)
        have hnd : (es.map (·.1)).Nodup := by
          have hk : (zipM es vs).map (·.1) = es.map fun e => Value.int .i64 e.1 := by
            unfold zipM
            rw [List.map_fst_zip]
            rw [List.length_map, ← relT_len hrel, List.length_map]
            exact Nat.le_refl _
          have hnd2 : ((ins.map (entO ops d a)).map (·.1)).Nodup := by
            rw [List.map_map]
            have hins := (List.nodup_append.1 (List.nodup_cons.1 hm.fresh).2).1
            refine List.pairwise_map.2 (hins.imp_of_mem fun {i j} hi hj hne => ?_)
            obtain ⟨oi, n, x, k1, k2, _⟩ := hm.hins i hi
            obtain ⟨oj, n', x', k3, k4, _⟩ := hm.hins j hj
            simp only [Function.comp_def, entO, k1, k2, k3, k4, ne_eq, Value.int.injEq, true_and]
            exact fun hc => hne (hm.keys i hi j hj oi oj n x n' x' k1 k3 k2 k4 hc)
          rw [hz, hk] at hnd2
          refine List.pairwise_map.2 ((List.pairwise_map.1 hnd2).imp fun {e f} hne hc => hne (by rw [hc]))
        have hle := upd_le hn.heap.dom (.map (some r))
        have hrlt := (Array.getElem?_eq_some_iff.1 h5).1
        have hd' : d < E.nt := hd oy (by rw [Array.mem_toList_iff]; exact Array.mem_of_getElem? hm.o) d hm.dst
        have hnow : Now E ⟨(d, .map s.H.length) :: s.t, s.H ++ [some (.map t es)]⟩ a W hp (upd σ s.H.length (.map (some r))) := by
          refine ⟨?_, fun m => ?_, ?_, hn.defers, hn.nt, hn.sg.trans hle⟩
          · refine hn.heap.step rfl (fun _ _ h => h) (Nat.le_refl _) (fun _ _ _ => rfl) (fun i' c w j hc' hw hj => ⟨rfl, fun hb => ?_⟩) (fun j hj => ?_) ?_
            · exact h7 i' w hw (by rw [hj]; simpa [bn] using hb.symm)
            · simp only [bn, Option.some.injEq] at hj
              subst hj
              exact ⟨hrlt, h6⟩
            · simp only [BlkRel]
              exact ⟨r, ms, clock, rfl, h5, hnd, vs, RelT.mono (ImLe.refl _) hle _ _ hrel, hperm⟩
          · show Rel hp _ (if d = m then .map s.H.length else find m s.t) _
            split
            · rename_i he
              subst he
              rw [h4]
              simp only [Rel]
              exact ⟨r, upd_same _ _, rfl⟩
            · exact Rel.mono (ImLe.refl _) hle _ _ (hn.tmps m)
          · refine ⟨hn.ev.size, hn.ev.tape, hn.ev.os, hn.ev.out, hn.ev.im, hn.ev.keep, hn.ev.imNew, fun id v j k1 k2 => ?_⟩
            rcases upd_out k1 with ⟨_, rfl⟩ | k3
            · simp only [bn, Option.some.injEq] at k2
              subst k2
              exact .inl h8
            · exact hn.ev.sgNew id v j k3 k2
        have hlt : ∀ x ∈ y :: (ins ++ pre), x < ops.size := fun x hx => by
          have hx' : x ∈ xsOf y (some J) ++ pre := by
            simp only [xsOf, List.cons_append, List.mem_cons, List.mem_append] at hx ⊢
            rcases hx with h | h | h
            · exact .inl h
            · exact .inr (.inl (hJ.mem_iff.2 h))
            · exact .inr (.inr h)
          exact hl.2.1 x hx'
        have := (draw_run (R := R) hc hsel hR hd [] (fun j oj hj hy => by rw [hm.noY j oj hj] at hy; simp at hy) (by simp) post (y :: (ins ++ pre)) hpost hlt (by simp)).2 _ a W hp _ hnow hK listed (hl.same fun k => by
          simp only [xsOf, List.cons_append, List.mem_cons, List.mem_append, hJ.mem_iff])
        rw [Nat.zero_add]
        exact this
  | n + 1, x, a, W, listed, hrem, hs, hn, hl => by
    have hfr := List.nodup_cons.1 hm.fresh
    -- one is left, and may come
    have hleft : ∃ j oj, ops[j]? = some oj ∧ j ∈ y :: ins ∧ readyB oj j (xsOf y x ++ pre) = true := by
      cases x with
      | none =>
        refine ⟨y, oy, hm.o, by simp, ?_⟩
        unfold readyB
        simp only [Bool.and_eq_true, Bool.not_eq_true', Array.all_eq_true_iff_forall_mem, Bool.or_eq_true]
        refine ⟨has_false.2 (fun hc => hfr.1 (List.mem_append.2 (.inr (by simpa [xsOf] using hc)))), fun e he => .inl (hm.hnone e he)⟩
      | some J =>
        obtain ⟨h1, h2, _⟩ := hs
        have : ∃ j ∈ ins, j ∉ J := Decidable.byContradiction fun hc => by
          have hsub : ∀ j ∈ ins, j ∈ J := fun j hj => Decidable.byContradiction fun h => hc ⟨j, hj, h⟩
          have := nodup_le (List.nodup_append.1 hfr.2).1 hsub
          simp only [remOf] at hrem
          omega
        obtain ⟨j, hj, hjJ⟩ := this
        obtain ⟨o, k, z, ho, _, hrd, _⟩ := hm.hins j hj
        refine ⟨j, o, ho, List.mem_cons_of_mem _ hj, ?_⟩
        obtain ⟨k1, k2⟩ := readyB_mem hrd
        unfold readyB
        simp only [Bool.and_eq_true, Bool.not_eq_true', Array.all_eq_true_iff_forall_mem, Bool.or_eq_true]
        refine ⟨has_false.2 fun hc => ?_, fun e he => ?_⟩
        · simp only [xsOf, List.cons_append, List.mem_cons, List.mem_append] at hc
          rcases hc with hc | hc | hc
          · exact k1 (by simp [hc])
          · exact hjJ hc
          · exact k1 (by simp [hc])
        · cases hb : Region.binds .any e
          · exact .inl rfl
          · have := k2 e he hb
            refine .inr (has_iff.2 ?_)
            simp only [xsOf, List.cons_append, List.mem_cons, List.mem_append] at this ⊢
            rcases this with h | h
            · exact .inl h
            · exact .inr (.inr h)
    rw [Nat.add_right_comm]
    refine ⟨fun h0 => ?_, fun j hj => ?_⟩
    · obtain ⟨j, oj, h1, _, h2⟩ := hleft
      have := (ready_iff hl h1).2 h2
      rw [h0] at this
      simp at this
    · obtain ⟨oj, hoj⟩ := ready_some hj
      have hrj := (ready_iff hl hoj).1 hj
      obtain ⟨hun, haf⟩ := readyB_mem hrj
      have hjm : j ∈ y :: ins := by
        have := hm.all j (Array.getElem?_eq_some_iff.1 hoj).1
        simp only [List.mem_cons, List.mem_append] at this ⊢
        rcases this with h | h | h | h
        · exact .inl h
        · exact .inr h
        · exact absurd (List.mem_append.2 (.inr h)) hun
        · exfalso
          obtain ⟨o, ho, hw⟩ := hm.hpost j h
          rw [hoj] at ho
          simp only [Option.some.injEq] at ho
          subst ho
          obtain ⟨k, ok, h1, h2, h3⟩ := hleft
          obtain ⟨e, he, hb, hon⟩ := after_waits (hw k (by
            simp only [List.mem_cons, List.mem_append] at h2 ⊢
            rcases h2 with h2 | h2
            · exact .inl h2
            · exact .inr (.inl h2)))
          have := haf e he hb
          rw [hon] at this
          exact (readyB_mem h3).1 this
      exact side_come hm hd (fun _ h => h) hl hoj hjm hrj hjunk hn hs fun a' W' x' k1 k2 k3 k4 => map_fin hc hsel hR hd hm hpost hjunk h n x' a' W' _ (by omega) k1 k2 k3
theorem alone_outF {i j : Nat} {fl L X : List Nat} {oj : Oper} (h : aloneOkF ops i fl L = true) (hj : ops[j]? = some oj) (hji : j ≠ i) (hX : ∀ x ∈ X, x ∈ L) (hr : readyB oj j X = true) : j ∈ fl ∨ j ∈ L := by
  unfold aloneOkF at h
  have h1 := List.all_eq_true.1 h j (List.mem_range.2 (Array.getElem?_eq_some_iff.1 hj).1)
  simp only [hj, Bool.or_eq_true, beq_iff_eq, hji, false_or, Bool.not_eq_true'] at h1
  rcases h1 with h1 | h1
  · exact .inl (has_iff.1 h1)
  · by_cases hm : j ∈ L
    · exact .inr hm
    · have h2 : readyB oj j L = true := by
        obtain ⟨_, h3⟩ := readyB_mem hr
        unfold readyB
        simp only [Bool.and_eq_true, Bool.not_eq_true', Array.all_eq_true_iff_forall_mem, Bool.or_eq_true]
        refine ⟨has_false.2 hm, fun e he => ?_⟩
        cases hb : Region.binds .any e
        · exact .inl rfl
        · exact .inr (has_iff.2 (hX _ (h3 e he hb)))
      rw [h2] at h1
      simp at h1
theorem map_run {pre : List Nat} {y : Nat} {oy : Oper} {t : TypeId} {d : Nat} {ins post : List Nat} (hc : CallOK C call) {K : St → Prop} {R : Act → World → Prop} (hsel : ∀ (j : Nat) (o : Oper) cs b, ops[j]? = some o → o.op ≠ .select cs b) (hR : ∀ s' a' W' hp' σ', Now E s' a' W' hp' σ' → K s' → R a' W')
    (hd : ∀ o ∈ ops.toList, ∀ k, o.dst = some k → k < E.nt) (hm : MapY C ops pre y oy t d ins post) (hpost : orderOk C ops [] (y :: (ins ++ pre)) post = true) :
    ∀ (l done : List Nat), orderOkF C ops (y :: ins) done l = true → (∀ x ∈ done, x ∈ pre) → (∀ x ∈ l, x ∈ pre) → (∀ x ∈ pre, x ∈ done ∨ x ∈ l) →
      ∀ (n : Nat) (x : Option (List Nat)) (s : St) (a : Act) (W : World) (hp : Im) (σ : Sg) (listed : Array Bool), remOf ins x = n → Side ops y d ins done E a W hp σ x → s.tmp d = .junk → Now E s a W hp σ → Lst ops listed (xsOf y x ++ done) →
        wpOpsA C call ops.toList (pickOps ops.toList l) s (fun s => mkMapA C.P (ops.toList[y]?) (mapParts s (pickOps ops.toList ins)) s fun s => wpOpsA C call ops.toList (pickOps ops.toList post) s K) → anyT C ops R (l.length + (n + post.length)) listed a W
  | [], done, ho, hdp, hlp, hpd, n, x, s, a, W, hp, σ, listed, hrem, hs, hjunk, hn, hl, h => by
    have hsame : ∀ k, k ∈ done ↔ k ∈ pre := fun k => ⟨hdp k, fun hk => (hpd k hk).resolve_right (by simp)⟩
    have hs' : Side ops y d ins pre E a W hp σ x := by
      cases x with
      | none => trivial
      | some J =>
        obtain ⟨h1, h2, h3, h4⟩ := hs
        exact ⟨h1, h2, fun j hj o ho e he hb => (h3 j hj o ho e he hb).imp_right (hdp _), h4⟩
    have hl' : Lst ops listed (xsOf y x ++ pre) := hl.same fun k => by simp only [List.mem_append, hsame]
    have := map_fin (s := s) hc hsel hR hd hm hpost hjunk h n x a W listed hrem hs' hn hl'
    simpa using this
  | i :: r, done, ho, hdp, hlp, hpd, n, x, s, a, W, hp, σ, listed, hrem, hs, hjunk, hn, hl, h => by
    unfold orderOkF at ho
    have hip : i ∈ pre := hlp i (by simp)
    obtain ⟨oi, hi, hidst, hig, hap1, hap2⟩ := hm.hpre i hip
    rw [hi] at ho
    simp only [Bool.and_eq_true] at ho
    obtain ⟨⟨hready, hkind⟩, hrest⟩ := ho
    have hil := (Array.getElem?_eq_some_iff.1 hi).1
    obtain ⟨hid, hafter⟩ := readyB_mem hready
    have hfr := List.nodup_cons.1 hm.fresh
    have hiy : i ≠ y := fun he => hfr.1 (List.mem_append.2 (.inr (he ▸ hip)))
    have hii : i ∉ ins := fun hc' => (List.nodup_append.1 hfr.2).2.2 i hc' i hip rfl
    have hmem : oi ∈ ops.toList := by
      rw [Array.mem_toList_iff]
      exact Array.mem_of_getElem? hi
    have hsz : ∀ k, oi.dst = some k → k < a.tmps.size := fun k hk => by
      rw [hn.nt]
      exact hd oi hmem k hk
    have hpick : pickOps ops.toList (i :: r) = oi :: pickOps ops.toList r := by simp [pickOps, hi]
    rw [hpick] at h
    unfold wpOpsA at h
    rw [hig] at h
    simp only at h
    -- once it has come
    have next : ∀ {x : Option (List Nat)} {n : Nat} {a : Act} {W W' : World} {hp hp' : Im} {σ σ' : Sg} {listed : Array Bool} {s' : St} (v : Value) (r' : AV), remOf ins x = n → Side ops y d ins done E a W hp σ x → a.tmps.size = E.nt → Ev ⟨hp, σ, W, 0⟩ hp' σ' W' → s'.t = s.t → Now E (s'.put oi.dst r') (a.put oi.dst v) W' hp' σ' → Lst ops listed (xsOf y x ++ done) →
        wpOpsA C call ops.toList (pickOps ops.toList r) (s'.put oi.dst r') (fun s => mkMapA C.P (ops.toList[y]?) (mapParts s (pickOps ops.toList ins)) s fun s => wpOpsA C call ops.toList (pickOps ops.toList post) s K) → anyT C ops R (r.length + (n + post.length)) (listed.setIfInBounds i true) (a.put oi.dst v) W' :=
      fun {x n a W W' hp hp' σ σ' listed s'} v r' k1 k2 k2s k3 k4 k5 k6 k7 => map_run hc hsel hR hd hm hpost r (i :: done) hrest (fun z hz => by rcases List.mem_cons.1 hz with rfl | hz <;> first | exact hip | exact hdp z hz) (fun z hz => hlp z (by simp [hz])) (fun z hz => by
          rcases hpd z hz with h | h
          · exact .inl (by simp [h])
          · rcases List.mem_cons.1 h with rfl | h
            · exact .inl (by simp)
            · exact .inr h) n x (s'.put oi.dst r') (a.put oi.dst v) W' hp' σ' _ k1 (k2.step hm hi hip hid (fun k hk => by rw [k2s]; exact hd oi hmem k hk) k3) (by
            show find d (s'.put oi.dst r').t = .junk
            cases hdd : oi.dst with
            | none => show find d s'.t = _; rw [k4]; exact hjunk
            | some k =>
              show (if k = d then r' else find d s'.t) = _
              rw [if_neg (fun hk => hidst (by rw [hdd, hk])), k4]
              exact hjunk) k5 ((k6.put hil).same fun z => by
            simp only [List.mem_cons, List.mem_append]
            constructor <;> (rintro (h | h | h) <;> simp [h])) k7
    have hxs : ∀ {x : Option (List Nat)}, Side ops y d ins done E a W hp σ x → ∀ k ∈ xsOf y x, k ∈ y :: ins := fun {x} hsx k hk => by
      cases x with
      | none => simp [xsOf] at hk
      | some J =>
        rcases List.mem_cons.1 hk with rfl | hk
        · simp
        · exact List.mem_cons_of_mem _ (hsx.2.1 k hk)
    have hready' : ∀ {x : Option (List Nat)} {listed : Array Bool}, (∀ k ∈ xsOf y x, k ∈ y :: ins) → Lst ops listed (xsOf y x ++ done) → readyB oi i (xsOf y x ++ done) = true := fun {x listed} hsx hl => by
      unfold readyB
      simp only [Bool.and_eq_true, Bool.not_eq_true', Array.all_eq_true_iff_forall_mem, Bool.or_eq_true]
      refine ⟨has_false.2 fun hc' => ?_, fun e he => ?_⟩
      · rcases List.mem_append.1 hc' with h | h
        · rcases List.mem_cons.1 (hsx i h) with h | h
          · exact hiy h
          · exact hii h
        · exact hid h
      · cases hb : Region.binds .any e
        · exact .inl rfl
        · exact .inr (has_iff.2 (List.mem_append.2 (.inr (hafter e he hb))))
    have hsx := hxs hs
    by_cases hF : (isF0 oi || isF1 oi) = true
    · rw [if_pos hF] at hkind
      have hfin : ∀ (v : Value) (r' : AV), Yl C ops oi v a W → Rel hp σ r' v → wpOpsA C call ops.toList (pickOps ops.toList r) (s.put oi.dst r') (fun s => mkMapA C.P (ops.toList[y]?) (mapParts s (pickOps ops.toList ins)) s fun s => wpOpsA C call ops.toList (pickOps ops.toList post) s K) → anyT C ops R ((i :: r).length + (n + post.length)) listed a W := fun v r' hy hrel hK => by
        rw [List.length_cons, Nat.add_right_comm]
        refine firstT (done := done) hi hsel _ listed a W (fun j oj hj hji hun hno _ => ?_) (fun k hk => ?_) ((ready_iff hl hi).2 (hready' hsx hl)) hy (next v r' hrem hs hn.nt (Ev.refl _ _ _ _) rfl (hn.put (hd oi hmem) rfl hn.heap (Ev.refl _ _ _ _) (SgLe.refl _) hrel) hl hK)
        · unfold restOkF at hkind
          have h1 := List.all_eq_true.1 hkind j (List.mem_range.2 (Array.getElem?_eq_some_iff.1 hj).1)
          have hjd : j ∉ done := fun hjd => by
            rw [Array.getD_eq_getD_getElem?, hl.2.2 j (Array.getElem?_eq_some_iff.1 hj).1] at hun
            simp only [Option.getD_some] at hun
            exact has_false.1 hun (List.mem_append.2 (.inr hjd))
          simp only [hj, Bool.or_eq_true, beq_iff_eq, hji, or_false, has_false.2 hjd, Bool.false_eq_true, false_or, Bool.and_eq_true] at h1
          rcases h1 with h1 | ⟨h1, h2⟩
          · obtain ⟨e, he, hb, hon⟩ := after_waits h1
            exact absurd hon (hno e he hb)
          · refine ⟨h1, ?_⟩
            unfold grows
            simp only [Bool.or_eq_true]
            rcases h2 with ((h2 | h2) | h2) | h2
            · exact .inl h2
            · exact .inr (.inl (.inl h2))
            · exact .inr (.inl (.inr h2))
            · exact .inr (.inr h2)
        · -- what waits for it is not there yet
          obtain ⟨ok, e, hok, hkd, _, he, hb, hor⟩ := beh_step hk
          have hky : ∀ {k : Nat}, Beh ops i done k → k ≠ y := fun {k} hk he => by
            obtain ⟨ok, e, hok, _, _, he', hb, _⟩ := beh_step hk
            rw [he, hm.o] at hok
            simp only [Option.some.injEq] at hok
            subst hok
            rw [hm.hnone e he'] at hb
            simp at hb
          rw [Array.getD_eq_getD_getElem?, hl.2.2 k (Array.getElem?_eq_some_iff.1 hok).1]
          simp only [Option.getD_some]
          refine has_false.2 fun hc' => ?_
          rcases List.mem_append.1 hc' with h | h
          · cases x with
            | none => simp [xsOf] at h
            | some J =>
              rcases List.mem_cons.1 h with h | h
              · exact hky hk h
              · rcases hs.2.2.1 k h ok hok e he hb with h | h
                · rcases hor with h' | h'
                  · exact hiy (h'.symm.trans h)
                  · exact hky h' h
                · rcases hor with h' | h'
                  · rw [h'] at h
                    exact hid h
                  · obtain ⟨_, _, _, hnd, _⟩ := beh_step h'
                    exact has_false.1 hnd h
          · exact has_false.1 hkd h
      have hw : Region.wanted oi (yielded ops a.tmps) = true := by simp [Region.wanted, hig]
      by_cases h0 : isF0 oi = true
      · obtain ⟨v, r', h3, h4, h5⟩ := opF0_sound (hp := hp) (σ := σ) h0 hn.heap (fun x => hn.get x) h
        exact hfin v r' (.inl ⟨hw, fun w _ => h3 w⟩) h5 h4
      · have hf1 : isF1 oi = true := by simpa [h0] using hF
        obtain ⟨v, r', h3, h4, h5⟩ := opF1_sound (hp := hp) (σ := σ) (W := W) hf1 hn.heap (fun x => hn.get x) h
        exact hfin v r' (.inl ⟨hw, fun w hg => h3 w (hg.resolve_left h0)⟩) h5 h4
    · rw [if_neg hF] at hkind
      -- nothing else may come but what belongs to the map
      have main : ∀ (n : Nat) (x : Option (List Nat)) (a : Act) (W : World) (listed : Array Bool), remOf ins x = n → Side ops y d ins done E a W hp σ x → Now E s a W hp σ → Lst ops listed (xsOf y x ++ done) → anyT C ops R ((i :: r).length + (n + post.length)) listed a W := by
        intro n
        induction n with
        | zero =>
          intro x a W listed hrem hs hn hl
          have hsx : ∀ k ∈ xsOf y x, k ∈ y :: ins := fun k hk => by
            cases x with
            | none => simp [xsOf] at hk
            | some J =>
              rcases List.mem_cons.1 hk with rfl | hk
              · simp
              · exact List.mem_cons_of_mem _ (hs.2.1 k hk)
          have hir := (ready_iff hl hi).2 (hready' hsx hl)
          rw [List.length_cons, Nat.add_right_comm]
          refine ⟨fun h0 => by rw [h0] at hir; simp at hir, fun j hj => ?_⟩
          by_cases hji : j = i
          · subst hji
            unfold opT
            rw [hi]
            refine .inl ⟨by simp [Region.wanted, hig], (opA_sound hc hn.heap (fun x => hn.get x) h).mono fun v W' ⟨r', s', hp', σ', h1, h2, h3, h4, h5, h6, h7⟩ => ⟨next v r' hrem hs hn.nt h4 h2 (hn.put (hd oi hmem) h2 h3 h4 h5 h6) hl h1, h7⟩⟩
          · exfalso
            obtain ⟨oj, hoj⟩ := ready_some hj
            have hrj := (ready_iff hl hoj).1 hj
            have hun := (readyB_mem hrj).1
            cases x with
            | none => simp [remOf] at hrem
            | some J =>
              have hall : ∀ k ∈ ins, k ∈ J := fun k hk => Decidable.byContradiction fun hkJ => by
                have := nodup_le (ins := ins) (List.nodup_cons.2 ⟨hkJ, hs.1⟩) (fun z hz => by
                  rcases List.mem_cons.1 hz with rfl | hz
                  · exact hk
                  · exact hs.2.1 z hz)
                simp only [remOf] at hrem
                simp only [List.length_cons] at this
                omega
              have hjfl : j ∈ y :: ins ∨ j ∈ others i (y :: ins) ++ done := alone_outF hkind hoj hji (fun z hz => by
                rw [List.mem_append, others_mem]
                rcases List.mem_append.1 hz with hz | hz
                · exact .inl ⟨hsx z hz, fun he => by
                    rw [he] at hz
                    rcases List.mem_cons.1 (hsx i hz) with h | h
                    · exact hiy h
                    · exact hii h⟩
                · exact .inr hz) hrj
              have : j ∈ xsOf y (some J) ++ done := by
                rw [List.mem_append]
                rcases hjfl with h | h
                · left
                  rcases List.mem_cons.1 h with h | h
                  · simp [xsOf, h]
                  · simp [xsOf, hall j h]
                · rcases List.mem_append.1 h with h | h
                  · left
                    rcases List.mem_cons.1 (others_mem.1 h).1 with h | h
                    · simp [xsOf, h]
                    · simp [xsOf, hall j h]
                  · exact .inr h
              exact hun this
        | succ n ih =>
          intro x a W listed hrem hs hn hl
          have hsx : ∀ k ∈ xsOf y x, k ∈ y :: ins := fun k hk => by
            cases x with
            | none => simp [xsOf] at hk
            | some J =>
              rcases List.mem_cons.1 hk with rfl | hk
              · simp
              · exact List.mem_cons_of_mem _ (hs.2.1 k hk)
          have hir := (ready_iff hl hi).2 (hready' hsx hl)
          have hlen : (i :: r).length + (n + 1 + post.length) = (r.length + (n + 1 + post.length)) + 1 := by simp only [List.length_cons]; omega
          rw [hlen]
          refine ⟨fun h0 => by rw [h0] at hir; simp at hir, fun j hj => ?_⟩
          by_cases hji : j = i
          · subst hji
            unfold opT
            rw [hi]
            refine .inl ⟨by simp [Region.wanted, hig], (opA_sound hc hn.heap (fun x => hn.get x) h).mono fun v W' ⟨r', s', hp', σ', h1, h2, h3, h4, h5, h6, h7⟩ => ⟨next v r' hrem hs hn.nt h4 h2 (hn.put (hd oi hmem) h2 h3 h4 h5 h6) hl h1, h7⟩⟩
          · obtain ⟨oj, hoj⟩ := ready_some hj
            have hrj := (ready_iff hl hoj).1 hj
            have hun := (readyB_mem hrj).1
            have hjm : j ∈ y :: ins := by
              rcases alone_outF hkind hoj hji (fun z hz => by
                rw [List.mem_append, others_mem]
                rcases List.mem_append.1 hz with hz | hz
                · exact .inl ⟨hsx z hz, fun he => by
                    rw [he] at hz
                    rcases List.mem_cons.1 (hsx i hz) with h | h
                    · exact hiy h
                    · exact hii h⟩
                · exact .inr hz) hrj with h | h
              · exact h
              · rcases List.mem_append.1 h with h | h
                · exact (others_mem.1 h).1
                · exact absurd (List.mem_append.2 (.inr h)) hun
            have hfuel : r.length + (n + 1 + post.length) = (i :: r).length + (n + post.length) := by simp only [List.length_cons]; omega
            rw [hfuel]
            exact side_come hm hd hdp hl hoj hjm hrj hjunk hn hs fun a' W' x' k1 k2 k3 k4 => ih x' a' W' _ (by omega) k1 k2 k3
      exact main n x a W listed hrem hs hn hl
theorem draw_sound (hc : CallOK C call) (hmix : C.P.follows .mixedOrders = true) {f : FuncId} {id : Nat} {ops : Array Oper} {K : St → Prop} {Q : Exit → Act → World → Prop} (hd : ∀ o ∈ ops.toList, ∀ k, o.dst = some k → k < E.nt)
    (hw : drawsOk C f (.region id ops true) = true) (hn : Now E s a W hp σ) (h : drawA C call ops.toList (C.draws f id) (C.drawm f id) (C.drawf f id) s K) (hQ : ∀ s' a' W' hp' σ', Now E s' a' W' hp' σ' → K s' → Q .normal a' W') : (Code.region id ops true).wp C.P Q a W := by
  unfold drawA at h
  unfold drawsOk at hw
  have hn0 : Now E s a { W with drawn := W.drawn + 1 } hp σ := hn.world (W' := { W with drawn := W.drawn + 1 }) (Nat.le_refl _) (fun _ _ => rfl) rfl rfl rfl
  have hLst0 : Lst ops (Array.replicate ops.size false) [] := ⟨by simp, by simp, fun j hj => by simp [Array.getElem?_replicate, hj, has]⟩
  cases hl : C.draws f id with
  | none =>
    rw [hl] at h hw
    cases ht : C.drawm f id with
    | none =>
      rw [ht] at h hw
      cases hf : C.drawf f id with
      | none => rw [hf] at h; exact h.elim
      | some fl =>
        rw [hf] at h hw
        obtain ⟨pre, y, ins, post⟩ := fl
        simp only [drawfOk, Bool.and_eq_true, decide_eq_true_eq] at hw
        obtain ⟨⟨hsel, hlen⟩, hmap⟩ := hw
        obtain ⟨oy, t, d, hm, hpre, hpost⟩ := mapY_of hmap
        have hd' : d < E.nt := hd oy (by rw [Array.mem_toList_iff]; exact Array.mem_of_getElem? hm.o) d hm.dst
        have h' : wpOpsA C call ops.toList (pickOps ops.toList pre) ⟨(d, .junk) :: s.t, s.H⟩ (fun s => mkMapA C.P (ops.toList[y]?) (mapParts s (pickOps ops.toList ins)) s fun s => wpOpsA C call ops.toList (pickOps ops.toList post) s K) := by
          have h2 : drawF C call ops.toList ⟨pre, y, ins, post⟩ s K := h
          unfold drawF at h2
          rw [show ((ops.toList[y]?).bind (·.dst)) = some d by rw [Array.getElem?_toList, hm.o]; exact hm.dst] at h2
          exact h2
        refine wp_region_any hmix ?_
        have := map_run (R := fun a W => Q .normal a W) hc (Region.noSelect_spec hsel) hQ hd hm hpost pre [] hpre (by simp) (fun _ h => h) (fun x hx => .inr hx) (ins.length + 1) none ⟨(d, .junk) :: s.t, s.H⟩ a _ hp σ (Array.replicate ops.size false) rfl trivial (by simp [St.tmp, find])
          (hn0.told (d := d) (x := .junk) (by simp [Rel])) hLst0 h'
        exact anyT_wp (R := fun a W => Q .normal a W) (fun _ _ h => h) _ _ _ _ (anyT_le (by simp only [List.length_cons, List.length_append] at hlen; omega) this)
    | some t =>
      rw [ht] at h hw
      simp only at h hw
      unfold drawmOk at hw
      simp only [Bool.and_eq_true] at hw
      refine wp_region_any hmix ?_
      have := tree_run (R := fun a W => Q .normal a W) hc (Region.noSelect_spec hw.1) hQ hd _ [] t hw.2 s a _ hp σ hn0 h _ hLst0
      exact anyT_wp (R := fun a W => Q .normal a W) (fun _ _ h => h) _ _ _ _ this
  | some l =>
    rw [hl] at h hw
    simp only at h hw
    unfold drawOk at hw
    simp only [Bool.and_eq_true, decide_eq_true_eq] at hw
    obtain ⟨⟨hsel, hlen⟩, hw⟩ := hw
    have hn1 : Now E s a { W with drawn := W.drawn + 1 } hp σ := hn.world (W' := { W with drawn := W.drawn + 1 }) (Nat.le_refl _) (fun _ _ => rfl) rfl rfl rfl
    have hLst : Lst ops (Array.replicate ops.size false) [] := ⟨by simp, by simp, fun j hj => by simp [Array.getElem?_replicate, hj, has]⟩
    have main : ∀ ys : List Nat, orderOk C ops ys [] l = true → (∀ y, y ∈ ys → y ∈ l) → (∀ j oj, ops[j]? = some oj → isY oj = true → ys = [j]) → (∀ y, y ∈ ys → ∃ oy e d us z ti, VarY C ops ys y oy e d us z ti) → (Code.region id ops true).wp C.P Q a W := fun ys h1 h2 h3 h4 =>
      wp_region_any hmix (anyT_wp (R := fun a W => Q .normal a W) (fun _ _ h => h) _ _ _ _ (anyT_le hlen
        ((draw_run (R := fun a W => Q .normal a W) hc (Region.noSelect_spec hsel) hQ hd ys h3 h4 l [] h1 (by simp) (fun y hy => .inr (h2 y hy))).2 s a _ hp σ hn1 h _ hLst)))
    split at hw
    · rename_i hf
      refine main [] hw (by simp) (fun j oj hoj hy => ?_) (by simp)
      have := List.find?_eq_none.1 hf j (List.mem_range.2 (Array.getElem?_eq_some_iff.1 hoj).1)
      rw [hoj] at this
      simp [hy] at this
    · rename_i y hf
      obtain ⟨⟨h1, h2⟩, h3⟩ := (by simpa only [Bool.and_eq_true] using hw : (_ ∧ _) ∧ _)
      have hy := List.find?_some hf
      cases hoy : ops[y]? with
      | none => rw [hoy] at hy; simp at hy
      | some oy =>
        rw [hoy] at hy h3
        simp only [Bool.and_eq_true] at h3
        obtain ⟨h3, h4⟩ := h3
        have hvar : ∀ j oj, ops[j]? = some oj → j ≠ y → isY oj = false ∧ (waitsFor oj y = true ∨ (Oper.apart ops oy oj = true ∧ Oper.apart ops oj oy = true)) := fun j oj hoj hjy => by
          unfold varOk at h3
          have := List.all_eq_true.1 h3 j (List.mem_range.2 (Array.getElem?_eq_some_iff.1 hoj).1)
          simpa [hoj, hjy] using this
        refine main [y] h1 (fun y' hy' => by simp at hy'; subst hy'; exact has_iff.1 h2) (fun j oj hoj hj => ?_) (fun y' hy' => ?_)
        · by_cases hjy : j = y
          · rw [hjy]
          · rw [(hvar j oj hoj hjy).1] at hj
            simp at hj
        · simp only [List.mem_singleton] at hy'
          subst hy'
          simp only at hy
          unfold isY at hy
          split at hy
          · rename_i e he
            rw [he] at h4
            simp only at h4
            obtain ⟨zs, hz⟩ := Option.isSome_iff_exists.1 h4
            obtain ⟨ti, z, us, h5, h6, h7, rfl, h8⟩ := zero_of hz
            simp only [Bool.and_eq_true, Option.isNone_iff_eq_none] at hy
            obtain ⟨d, hdst⟩ := Option.isSome_iff_exists.1 hy.2
            exact ⟨oy, e, d, us, z, ti, rfl, hoy, he, hdst, hy.1, h5, h6, h7, hz, h8, fun j oj hoj hjy => (hvar j oj hoj hjy).2⟩
          · simp at hy
end
end Go.Ai

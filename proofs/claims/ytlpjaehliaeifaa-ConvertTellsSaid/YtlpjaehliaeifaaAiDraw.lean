/- A region that draws its order: one order stands for all. -/
import Derived.Test.YtlpjaehliaeifaaAiOrd
set_option linter.unusedVariables false
set_option linter.unusedSimpArgs false
namespace Go.Ai
section
variable {C : Cfg} {call : Callee} {E : Ent} {s : St} {a : Act} {W W' : World} {hp hp' : Im} {σ σ' : Sg} {ops : Array Oper}
theorem dsts_of {id : Nat} {ops : Array Oper} {d : Bool} {n : Nat} (h : dstsOk n (.region id ops d) = true) : ∀ o ∈ ops.toList, ∀ k, o.dst = some k → k < n := by
  intro o ho k hk
  have h1 : (ops.toList.all fun o => match o.dst with
    | none => true
    | some d => decide (d < n)) = true := by cases d <;> exact h
  have := List.all_eq_true.1 h1 o ho
  rw [hk] at this
  simpa using this
/-- One operation of a region, told with what it leaves standing. -/
def opT (C : Cfg) (ops : Array Oper) (i : Nat) (K : Act → World → Prop) (a : Act) (W : World) : Prop :=
  match ops[i]? with
  | none => K a W
  | some o => (Region.wanted o (yielded ops a.tmps) = true ∧ Ends C.P o a W fun v W' => K (a.put o.dst v) W' ∧ (grows C o = true → Grow W W')) ∨ (Region.wanted o (yielded ops a.tmps) = false ∧ K (a.put o.dst undef) W)
def anyT (C : Cfg) (ops : Array Oper) (R : Act → World → Prop) : Nat → Array Bool → Act → World → Prop
  | 0, listed, a, w => Region.ready .any ops listed = [] ∧ R a w
  | fuel + 1, listed, a, w => (Region.ready .any ops listed = [] → R a w) ∧ ∀ i ∈ Region.ready .any ops listed, opT C ops i (anyT C ops R fuel (listed.setIfInBounds i true)) a w
theorem opT_mono {i : Nat} {K K' : Act → World → Prop} (h : ∀ a w, K a w → K' a w) (hh : opT C ops i K a W) : opT C ops i K' a W := by
  unfold opT at *
  split
  · rename_i he
    rw [he] at hh
    exact h _ _ hh
  · rename_i o he
    rw [he] at hh
    rcases hh with ⟨h1, h2⟩ | ⟨h1, h2⟩
    · exact .inl ⟨h1, h2.mono fun v W' hk => ⟨h _ _ hk.1, hk.2⟩⟩
    · exact .inr ⟨h1, h _ _ h2⟩
theorem opT_wp {i : Nat} {K : Act → World → Prop} {Q : Exit → Act → World → Prop} (hh : opT C ops i K a W) : wpOp C.P ops Q i K a W := by
  unfold opT at hh
  unfold wpOp
  split
  · rename_i he
    rw [he] at hh
    exact hh
  · rename_i o he
    rw [he] at hh
    rcases hh with ⟨h1, h2⟩ | ⟨h1, h2⟩
    · rw [if_pos h1]
      exact .inl (h2.wp fun v W' hk => hk.1)
    · rw [if_neg (by rw [h1]; simp)]
      exact h2
theorem anyT_wp {R : Act → World → Prop} {Q : Exit → Act → World → Prop} (hR : ∀ a w, R a w → Q .normal a w) : ∀ (fuel : Nat) (listed : Array Bool) (a : Act) (W : World), anyT C ops R fuel listed a W → wpAny C.P .any ops Q fuel listed a W
  | 0, listed, a, W, h => ⟨h.1, hR _ _ h.2⟩
  | fuel + 1, listed, a, W, h => ⟨fun h0 => hR _ _ (h.1 h0), fun i hi => opT_wp (opT_mono (fun a w hk => anyT_wp hR fuel _ a w hk) (h.2 i hi))⟩
/-- An operation's value is settled. -/
def Yl (C : Cfg) (ops : Array Oper) (o : Oper) (v : Value) (a : Act) (W : World) : Prop :=
  (Region.wanted o (yielded ops a.tmps) = true ∧ ∀ w, (isF0 o = true ∨ Grow W w) → (execOp a.eval o).run C.P w = .ok (.value v) w) ∨ (Region.wanted o (yielded ops a.tmps) = false ∧ v = undef)
theorem Yl.opT {i : Nat} {o : Oper} {v : Value} {K : Act → World → Prop} (hi : ops[i]? = some o) (hy : Yl C ops o v a W) (h : K (a.put o.dst v) W) : opT C ops i K a W := by
  unfold Ai.opT
  rw [hi]
  rcases hy with ⟨h1, h2⟩ | ⟨h1, rfl⟩
  · exact .inl ⟨h1, .value v W (h2 W (.inr (Grow.refl W))) ⟨h, fun _ => Grow.refl W⟩⟩
  · exact .inr ⟨h1, h⟩
theorem Yl.same {o : Oper} {v : Value} {a' : Act} (hy : Yl C ops o v a W) (he : execOp a'.eval o = execOp a.eval o) (hw : Region.wanted o (yielded ops a'.tmps) = Region.wanted o (yielded ops a.tmps)) (hg : isF0 o = true ∨ Grow W W') : Yl C ops o v a' W' := by
  unfold Yl at *
  rw [he, hw]
  refine hy.imp_left fun ⟨h1, h2⟩ => ⟨h1, fun w hw => h2 w ?_⟩
  rcases hg with hg | hg
  · exact .inl hg
  · exact hw.imp_right fun h => hg.trans h
theorem Ends.same {o : Oper} {a' : Act} {K : Value → World → Prop} (he : execOp a'.eval o = execOp a.eval o) (h : Ends C.P o a W K) : Ends C.P o a' W K := by
  cases h with
  | value v W' h1 h2 => exact .value v W' (by rw [he]; exact h1) h2
  | skip W' h1 h2 => exact .skip W' (by rw [he]; exact h1) h2
  | enter f args W' h1 h2 => exact .enter f args W' (by rw [he]; exact h1) h2
theorem opT_put {j : Nat} {oi oj : Oper} {v : Value} (hj : ops[j]? = some oj) (hap : oi.apart ops oj = true) (hsi : ∀ cs b, oi.op ≠ .select cs b) (hsj : ∀ cs b, oj.op ≠ .select cs b) (hgr : isF0 oi = true ∨ grows C oj = true)
    {K : Act → World → Prop} (hy : Yl C ops oi v a W) (h : opT C ops j K (a.put oi.dst v) W) : opT C ops j (fun a' w' => Yl C ops oi v a' w' ∧ K (a'.put oi.dst v) w') a W := by
  obtain ⟨h1, h2, h3⟩ := Oper.apart_spec hap
  unfold opT at *
  rw [hj] at h ⊢
  simp only at h ⊢
  rw [wanted_put oj a oi.dst v h1] at h
  have keep : ∀ u W', (isF0 oi = true ∨ Grow W W') → Yl C ops oi v (a.put oj.dst u) W' := fun u W' hg => hy.same (execOp_put oi hsi a oj.dst u h3) (wanted_put oi a oj.dst u h3) hg
  rcases h with ⟨hw, he⟩ | ⟨hw, hk⟩
  · refine .inl ⟨hw, (he.same (execOp_put oj hsj a oi.dst v h1).symm).mono fun u W' ⟨hk, hg⟩ => ⟨⟨keep u W' (hgr.imp_right hg), ?_⟩, hg⟩⟩
    rw [← Act.put_comm a v u h2]
    exact hk
  · refine .inr ⟨hw, keep undef W (.inr (Grow.refl W)), ?_⟩
    rw [← Act.put_comm a v undef h2]
    exact hk
/-- What waits for `i`, be it by way of others. -/
def Beh (ops : Array Oper) (i : Nat) (done : List Nat) (j : Nat) : Prop := ∃ n, waitsT ops i done n j = true
theorem beh_step {i j : Nat} {done : List Nat} (h : Beh ops i done j) : ∃ oj e, ops[j]? = some oj ∧ has j done = false ∧ isY oj = false ∧ e ∈ oj.after ∧ Region.binds .any e = true ∧ (e.on = i ∨ Beh ops i done e.on) := by
  obtain ⟨n, h⟩ := h
  cases n with
  | zero => simp [waitsT] at h
  | succ n =>
    unfold waitsT at h
    cases hj : ops[j]? with
    | none => rw [hj] at h; simp at h
    | some oj =>
      rw [hj] at h
      simp only [Bool.and_eq_true, Bool.not_eq_true'] at h
      obtain ⟨⟨h1, h2⟩, h3⟩ := h
      obtain ⟨e, he, hb⟩ := Array.any_eq_true'.1 h3
      simp only [Bool.and_eq_true, Bool.or_eq_true, beq_iff_eq] at hb
      exact ⟨oj, e, rfl, h1, h2, he, hb.1, hb.2.imp id fun h => ⟨n, h⟩⟩
theorem firstT {R : Act → World → Prop} {i : Nat} {done : List Nat} {oi : Oper} {v : Value} (hi : ops[i]? = some oi) (hsel : ∀ (j : Nat) (o : Oper) cs b, ops[j]? = some o → o.op ≠ .select cs b) :
    ∀ (fuel : Nat) (listed : Array Bool) (a : Act) (W : World),
      (∀ j oj, ops[j]? = some oj → j ≠ i → listed.getD j true = false → (∀ e ∈ oj.after, Region.binds .any e = true → e.on ≠ i) → ¬ Beh ops i done j → oi.apart ops oj = true ∧ (isF0 oi = true ∨ grows C oj = true)) →
      (∀ k, Beh ops i done k → listed.getD k true = false) →
      i ∈ Region.ready .any ops listed → Yl C ops oi v a W →
      anyT C ops R fuel (listed.setIfInBounds i true) (a.put oi.dst v) W → anyT C ops R (fuel + 1) listed a W := by
  intro fuel
  induction fuel with
  | zero =>
    intro listed a W _ _ hr hy H
    refine ⟨fun h => (by rw [h] at hr; cases hr), fun j hj => ?_⟩
    by_cases hji : j = i
    · subst hji; exact hy.opT hi H
    · have := ready_mono hj hji
      rw [H.1] at this
      cases this
  | succ fuel ih =>
    intro listed a W hfree hbeh hr hy H
    refine ⟨fun h => (by rw [h] at hr; cases hr), fun j hj => ?_⟩
    by_cases hji : j = i
    · subst hji; exact hy.opT hi H
    · have h1 := H.2 j (ready_mono hj hji)
      obtain ⟨hjun, oj, hoj, hall⟩ := mem_ready.1 hj
      have hnot : ∀ e ∈ oj.after, Region.binds .any e = true → e.on ≠ i := fun e he hb heq => by
        have h1 := hall e he hb
        have h0 := (mem_ready.1 hr).1
        rw [heq] at h1
        rcases Nat.lt_or_ge i listed.size with h' | h'
        · simp [h'] at h0 h1; rw [h0] at h1; cases h1
        · simp [Array.getElem?_eq_none h'] at h1
      have hnb : ¬ Beh ops i done j := fun hb => by
        obtain ⟨oj', e, ho', _, _, he, heb, hor⟩ := beh_step hb
        rw [hoj] at ho'
        simp only [Option.some.injEq] at ho'
        subst ho'
        rcases hor with h0 | h0
        · exact hnot e he heb h0
        · have h3 := hbeh _ h0
          have h4 := hall e he heb
          rw [Array.getD_eq_getD_getElem?] at h3
          rcases Nat.lt_or_ge e.on listed.size with h' | h'
          · simp [h'] at h3 h4; rw [h3] at h4; cases h4
          · simp [Array.getElem?_eq_none h'] at h3
      obtain ⟨hap, hgr⟩ := hfree j oj hoj hji hjun hnot hnb
      have h2 := opT_put hoj hap (fun cs b => hsel i oi cs b hi) (fun cs b => hsel j oj cs b hoj) hgr hy h1
      have hfree' : ∀ k ok, ops[k]? = some ok → k ≠ i → (listed.setIfInBounds j true).getD k true = false →
          (∀ e ∈ ok.after, Region.binds .any e = true → e.on ≠ i) → ¬ Beh ops i done k → oi.apart ops ok = true ∧ (isF0 oi = true ∨ grows C ok = true) := fun k ok hk hki hun hno hnb => by
        refine hfree k ok hk hki ?_ hno hnb
        by_cases hjk : j = k
        · subst hjk; exact hjun
        · rw [getD_set_ne true hjk] at hun; exact hun
      have hbeh' : ∀ k, Beh ops i done k → (listed.setIfInBounds j true).getD k true = false := fun k hk => by
        have hne : j ≠ k := fun he => hnb (by rw [he]; exact hk)
        rw [getD_set_ne true hne]
        exact hbeh k hk
      refine opT_mono (fun a' w' h3 => ih (listed.setIfInBounds j true) a' w' hfree' hbeh' (ready_mono hr (Ne.symm hji)) h3.1 ?_) h2
      rw [Array.setIfInBounds_comm _ _ hji]
      exact h3.2
/-! ### What is listed -/
def Lst (ops : Array Oper) (listed : Array Bool) (X : List Nat) : Prop := listed.size = ops.size ∧ (∀ x ∈ X, x < ops.size) ∧ ∀ j, j < ops.size → (listed[j]? = some (has j X))
theorem Lst.put {listed : Array Bool} {X : List Nat} {i : Nat} (h : Lst ops listed X) (hi : i < ops.size) : Lst ops (listed.setIfInBounds i true) (i :: X) := by
  refine ⟨by simpa using h.1, fun x hx => ?_, fun j hj => ?_⟩
  · rcases List.mem_cons.1 hx with rfl | hx
    · exact hi
    · exact h.2.1 x hx
  · rw [Array.getElem?_setIfInBounds]
    unfold has
    split
    · simp [h.1, hi]
    · exact h.2.2 j hj
theorem Lst.same {listed : Array Bool} {X Y : List Nat} (h : Lst ops listed X) (hxy : ∀ x, x ∈ X ↔ x ∈ Y) : Lst ops listed Y := by
  refine ⟨h.1, fun x hx => h.2.1 x ((hxy x).2 hx), fun j hj => ?_⟩
  rw [h.2.2 j hj]
  congr 1
  rw [Bool.eq_iff_iff, has_iff, has_iff]
  exact hxy j
theorem ready_iff {listed : Array Bool} {X : List Nat} (h : Lst ops listed X) {j : Nat} {o : Oper} (ho : ops[j]? = some o) : j ∈ Region.ready .any ops listed ↔ readyB o j X = true := by
  have hj := (Array.getElem?_eq_some_iff.1 ho).1
  have hg : ∀ (k : Nat) (d : Bool), k < ops.size → listed.getD k d = has k X := fun k d hk => by
    rw [Array.getD_eq_getD_getElem?, h.2.2 k hk]
    rfl
  rw [mem_ready]
  unfold readyB
  simp only [Bool.and_eq_true, Bool.not_eq_true', Array.all_eq_true_iff_forall_mem, Bool.or_eq_true]
  constructor
  · rintro ⟨h1, o', ho', h2⟩
    rw [ho] at ho'
    simp only [Option.some.injEq] at ho'
    subst ho'
    refine ⟨by rw [← hg j true hj]; exact h1, fun e he => ?_⟩
    cases hb : Region.binds .any e
    · exact .inl rfl
    · refine .inr ?_
      have h3 := h2 e he hb
      rcases Nat.lt_or_ge e.on ops.size with h4 | h4
      · rw [← hg e.on false h4]; exact h3
      · simp [Array.getD_eq_getD_getElem?, Array.getElem?_eq_none (show listed.size ≤ e.on by rw [h.1]; exact h4)] at h3
  · rintro ⟨h1, h2⟩
    refine ⟨by rw [hg j true hj]; exact h1, o, ho, fun e he hb => ?_⟩
    have h3 := (h2 e he).resolve_left (by rw [hb]; simp)
    have h4 := h.2.1 e.on (has_iff.1 h3)
    rw [hg e.on false h4]
    exact h3
theorem ready_some {listed : Array Bool} {j : Nat} (h : j ∈ Region.ready .any ops listed) : ∃ o, ops[j]? = some o := by
  obtain ⟨_, o, ho, _⟩ := mem_ready.1 h
  exact ⟨o, ho⟩
/-! ### All orders -/
/-- A new variable that came ahead of its turn. -/
structure Early (E : Ent) (k : Nat) (us : List Value) (e : TypeId) (W : World) (hp : Im) (σ : Sg) : Prop where
  heap : W.heap[k]? = some (.cells us.toArray e (0, 0))
  im : hp k = none
  free : ∀ id v, σ id = some v → bn v ≠ some k
  new : E.W.heap.size ≤ k
theorem Early.step {k : Nat} {us : List Value} {e : TypeId} (h : Early E k us e W hp σ) (hev : Ev ⟨hp, σ, W, 0⟩ hp' σ' W') : Early E k us e W' hp' σ' := by
  have hk := (Array.getElem?_eq_some_iff.1 h.heap).1
  have hno : ¬ (⟨hp, σ, W, 0⟩ : Ent).owns k := fun ⟨id, v, h1, h2⟩ => h.free id v h1 h2
  refine ⟨by rw [hev.keep k hk hno]; exact h.heap, ?_, fun id v h1 h2 => ?_, h.new⟩
  · cases hh : hp' k with
    | none => rfl
    | some o =>
      rcases hev.imNew k o hh with h3 | h3 | h3
      · have := h.im
        simp only at h3
        rw [this] at h3
        simp at h3
      · simp only at h3
        omega
      · exact absurd h3 hno
  · rcases hev.sgNew id v k h1 h2 with h3 | h3
    · simp only at h3
      omega
    · exact absurd h3 hno

theorem Now.world (h : Now E s a W hp σ) (hs : W.heap.size ≤ W'.heap.size) (hk : ∀ k, k < W.heap.size → W'.heap[k]? = W.heap[k]?) (ht : W'.tape = W.tape) (ho : W'.os = W.os) (hout : W'.output = W.output) : Now E s a W' hp σ :=
  ⟨h.heap.stays hs hk, h.tmps, h.ev.trans (n := 0) ⟨hs, ht, ho, hout, ImLe.refl _, fun k hk' _ => hk k hk', fun _ _ h => .inl h, fun i v k h1 h2 => .inr ⟨i, v, h1, h2⟩⟩, h.defers, h.nt, h.sg⟩
theorem f_step {o : Oper} {rest : List Oper} {K : St → Prop} (hf : (isF0 o || isF1 o) = true) (hn : Now E s a W hp σ) (hd : ∀ k, o.dst = some k → k < E.nt) (h : wpOpsA C call ops.toList (o :: rest) s K) :
    ∃ v s', Yl C ops o v a W ∧ Now E s' (a.put o.dst v) W hp σ ∧ wpOpsA C call ops.toList rest s' K := by
  rcases guard_step hn hd h with ⟨hw, s1, h1, h2⟩ | ⟨hw, s1, h1, h2⟩
  · by_cases h0 : isF0 o = true
    · obtain ⟨v, r, h3, h4, h5⟩ := opF0_sound (hp := hp) (σ := σ) h0 h1.heap (fun x => h1.get x) h2
      exact ⟨v, _, .inl ⟨hw, fun w _ => h3 w⟩, h1.put hd rfl h1.heap (Ev.refl _ _ _ _) (SgLe.refl _) h5, h4⟩
    · have hf1 : isF1 o = true := by simpa [h0] using hf
      obtain ⟨v, r, h3, h4, h5⟩ := opF1_sound (hp := hp) (σ := σ) (W := W) hf1 h1.heap (fun x => h1.get x) h2
      refine ⟨v, _, .inl ⟨hw, fun w hg => h3 w (hg.resolve_left h0)⟩, h1.put hd rfl h1.heap (Ev.refl _ _ _ _) (SgLe.refl _) h5, h4⟩
  · exact ⟨undef, s1, .inr ⟨hw, rfl⟩, h1, h2⟩
/-- What is known of the one new variable. -/
structure VarY (C : Cfg) (ops : Array Oper) (ys : List Nat) (y : Nat) (oy : Oper) (e : TypeId) (d : Nat) (us : List Value) (z : Value) (ti : TypeInfo) : Prop where
  ys : ys = [y]
  o : ops[y]? = some oy
  op : oy.op = .alloc e
  dst : oy.dst = some d
  guard : oy.guard = none
  info : C.P.info? e = some ti
  zero : ti.zero = some z
  cells : z.cells = us.toArray
  zc : zeroC C.P e = some (us.map .v)
  rel : ∀ hp σ, RelL hp σ (us.map .v) us
  ok : ∀ j oj, ops[j]? = some oj → j ≠ y → waitsFor oj y = true ∨ (Oper.apart ops oy oj = true ∧ Oper.apart ops oj oy = true)
theorem VarY.notF {ys : List Nat} {y : Nat} {oy : Oper} {e : TypeId} {d : Nat} {us : List Value} {z : Value} {ti : TypeInfo} (h : VarY C ops ys y oy e d us z ti) : (isF0 oy || isF1 oy) = false := by
  obtain ⟨dst, op, ty, pos, af, g⟩ := oy
  have := h.op
  simp only at this
  subst this
  rfl
theorem has_false {n : Nat} {l : List Nat} : has n l = false ↔ n ∉ l := by
  rw [← has_iff]
  simp
theorem readyB_mem {o : Oper} {j : Nat} {X : List Nat} (h : readyB o j X = true) : j ∉ X ∧ ∀ e ∈ o.after, Region.binds .any e = true → e.on ∈ X := by
  unfold readyB at h
  simp only [Bool.and_eq_true, Bool.not_eq_true', Array.all_eq_true_iff_forall_mem, Bool.or_eq_true] at h
  exact ⟨has_false.1 h.1, fun e he hb => has_iff.1 ((h.2 e he).resolve_left (by rw [hb]; simp))⟩
theorem waits_mem {o : Oper} {j y : Nat} {X : List Nat} (h : readyB o j X = true) (hw : waitsFor o y = true) : y ∈ X := by
  unfold waitsFor at hw
  obtain ⟨e, he, hb⟩ := Array.any_eq_true'.1 hw
  simp only [Bool.and_eq_true, beq_iff_eq] at hb
  rw [← hb.2]
  exact (readyB_mem h).2 e he hb.1
theorem others_mem {i y : Nat} : ∀ {ys : List Nat}, y ∈ others i ys ↔ y ∈ ys ∧ y ≠ i
  | [] => by simp [others]
  | x :: r => by
    unfold others
    split
    · rename_i h
      rw [others_mem (ys := r)]
      constructor
      · rintro ⟨h1, h2⟩; exact ⟨List.mem_cons_of_mem _ h1, h2⟩
      · rintro ⟨h1, h2⟩
        rcases List.mem_cons.1 h1 with rfl | h1
        · exact absurd h h2
        · exact ⟨h1, h2⟩
    · rename_i h
      rw [List.mem_cons, others_mem (ys := r)]
      constructor
      · rintro (rfl | ⟨h1, h2⟩)
        · exact ⟨List.mem_cons_self .., h⟩
        · exact ⟨List.mem_cons_of_mem _ h1, h2⟩
      · rintro ⟨h1, h2⟩
        rcases List.mem_cons.1 h1 with rfl | h1
        · exact .inl rfl
        · exact .inr ⟨h1, h2⟩
theorem alone_out {i j : Nat} {L X : List Nat} {oj : Oper} (h : aloneOk ops i L = true) (hj : ops[j]? = some oj) (hji : j ≠ i) (hX : ∀ x ∈ X, x ∈ L) (hr : readyB oj j X = true) : isY oj = true ∨ j ∈ L := by
  unfold aloneOk at h
  have h1 := List.all_eq_true.1 h j (List.mem_range.2 (Array.getElem?_eq_some_iff.1 hj).1)
  simp only [hj, Bool.or_eq_true, beq_iff_eq, hji, false_or, Bool.not_eq_true'] at h1
  rcases h1 with h1 | h1
  · exact .inl h1
  · by_cases hm : j ∈ L
    · exact .inr hm
    · have h2 : readyB oj j L = true := by
        obtain ⟨_, h3⟩ := readyB_mem hr
        unfold readyB
        simp only [Bool.and_eq_true, Bool.not_eq_true', Array.all_eq_true_iff_forall_mem, Bool.or_eq_true]
        refine ⟨has_false.2 hm, fun e he => ?_⟩
        cases hb : Region.binds .any e
        · exact .inl rfl
        · exact .inr (has_iff.2 (hX _ (h3 e he hb)))
      rw [h2] at h1
      simp at h1
theorem rest_out {i : Nat} {done : List Nat} {oi : Oper} (h : restOk C ops oi i done = true) (j : Nat) (oj : Oper) (hj : ops[j]? = some oj) (hji : j ≠ i) (hd : j ∉ done) (hno : ∀ e ∈ oj.after, Region.binds .any e = true → e.on ≠ i) (hnb : ¬ Beh ops i done j) :
    oi.apart ops oj = true ∧ (isF0 oi = true ∨ grows C oj = true) := by
  unfold restOk at h
  have h1 := List.all_eq_true.1 h j (List.mem_range.2 (Array.getElem?_eq_some_iff.1 hj).1)
  simp only [hj, Bool.or_eq_true, beq_iff_eq, hji, or_false, has_false.2 hd, Bool.false_eq_true, false_or, Bool.and_eq_true] at h1
  rcases h1 with (h1 | ⟨h1, h2⟩) | h1
  rotate_left 2
  · exact absurd ⟨3, h1⟩ hnb
  · unfold waitsFor at h1
    obtain ⟨e, he, hb⟩ := Array.any_eq_true'.1 h1
    simp only [Bool.and_eq_true, beq_iff_eq] at hb
    exact absurd hb.2 (hno e he hb.1)
  · refine ⟨h1, ?_⟩
    unfold grows
    simp only [Bool.or_eq_true]
    rcases h2 with ((h2 | h2) | h2) | h2
    · exact .inl h2
    · exact .inr (.inl (.inl h2))
    · exact .inr (.inl (.inr h2))
    · exact .inr (.inr h2)
theorem beh_un {listed : Array Bool} {X done : List Nat} {i k : Nat} (hl : Lst ops listed X) (hX : ∀ x ∈ X, x ∈ done ∨ ∃ ox, ops[x]? = some ox ∧ isY ox = true) (hb : Beh ops i done k) : listed.getD k true = false := by
  obtain ⟨ok, e, ho, hd, hy, _⟩ := beh_step hb
  rw [Array.getD_eq_getD_getElem?, hl.2.2 k (Array.getElem?_eq_some_iff.1 ho).1]
  simp only [Option.getD_some]
  refine has_false.2 fun hk => ?_
  rcases hX k hk with h | ⟨ox, h1, h2⟩
  · exact has_false.1 hd h
  · rw [ho] at h1
    simp only [Option.some.injEq] at h1
    subst h1
    rw [hy] at h2
    cases h2
theorem draw_run (hc : CallOK C call) {K : St → Prop} {R : Act → World → Prop} (hsel : ∀ (j : Nat) (o : Oper) cs b, ops[j]? = some o → o.op ≠ .select cs b) (hR : ∀ s' a' W' hp' σ', Now E s' a' W' hp' σ' → K s' → R a' W')
    (hd : ∀ o ∈ ops.toList, ∀ k, o.dst = some k → k < E.nt) (ys : List Nat) (hY : ∀ j oj, ops[j]? = some oj → isY oj = true → ys = [j]) (hYV : ∀ y, y ∈ ys → ∃ oy e d us z ti, VarY C ops ys y oy e d us z ti) :
    ∀ (l done : List Nat), orderOk C ops ys done l = true → (∀ x ∈ done, x < ops.size) → (∀ y, y ∈ ys → y ∈ done ∨ y ∈ l) →
      (∀ (s : St) (a : Act) (W : World) (hp : Im) (σ : Sg) y oy e d us z ti, VarY C ops ys y oy e d us z ti → y ∉ done → y ∈ l → Now E s a W hp σ → wpOpsA C call ops.toList (pickOps ops.toList l) s K → ∀ k, Early E k us e W hp σ →
        ∀ listed, Lst ops listed (y :: done) → anyT C ops R (l.length - 1) listed (a.put (some d) (.pointer (some ⟨k, 0, none⟩))) W) ∧
      (∀ (s : St) (a : Act) (W : World) (hp : Im) (σ : Sg), Now E s a W hp σ → wpOpsA C call ops.toList (pickOps ops.toList l) s K → ∀ listed, Lst ops listed done → anyT C ops R l.length listed a W)
  | [], done, ho, hlt, hyd => by
    refine ⟨fun s a W hp σ y oy e d us z ti _ _ hy => by simp at hy, fun s a W hp σ hn h listed hl => ⟨?_, hR s a W hp σ hn h⟩⟩
    refine List.eq_nil_iff_forall_not_mem.2 fun j hj => ?_
    obtain ⟨oj, hoj⟩ := ready_some hj
    obtain ⟨h1, _⟩ := readyB_mem ((ready_iff hl hoj).1 hj)
    unfold orderOk at ho
    have := List.all_eq_true.1 ho j (List.mem_range.2 (Array.getElem?_eq_some_iff.1 hoj).1)
    exact h1 (has_iff.1 this)
  | i :: r, done, ho, hlt, hyd => by
    unfold orderOk at ho
    cases hi : ops[i]? with
    | none => rw [hi] at ho; simp at ho
    | some oi =>
      rw [hi] at ho
      simp only [Bool.and_eq_true] at ho
      obtain ⟨⟨hready, hkind⟩, hrest⟩ := ho
      have hil : i < ops.size := (Array.getElem?_eq_some_iff.1 hi).1
      have hidst : ∀ k, oi.dst = some k → k < E.nt := hd oi (Array.mem_toList_iff.2 (Array.mem_of_getElem? hi))
      have hpick : pickOps ops.toList (i :: r) = oi :: pickOps ops.toList r := by
        simp [pickOps, hi]
      obtain ⟨hnd, hafter⟩ := readyB_mem hready
      obtain ⟨ihB, ihA⟩ := draw_run hc hsel hR hd ys hY hYV r (i :: done) hrest (fun x hx => by rcases List.mem_cons.1 hx with rfl | hx <;> first | exact hil | exact hlt x hx) (fun y hy => by
        rcases hyd y hy with h1 | h1
        · exact .inl (by simp [h1])
        · rcases List.mem_cons.1 h1 with rfl | h1
          · exact .inl (by simp)
          · exact .inr h1)
      rw [hpick]
      -- what stands beside an early variable
      have hside : ∀ {y oy e d us z ti}, VarY C ops ys y oy e d us z ti → y ∉ done → i ≠ y → (∀ k, oi.dst = some k → k ≠ d) ∧ d ∉ oi.looksAt ops := fun {y oy e d us z ti} hv hyn hiy => by
        rcases hv.ok i oi hi hiy with h1 | ⟨h1, h2⟩
        · exact absurd (waits_mem hready h1) hyn
        · obtain ⟨h3, h4, _⟩ := Oper.apart_spec h1
          refine ⟨fun k hk he => h4 d hv.dst (by rw [hk, he]), h3 d hv.dst⟩
      have hreadyI : ∀ {listed}, Lst ops listed done → i ∈ Region.ready .any ops listed := fun {listed} hl => (ready_iff hl hi).2 hready
      have hreadyY : ∀ {listed y}, i ≠ y → Lst ops listed (y :: done) → i ∈ Region.ready .any ops listed := fun {listed y} hiy hl => (ready_iff hl hi).2 (by
        unfold readyB
        simp only [Bool.and_eq_true, Bool.not_eq_true', Array.all_eq_true_iff_forall_mem, Bool.or_eq_true]
        refine ⟨has_false.2 (by simp [hiy, hnd]), fun e he => ?_⟩
        cases hb : Region.binds .any e
        · exact .inl rfl
        · exact .inr (has_iff.2 (by simp [hafter e he hb])))
      have hLY : ∀ {listed y}, Lst ops listed (y :: done) → Lst ops (listed.setIfInBounds i true) (y :: i :: done) := fun {listed y} hl => (hl.put hil).same fun x => by simp only [List.mem_cons]; constructor <;> (rintro (h | h | h) <;> simp [h])
      by_cases hF : (isF0 oi || isF1 oi) = true
      · -- it looks only: it may come at any time
        rw [if_pos hF] at hkind
        have hfree : ∀ (listed : Array Bool) (X : List Nat), Lst ops listed X → (∀ x ∈ done, x ∈ X) → ∀ j oj, ops[j]? = some oj → j ≠ i → listed.getD j true = false → (∀ e ∈ oj.after, Region.binds .any e = true → e.on ≠ i) → ¬ Beh ops i done j → oi.apart ops oj = true ∧ (isF0 oi = true ∨ grows C oj = true) := fun listed X hl hX j oj hj hji hun hno hnb => by
          refine rest_out hkind j oj hj hji (fun hm => ?_) hno hnb
          rw [Array.getD_eq_getD_getElem?, hl.2.2 j (Array.getElem?_eq_some_iff.1 hj).1] at hun
          simp only [Option.getD_some] at hun
          exact has_false.1 hun (hX j hm)
        refine ⟨fun s a W hp σ y oy e d us z ti hv hyn hyl hn h k hE listed hl => ?_, fun s a W hp σ hn h listed hl => ?_⟩
        · have hiy : i ≠ y := fun he => by
            subst he
            have := hv.o
            rw [hi] at this
            simp only [Option.some.injEq] at this
            subst this
            rw [hv.notF] at hF
            simp at hF
          have hyr : y ∈ r := by
            rcases List.mem_cons.1 hyl with h1 | h1
            · exact absurd h1.symm hiy
            · exact h1
          obtain ⟨v, s', h1, h2, h3⟩ := f_step hF hn hidst h
          obtain ⟨hs1, hs2⟩ := hside hv hyn hiy
          have hB := ihB s' _ W hp σ y oy e d us z ti hv (by simp [Ne.symm hiy, hyn]) hyr h2 h3 k hE _ (hLY hl)
          rw [Act.put_comm a v _ (fun k hk he => hs1 k hk (by simpa using he.symm))] at hB
          have hlen : (i :: r).length - 1 = (r.length - 1) + 1 := by
            have := List.length_pos_of_mem hyr
            simp
            omega
          rw [hlen]
          refine firstT hi hsel (r.length - 1) listed _ W (hfree listed _ hl (by simp_all)) (fun k hk => beh_un hl (fun x hx => by
            rcases List.mem_cons.1 hx with rfl | hx
            · exact .inr ⟨oy, hv.o, by unfold isY; rw [hv.op]; simp [hv.guard, hv.dst]⟩
            · exact .inl hx) hk) (hreadyY hiy hl) (h1.same ?_ ?_ (.inr (Grow.refl W))) hB
          · exact execOp_put oi (fun cs b => hsel i oi cs b hi) a (some d) _ fun d' hd' => by simp at hd'; subst hd'; exact hs2
          · exact wanted_put oi a (some d) _ fun d' hd' => by simp at hd'; subst hd'; exact hs2
        · obtain ⟨v, s', h1, h2, h3⟩ := f_step hF hn hidst h
          exact firstT hi hsel r.length listed a W (hfree listed _ hl (fun _ h => h)) (fun k hk => beh_un hl (fun x hx => .inl hx) hk) (hreadyI hl) h1 (ihA s' _ W hp σ h2 h3 _ (hl.put hil))
      · rw [if_neg hF] at hkind
        -- the operation itself
        have hop : ∀ {K' : Act → World → Prop} {s : St} {a : Act} {W : World} {hp : Im} {σ : Sg}, Now E s a W hp σ → wpOpsA C call ops.toList (oi :: pickOps ops.toList r) s K →
            (∀ (v : Value) (W' : World) (s' : St) (hp' : Im) (σ' : Sg), Now E s' (a.put oi.dst v) W' hp' σ' → wpOpsA C call ops.toList (pickOps ops.toList r) s' K → Ev ⟨hp, σ, W, 0⟩ hp' σ' W' → K' (a.put oi.dst v) W') → opT C ops i K' a W := fun {K' s a W hp σ} hn h hk => by
          unfold opT
          rw [hi]
          rcases guard_step hn hidst h with ⟨hw, s1, h1, h2⟩ | ⟨hw, s1, h1, h2⟩
          · refine .inl ⟨hw, (op_step (K := fun s1 => wpOpsA C call ops.toList (pickOps ops.toList r) s1 K) hc h1 hidst h2).mono fun v W' ⟨s', hp', σ', h3, h4, h5, h6, _⟩ => ⟨hk v W' s' hp' σ' h4 h3 h6, h5⟩⟩
          · exact .inr ⟨hw, hk undef W s1 hp σ h1 h2 (Ev.refl _ _ _ _)⟩
        have hB : ∀ (s : St) (a : Act) (W : World) (hp : Im) (σ : Sg) y oy e d us z ti, VarY C ops ys y oy e d us z ti → y ∉ done → y ∈ i :: r → Now E s a W hp σ → wpOpsA C call ops.toList (oi :: pickOps ops.toList r) s K → ∀ k, Early E k us e W hp σ →
            ∀ listed, Lst ops listed (y :: done) → anyT C ops R ((i :: r).length - 1) listed (a.put (some d) (.pointer (some ⟨k, 0, none⟩))) W := by
          intro s a W hp σ y oy e d us z ti hv hyn hyl hn h k hE listed hl
          by_cases hiy : i = y
          · -- its turn, and it has come already
            subst hiy
            have hoy := hv.o
            rw [hi] at hoy
            simp only [Option.some.injEq] at hoy
            subst hoy
            unfold wpOpsA at h
            rw [hv.guard] at h
            have h' : newVarA e (zeroC C.P e) s fun r' s' => wpOpsA C call ops.toList (pickOps ops.toList r) (s'.put oi.dst r') K := by
              obtain ⟨dst, op, ty, pos, af, g⟩ := oi
              have := hv.op
              simp only at this
              subst this
              exact h
            rw [hv.zc, hv.dst] at h'
            have hle := upd_le hn.heap.dom (.pointer (some ⟨k, 0, none⟩))
            refine ihA _ _ W hp (upd σ s.H.length (.pointer (some ⟨k, 0, none⟩))) ?_ h' listed hl
            have hsz := (Array.getElem?_eq_some_iff.1 hE.heap).1
            refine ⟨?_, fun m => ?_, ?_, hn.defers, (put_size _ _ _).trans hn.nt, hn.sg.trans hle⟩
            · refine hn.heap.step rfl (fun _ _ h => h) (Nat.le_refl _) (fun _ _ _ => rfl) (fun i' c w j hc' hw hj => ⟨rfl, fun hb => ?_⟩) (fun j hj => ?_) ?_
              · exact hE.free i' w hw (by rw [hj]; simpa [bn] using hb.symm)
              · simp only [bn, Option.some.injEq] at hj
                subst hj
                exact ⟨hsz, hE.im⟩
              · simp only [BlkRel]
                exact ⟨k, us, rfl, hE.heap, hv.rel _ _⟩
            · rw [tmps_put (by rw [hn.nt]; exact hidst d hv.dst)]
              show Rel hp _ (if d = m then .ptr s.H.length 0 else find m s.t) _
              split
              · simp only [Rel]
                exact ⟨k, upd_same _ _, rfl⟩
              · exact Rel.mono (ImLe.refl _) hle _ _ (hn.tmps m)
            · refine ⟨hn.ev.size, hn.ev.tape, hn.ev.os, hn.ev.out, hn.ev.im, hn.ev.keep, hn.ev.imNew, fun id v j h1 h2 => ?_⟩
              rcases upd_out h1 with ⟨_, rfl⟩ | h3
              · simp only [bn, Option.some.injEq] at h2
                subst h2
                exact .inl hE.new
              · exact hn.ev.sgNew id v j h3 h2
          · have hyr : y ∈ r := by
              rcases List.mem_cons.1 hyl with h1 | h1
              · exact absurd h1.symm hiy
              · exact h1
            have hlen : (i :: r).length - 1 = (r.length - 1) + 1 := by
              have := List.length_pos_of_mem hyr
              simp
              omega
            rw [hlen]
            have hir := hreadyY hiy hl
            obtain ⟨hs1, hs2⟩ := hside hv hyn hiy
            have hlook : ∀ d', some d = some d' → d' ∉ oi.looksAt ops := fun d' hd' => by simp at hd'; subst hd'; exact hs2
            refine ⟨fun h0 => by rw [h0] at hir; simp at hir, fun j hj => ?_⟩
            have hji : j = i := Decidable.byContradiction fun hji => by
              obtain ⟨oj, hoj⟩ := ready_some hj
              have hrj := (ready_iff hl hoj).1 hj
              have hys := hv.ys
              have hmem := (readyB_mem hrj).1
              simp only [List.mem_cons, not_or] at hmem
              rcases alone_out hkind hoj hji (fun x hx => by
                rw [hys, List.mem_append, others_mem]
                rcases List.mem_cons.1 hx with rfl | hx
                · exact .inl ⟨by simp, Ne.symm hiy⟩
                · exact .inr hx) hrj with h1 | h1
              · have := hY j oj hoj h1
                rw [hys] at this
                simp only [List.cons.injEq, and_true] at this
                exact hmem.1 this.symm
              · rw [hys, List.mem_append, others_mem] at h1
                rcases h1 with ⟨h1, _⟩ | h1
                · exact hmem.1 (by simpa using h1)
                · exact hmem.2 h1
            subst hji
            have hmain := hop (K' := fun a' W' => ∃ v, a' = a.put oi.dst v ∧ anyT C ops R (r.length - 1) (listed.setIfInBounds j true) (a'.put (some d) (.pointer (some ⟨k, 0, none⟩))) W') hn h fun v W' s' hp' σ' h1 h2 h3 =>
              ⟨v, rfl, ihB s' _ W' hp' σ' y oy e d us z ti hv (by simp [Ne.symm hiy, hyn]) hyr h1 h2 k (hE.step h3) _ (hLY hl)⟩
            -- the same with the early variable in its slot
            unfold opT at hmain ⊢
            rw [hi] at hmain ⊢
            simp only at hmain ⊢
            have hcomm : ∀ v : Value, (a.put oi.dst v).put (some d) (.pointer (some ⟨k, 0, none⟩)) = (a.put (some d) (.pointer (some ⟨k, 0, none⟩))).put oi.dst v := fun v => Act.put_comm a v _ (fun k' hk he => hs1 k' hk (by simpa using he.symm))
            rw [wanted_put oi a (some d) _ hlook]
            have hfix : ∀ v W', (∃ v', a.put oi.dst v = a.put oi.dst v' ∧ anyT C ops R (r.length - 1) (listed.setIfInBounds j true) ((a.put oi.dst v).put (some d) (.pointer (some ⟨k, 0, none⟩))) W') → anyT C ops R (r.length - 1) (listed.setIfInBounds j true) ((a.put (some d) (.pointer (some ⟨k, 0, none⟩))).put oi.dst v) W' := fun v W' ⟨_, _, h⟩ => by
              rw [← hcomm]
              exact h
            rcases hmain with ⟨hw, he⟩ | ⟨hw, hk⟩
            · exact .inl ⟨hw, ((he.mono fun v W' ⟨h1, h2⟩ => ⟨hfix v W' h1, h2⟩).same (execOp_put oi (fun cs b => hsel j oi cs b hi) a (some d) _ hlook))⟩
            · exact .inr ⟨hw, hfix undef W hk⟩
        refine ⟨hB, fun s a W hp σ hn h listed hl => ?_⟩
        have hir := hreadyI hl
        refine ⟨fun h0 => by rw [h0] at hir; simp at hir, fun j hj => ?_⟩
        by_cases hji : j = i
        · subst hji
          exact hop hn h fun v W' s' hp' σ' h1 h2 _ => ihA s' _ W' hp' σ' h1 h2 _ (hl.put hil)
        · -- the new variable comes ahead of its turn
          obtain ⟨oj, hoj⟩ := ready_some hj
          have hrj := (ready_iff hl hoj).1 hj
          have hjd := (readyB_mem hrj).1
          have hjy : j ∈ ys := by
            rcases alone_out hkind hoj hji (fun x hx => by simp [hx]) hrj with h1 | h1
            · rw [hY j oj hoj h1]
              simp
            · rcases List.mem_append.1 h1 with h1 | h1
              · exact (others_mem.1 h1).1
              · exact absurd h1 hjd
          obtain ⟨oy, e, d, us, z, ti, hv⟩ := hYV j hjy
          have hyl : j ∈ i :: r := (hyd j hjy).resolve_left hjd
          unfold opT
          rw [hv.o]
          refine .inl ⟨by simp [Region.wanted, hv.guard], .value (.pointer (some ⟨W.heap.size, 0, none⟩)) (W.alloc (.cells us.toArray e)) ?_ ⟨?_, fun _ => grow_alloc W _⟩⟩
          · simp [execOp, hv.op, Instr.alloc, zeroValue, typeInfo, hv.info, hv.zero, newVar, newRow, hv.cells]
          · rw [hv.dst]
            have hn1 : Now E s a (W.alloc (.cells us.toArray e)) hp σ := hn.world (by simp) (fun k hk => alloc_old W _ k hk) rfl rfl rfl
            refine hB s a _ hp σ j oy e d us z ti hv hjd hyl hn1 h W.heap.size ⟨alloc_new W _, ?_, fun id v h1 h2 => ?_, hn.ev.size⟩ _ (hl.put (Array.getElem?_eq_some_iff.1 hoj).1)
            · cases hh : hp W.heap.size with
              | none => rfl
              | some o =>
                have := (Array.getElem?_eq_some_iff.1 (hn.heap.im _ _ hh)).1
                omega
            · have := hn.heap.lt id v _ h1 h2
              omega

theorem anyT_more {R : Act → World → Prop} : ∀ (n : Nat) (listed : Array Bool) (a : Act) (W : World), anyT C ops R n listed a W → anyT C ops R (n + 1) listed a W
  | 0, listed, a, W, h => ⟨fun _ => h.2, fun i hi => by rw [h.1] at hi; simp at hi⟩
  | n + 1, listed, a, W, h => ⟨h.1, fun i hi => opT_mono (fun a w h => anyT_more n _ a w h) (h.2 i hi)⟩
theorem anyT_le {R : Act → World → Prop} {n m : Nat} (hle : n ≤ m) {listed : Array Bool} {a : Act} {W : World} (h : anyT C ops R n listed a W) : anyT C ops R m listed a W := by
  induction m with
  | zero =>
    have : n = 0 := by omega
    subst this
    exact h
  | succ m ih =>
    rcases Nat.lt_or_ge m n with h1 | h1
    · have : n = m + 1 := by omega
      subst this
      exact h
    · exact anyT_more m _ a W (ih h1)
/-! ### Orders in a tree -/
theorem subT_draw {K : St → Prop} {j : Nat} : ∀ {t t' : OT} {s : St}, subT j t = some t' → drawT C call ops.toList t s K → wpOpsA C call ops.toList (pickOps ops.toList [j]) s fun s => drawT C call ops.toList t' s K
  | .done, t', s, h, _ => by simp [subT] at h
  | .step i t, t', s, h, hd => by
    unfold subT at h
    split at h
    · rename_i hi
      simp only [Option.some.injEq] at h
      subst hi h
      exact hd
    · simp at h
  | .fork a b, t', s, h, hd => by
    unfold subT at h
    split at h
    · rename_i t hs
      simp only [Option.some.injEq] at h
      subst h
      exact subT_draw hs hd.1
    · exact subT_draw h hd.2
theorem pick_one {i : Nat} {oi : Oper} (h : ops[i]? = some oi) : pickOps ops.toList [i] = [oi] := by
  unfold pickOps
  rw [Array.getElem?_toList, h]
  rfl
theorem lone_out {i : Nat} {X : List Nat} {listed : Array Bool} (h : loneOk ops i X = true) (hl : Lst ops listed X) {j : Nat} (hj : j ∈ Region.ready .any ops listed) : j = i := by
  obtain ⟨oj, hoj⟩ := ready_some hj
  have hr := (ready_iff hl hoj).1 hj
  unfold loneOk at h
  have h1 := List.all_eq_true.1 h j (List.mem_range.2 (Array.getElem?_eq_some_iff.1 hoj).1)
  rw [hoj] at h1
  simpa [hr] using h1
theorem tree_run {K : St → Prop} {R : Act → World → Prop} (hc : CallOK C call) (hsel : ∀ (j : Nat) (o : Oper) cs b, ops[j]? = some o → o.op ≠ .select cs b) (hR : ∀ s' a' W' hp' σ', Now E s' a' W' hp' σ' → K s' → R a' W') (hd : ∀ o ∈ ops.toList, ∀ k, o.dst = some k → k < E.nt) :
    ∀ (n : Nat) (done : List Nat) (t : OT), treeOk C ops n done t = true → ∀ (s : St) (a : Act) (W : World) (hp : Im) (σ : Sg), Now E s a W hp σ → drawT C call ops.toList t s K → ∀ listed, Lst ops listed done → anyT C ops R n listed a W := by
  intro n
  have atEnd : ∀ (n : Nat) (done : List Nat), treeOk C ops n done .done = true → ∀ (listed : Array Bool), Lst ops listed done → Region.ready .any ops listed = [] := fun n done ht listed hl => by
    have ht' : ((List.range ops.size).all fun j => has j done) = true := by cases n <;> exact ht
    have hall : ∀ j, j < ops.size → j ∈ done := fun j hj => has_iff.1 (List.all_eq_true.1 ht' j (List.mem_range.2 hj))
    refine List.eq_nil_iff_forall_not_mem.2 fun j hj => ?_
    obtain ⟨oj, hoj⟩ := ready_some hj
    exact (readyB_mem ((ready_iff hl hoj).1 hj)).1 (hall j (Array.getElem?_eq_some_iff.1 hoj).1)
  induction n with
  | zero =>
    intro done t ht s a W hp σ hn h listed hl
    cases t with
    | done => exact ⟨atEnd 0 done ht listed hl, hR s a W hp σ hn h⟩
    | step i t => simp [treeOk] at ht
    | fork x y => simp [treeOk] at ht
  | succ n ih =>
    intro done t ht s a W hp σ hn h listed hl
    -- one operation that is run as it stands
    have hop : ∀ {i : Nat} {oi : Oper} {t' : OT} {s : St} {a : Act} {W : World} {hp : Im} {σ : Sg}, ops[i]? = some oi → treeOk C ops n (i :: done) t' = true → Now E s a W hp σ → (wpOpsA C call ops.toList [oi] s fun s => drawT C call ops.toList t' s K) → ∀ listed, Lst ops listed done →
        opT C ops i (anyT C ops R n (listed.setIfInBounds i true)) a W := fun {i oi t' s a W hp σ} hi ht' hn h listed hl => by
      have hil := (Array.getElem?_eq_some_iff.1 hi).1
      have hidst : ∀ k, oi.dst = some k → k < E.nt := hd oi (by
        rw [Array.mem_toList_iff]
        exact Array.mem_of_getElem? hi)
      unfold opT
      rw [hi]
      rcases guard_step hn hidst h with ⟨hw, s1, h1, h2⟩ | ⟨hw, s1, h1, h2⟩
      · exact .inl ⟨hw, (op_step (K := fun s1 => wpOpsA C call ops.toList [] s1 fun s => drawT C call ops.toList t' s K) hc h1 hidst h2).mono fun v W' ⟨s', hp', σ', h3, h4, h5, h6, _⟩ => ⟨ih _ _ ht' s' _ W' hp' σ' h4 h3 _ (hl.put hil), h5⟩⟩
      · exact .inr ⟨hw, ih _ _ ht' s1 _ W hp σ h1 h2 _ (hl.put hil)⟩
    cases t with
    | done =>
      have hempty := atEnd (n + 1) done ht listed hl
      exact ⟨fun _ => hR s a W hp σ hn h, fun j hj => by rw [hempty] at hj; simp at hj⟩
    | step i t =>
      unfold treeOk at ht
      cases hi : ops[i]? with
      | none => rw [hi] at ht; simp at ht
      | some oi =>
        rw [hi] at ht
        simp only [Bool.and_eq_true] at ht
        obtain ⟨⟨hready, hkind⟩, ht⟩ := ht
        have hil := (Array.getElem?_eq_some_iff.1 hi).1
        have hir := (ready_iff hl hi).2 hready
        have h' : wpOpsA C call ops.toList [oi] s fun s => drawT C call ops.toList t s K := by
          have := h
          unfold drawT at this
          rw [pick_one hi] at this
          exact this
        have lone : loneOk ops i done = true → anyT C ops R (n + 1) listed a W := fun hlone => by
          refine ⟨fun h0 => by rw [h0] at hir; simp at hir, fun j hj => ?_⟩
          have hji := lone_out hlone hl hj
          subst hji
          exact hop hi ht hn h' listed hl
        by_cases hF : (isF0 oi || isF1 oi) = true
        · rw [if_pos hF] at hkind
          rcases (by simpa using hkind : restOk C ops oi i done = true ∨ loneOk ops i done = true) with hrest | hlone
          · have hidst : ∀ k, oi.dst = some k → k < E.nt := hd oi (by
              rw [Array.mem_toList_iff]
              exact Array.mem_of_getElem? hi)
            obtain ⟨v, s', h1, h2, h3⟩ := f_step hF hn hidst h'
            refine firstT hi hsel n listed a W (fun j oj hj hji hun hno hnb => ?_) (fun k hk => beh_un hl (fun x hx => .inl hx) hk) hir h1 (ih _ _ ht s' _ W hp σ h2 h3 _ (hl.put hil))
            refine rest_out hrest j oj hj hji (fun hm => ?_) hno hnb
            rw [Array.getD_eq_getD_getElem?, hl.2.2 j (Array.getElem?_eq_some_iff.1 hj).1] at hun
            simp only [Option.getD_some] at hun
            exact has_false.1 hun hm
          · exact lone hlone
        · rw [if_neg hF] at hkind
          exact lone hkind
    | fork x y =>
      unfold treeOk at ht
      simp only [Bool.and_eq_true] at ht
      obtain ⟨hany, hall⟩ := ht
      obtain ⟨j0, hj0, hj0r⟩ := List.any_eq_true.1 hany
      refine ⟨fun h0 => ?_, fun j hj => ?_⟩
      · cases hj : ops[j0]? with
        | none => rw [hj] at hj0r; simp at hj0r
        | some oj =>
          rw [hj] at hj0r
          have := (ready_iff hl hj).2 hj0r
          rw [h0] at this
          simp at this
      · obtain ⟨oj, hoj⟩ := ready_some hj
        have hrj := (ready_iff hl hoj).1 hj
        have h1 := List.all_eq_true.1 hall j (List.mem_range.2 (Array.getElem?_eq_some_iff.1 hoj).1)
        rw [hoj] at h1
        simp only [hrj, Bool.not_true, Bool.false_or] at h1
        cases hs : subT j (.fork x y) with
        | none => rw [hs] at h1; simp at h1
        | some t' =>
          rw [hs] at h1
          have h2 := subT_draw hs h
          rw [pick_one hoj] at h2
          exact hop hoj h1 hn h2 listed hl
theorem draw_sound (hc : CallOK C call) (hmix : C.P.follows .mixedOrders = true) {f : FuncId} {id : Nat} {ops : Array Oper} {K : St → Prop} {Q : Exit → Act → World → Prop} (hd : ∀ o ∈ ops.toList, ∀ k, o.dst = some k → k < E.nt)
    (hw : drawsOk C f (.region id ops true) = true) (hn : Now E s a W hp σ) (h : drawA C call ops.toList (C.draws f id) (C.drawm f id) s K) (hQ : ∀ s' a' W' hp' σ', Now E s' a' W' hp' σ' → K s' → Q .normal a' W') : (Code.region id ops true).wp C.P Q a W := by
  unfold drawA at h
  unfold drawsOk at hw
  have hn0 : Now E s a { W with drawn := W.drawn + 1 } hp σ := hn.world (W' := { W with drawn := W.drawn + 1 }) (Nat.le_refl _) (fun _ _ => rfl) rfl rfl rfl
  have hLst0 : Lst ops (Array.replicate ops.size false) [] := ⟨by simp, by simp, fun j hj => by simp [Array.getElem?_replicate, hj, has]⟩
  cases hl : C.draws f id with
  | none =>
    rw [hl] at h hw
    cases ht : C.drawm f id with
    | none => rw [ht] at h; exact h.elim
    | some t =>
      rw [ht] at h hw
      simp only at h hw
      unfold drawmOk at hw
      simp only [Bool.and_eq_true] at hw
      refine wp_region_any hmix ?_
      have := tree_run (R := fun a W => Q .normal a W) hc (Region.noSelect_spec hw.1) hQ hd _ [] t hw.2 s a _ hp σ hn0 h _ hLst0
      exact anyT_wp (R := fun a W => Q .normal a W) (fun _ _ h => h) _ _ _ _ this
  | some l =>
    rw [hl] at h hw
    simp only at h hw
    unfold drawOk at hw
    simp only [Bool.and_eq_true, decide_eq_true_eq] at hw
    obtain ⟨⟨hsel, hlen⟩, hw⟩ := hw
    have hn1 : Now E s a { W with drawn := W.drawn + 1 } hp σ := hn.world (W' := { W with drawn := W.drawn + 1 }) (Nat.le_refl _) (fun _ _ => rfl) rfl rfl rfl
    have hLst : Lst ops (Array.replicate ops.size false) [] := ⟨by simp, by simp, fun j hj => by simp [Array.getElem?_replicate, hj, has]⟩
    have main : ∀ ys : List Nat, orderOk C ops ys [] l = true → (∀ y, y ∈ ys → y ∈ l) → (∀ j oj, ops[j]? = some oj → isY oj = true → ys = [j]) → (∀ y, y ∈ ys → ∃ oy e d us z ti, VarY C ops ys y oy e d us z ti) → (Code.region id ops true).wp C.P Q a W := fun ys h1 h2 h3 h4 =>
      wp_region_any hmix (anyT_wp (R := fun a W => Q .normal a W) (fun _ _ h => h) _ _ _ _ (anyT_le hlen
        ((draw_run (R := fun a W => Q .normal a W) hc (Region.noSelect_spec hsel) hQ hd ys h3 h4 l [] h1 (by simp) (fun y hy => .inr (h2 y hy))).2 s a _ hp σ hn1 h _ hLst)))
    split at hw
    · rename_i hf
      refine main [] hw (by simp) (fun j oj hoj hy => ?_) (by simp)
      have := List.find?_eq_none.1 hf j (List.mem_range.2 (Array.getElem?_eq_some_iff.1 hoj).1)
      rw [hoj] at this
      simp [hy] at this
    · rename_i y hf
      obtain ⟨⟨h1, h2⟩, h3⟩ := (by simpa only [Bool.and_eq_true] using hw : (_ ∧ _) ∧ _)
      have hy := List.find?_some hf
      cases hoy : ops[y]? with
      | none => rw [hoy] at hy; simp at hy
      | some oy =>
        rw [hoy] at hy h3
        simp only [Bool.and_eq_true] at h3
        obtain ⟨h3, h4⟩ := h3
        have hvar : ∀ j oj, ops[j]? = some oj → j ≠ y → isY oj = false ∧ (waitsFor oj y = true ∨ (Oper.apart ops oy oj = true ∧ Oper.apart ops oj oy = true)) := fun j oj hoj hjy => by
          unfold varOk at h3
          have := List.all_eq_true.1 h3 j (List.mem_range.2 (Array.getElem?_eq_some_iff.1 hoj).1)
          simpa [hoj, hjy] using this
        refine main [y] h1 (fun y' hy' => by simp at hy'; subst hy'; exact has_iff.1 h2) (fun j oj hoj hj => ?_) (fun y' hy' => ?_)
        · by_cases hjy : j = y
          · rw [hjy]
          · rw [(hvar j oj hoj hjy).1] at hj
            simp at hj
        · simp only [List.mem_singleton] at hy'
          subst hy'
          simp only at hy
          unfold isY at hy
          split at hy
          · rename_i e he
            rw [he] at h4
            simp only at h4
            obtain ⟨zs, hz⟩ := Option.isSome_iff_exists.1 h4
            obtain ⟨ti, z, us, h5, h6, h7, rfl, h8⟩ := zero_of hz
            simp only [Bool.and_eq_true, Option.isNone_iff_eq_none] at hy
            obtain ⟨d, hdst⟩ := Option.isSome_iff_exists.1 hy.2
            exact ⟨oy, e, d, us, z, ti, rfl, hoy, he, hdst, hy.1, h5, h6, h7, hz, h8, fun j oj hoj hjy => (hvar j oj hoj hjy).2⟩
          · simp at hy
end
end Go.Ai

/- One operation: what the abstract machine says of it, the model does. -/
import Derived.Test.YtmebpmghmghhkaaAiRen
import Derived.MapKept
set_option linter.unusedVariables false
set_option linter.unusedSimpArgs false
namespace Go.Ai
section
variable {P : Program} {hp hp' hp2 : Im} {σ σ' σ2 : Sg} {H : Hp} {W W' : World}
/-- What is told behind a call. -/
def After (hp : Im) (σ : Sg) (W : World) (K : AV → Hp → Prop) (v : Value) (W' : World) : Prop :=
  ∃ r H' hp' σ', K r H' ∧ HeapRel hp' σ' H' W' ∧ Ev ⟨hp, σ, W, 0⟩ hp' σ' W' ∧ SgLe σ σ' ∧ Rel hp' σ' r v
/-- What the model has an entry of its own for is as it is told. -/
def ExtOK (C : Cfg) : Prop := ∀ g e, C.ext g = some e → ∀ H args r vs W hp σ, RelT hp σ args vs → HeapRel hp σ H W → e H args = some r → ∃ v, (callFunc g vs.toArray).run C.P W = .ok (.value v) W ∧ Rel hp σ r v
/-- A call does what is told of it. -/
def CallOK (C : Cfg) (call : Callee) : Prop := ExtOK C ∧ ∀ g args H K vs W hp σ, RelT hp σ args vs → HeapRel hp σ H W → call g args H K →
  (∃ fn, C.P.funcs[g]? = some fn ∧ fn.body.isSome = true ∧ fn.name ≠ "runtime.NumGoroutine") ∧ Calls C.P g vs.toArray W fun e W' => ∃ v, e = .returned v ∧ After hp σ W K v W'
/-- What is told behind an operation. -/
def Post (hp : Im) (σ : Sg) (W : World) (s : St) (g : Bool) (K : AV → St → Prop) (v : Value) (W' : World) : Prop :=
  ∃ r s' hp' σ', K r s' ∧ s'.t = s.t ∧ HeapRel hp' σ' s'.H W' ∧ Ev ⟨hp, σ, W, 0⟩ hp' σ' W' ∧ SgLe σ σ' ∧ Rel hp' σ' r v ∧ (g = true → Grow W W')
/-- An operation comes to an end. -/
inductive Ends (P : Program) (o : Oper) (a : Act) (W : World) (K : Value → World → Prop) : Prop where
  | value (v : Value) (W' : World) (h : (execOp a.eval o).run P W = .ok (.value v) W') (hk : K v W')
  | skip (W' : World) (h : (execOp a.eval o).run P W = .ok .skip W') (hk : K undef W')
  | enter (f : FuncId) (args : Array Value) (W' : World) (h : (execOp a.eval o).run P W = .ok (.enter f args) W') (hc : Calls P f args W' fun e W'' => ∃ v, e = .returned v ∧ K v W'')
theorem Ends.mono {o : Oper} {a : Act} {K K' : Value → World → Prop} (h : Ends P o a W K) (hk : ∀ v W', K v W' → K' v W') : Ends P o a W K' := by
  cases h with
  | value v W' h1 h2 => exact .value v W' h1 (hk _ _ h2)
  | skip W' h1 h2 => exact .skip W' h1 (hk _ _ h2)
  | enter f args W' h1 h2 => exact .enter f args W' h1 (h2.mono fun e W'' ⟨v, he, h⟩ => ⟨v, he, hk _ _ h⟩)
theorem Ends.wp {o : Oper} {a : Act} {K : Value → World → Prop} {next : Act → World → Prop} {Q : Exit → Act → World → Prop} (h : Ends P o a W K) (hk : ∀ v W', K v W' → next (a.put o.dst v) W') : o.wp P a W next Q := by
  unfold Oper.wp
  cases h with
  | value v W' h1 h2 => rw [h1]; exact hk _ _ h2
  | skip W' h1 h2 => rw [h1]; exact hk _ _ h2
  | enter f args W' h1 h2 =>
    rw [h1]
    refine h2.mono fun e W'' ⟨v, he, h⟩ => ?_
    subst he
    exact hk _ _ h
theorem Does.ends {s : St} {g : Bool} {o : Oper} {a : Act} {K : AV → St → Prop} (h : Does hp σ W s g ((execOp a.eval o).run P W) K) : Ends P o a W (Post hp σ W s g K) := by
  obtain ⟨v, W', r, s', hp', σ', h1, h2⟩ := h
  rcases h1 with h1 | ⟨h1, rfl⟩
  · exact .value v W' h1 ⟨r, s', hp', σ', h2⟩
  · exact .skip W' h1 ⟨r, s', hp', σ', h2⟩
/-- The memory stands as it stood. -/
theorem HeapRel.stays (hr : HeapRel hp σ H W) (hs : W.heap.size ≤ W'.heap.size) (hk : ∀ k, k < W.heap.size → W'.heap[k]? = W.heap[k]?) : HeapRel hp σ H W' := by
  constructor
  · intro k o h
    rw [hk k (Array.getElem?_eq_some_iff.1 (hr.im k o h)).1]
    exact hr.im k o h
  · intro id b hb
    obtain ⟨v, h1, h2, h3⟩ := hr.own id b hb
    exact ⟨v, h1, h2.keep (ImLe.refl _) (SgLe.refl _) fun k hkk => hk k (hr.lt id v k h1 hkk), h3⟩
  · exact hr.apart
  · exact hr.dom
  · intro id v k h1 h2
    have := hr.lt id v k h1 h2
    omega
theorem own0 {hp : Im} {W : World} {n : Nat} (k : Nat) : ¬ (⟨hp, sg0, W, n⟩ : Ent).owns k := fun ⟨id, v, h, _⟩ => by simp [sg0] at h
theorem heap0 (hr : HeapRel hp σ H W) (hp2 : Im) (h2 : ∀ k o, hp2 k = some o → W.heap[k]? = some o) : HeapRel hp2 sg0 [] W := by
  refine ⟨h2, ?_, ?_, ?_, ?_⟩
  · intro id b hb
    simp [blk] at hb
  · intro i j b c v w k hb
    simp [blk] at hb
  · intro id v hv
    simp [sg0] at hv
  · intro id v k hv
    simp [sg0] at hv
/-! ### Values lent -/
theorem lend0_rel {x : AV} {u : Value} (hr : HeapRel hp σ H W) (hx : Rel hp σ x u) : Rel (hpAll W) sg0 (lend0 H x) u := by
  have hb := borrow_rel hr hx
  cases x with
  | row id sz off len =>
    simp only [lend0]
    unfold borrow at hb ⊢
    split <;> rename_i h1
    · simp only [AV.row.injEq] at h1
      obtain ⟨rfl, rfl, rfl, rfl⟩ := h1
      simp only at hb
      split
      · rename_i h2
        rw [h2] at hb
        simp only at hb
        split
        · rename_i h3
          rw [if_pos h3] at hb
          simpa [Rel] using hb
        · simp [Rel]
      · simp [Rel]
    · exact absurd rfl (h1 _ _ _ _)
  | v y => simpa [lend0, Rel] using hx
  | nl => simpa [lend0, Rel] using hx
  | lst sz xs =>
    have := Rel.mono (hpAll_le hr) (SgLe.refl σ) _ _ hx
    simpa [lend0, Rel] using this
  | eptr cs =>
    have := Rel.mono (hpAll_le hr) (SgLe.refl σ) _ _ hx
    simpa [lend0, Rel] using this
  | _ => simp [lend0, Rel]
theorem lend0_same {x : AV} {u : Value} (hn : x.isRow = false) (hx : Rel hp σ x u) : Rel hp sg0 (lend0 H x) u := by
  cases x with
  | row id sz off len => simp [AV.isRow] at hn
  | v y => simpa [lend0, Rel] using hx
  | nl => simpa [lend0, Rel] using hx
  | lst sz xs => simpa [lend0, Rel] using hx
  | eptr cs => simpa [lend0, Rel] using hx
  | _ => simp [lend0, Rel]
theorem relL_map {f : AV → AV} (hf : ∀ x u, Rel hp σ x u → Rel hp' σ' (f x) u) : ∀ {cs : List AV} {us : List Value}, RelL hp σ cs us → RelL hp' σ' (cs.map f) us
  | [], [], _ => by simp [RelL]
  | c :: cs, u :: us, h => by simp only [RelL, List.map_cons] at h ⊢; exact ⟨⟨hf _ _ h.1.1, h.1.2⟩, relL_map hf h.2⟩
  | [], _ :: _, h => by simp [RelL] at h
  | _ :: _, [], h => by simp [RelL] at h
theorem relT_map {f : AV → AV} (hf : ∀ x u, Rel hp σ x u → Rel hp' σ' (f x) u) : ∀ {cs : List AV} {us : List Value}, RelT hp σ cs us → RelT hp' σ' (cs.map f) us
  | [], [], _ => by simp [RelT]
  | c :: cs, u :: us, h => by simp only [RelT, List.map_cons] at h ⊢; exact ⟨hf _ _ h.1, relT_map hf h.2⟩
  | [], _ :: _, h => by simp [RelT] at h
  | _ :: _, [], h => by simp [RelT] at h
theorem relL_map' {f : AV → AV} (hf : ∀ x u, x.isRow = false → Rel hp σ x u → Rel hp' σ' (f x) u) : ∀ {cs : List AV} {us : List Value}, cs.any AV.isRow = false → RelL hp σ cs us → RelL hp' σ' (cs.map f) us
  | [], [], _, _ => by simp [RelL]
  | c :: cs, u :: us, hn, h => by
    simp only [List.any_cons, Bool.or_eq_false_iff] at hn
    simp only [RelL, List.map_cons] at h ⊢; exact ⟨⟨hf _ _ hn.1 h.1.1, h.1.2⟩, relL_map' hf hn.2 h.2⟩
  | [], _ :: _, _, h => by simp [RelL] at h
  | _ :: _, [], _, h => by simp [RelL] at h
theorem relT_map' {f : AV → AV} {q : AV → Bool} (hf : ∀ x u, q x = false → Rel hp σ x u → Rel hp' σ' (f x) u) : ∀ {cs : List AV} {us : List Value}, cs.any q = false → RelT hp σ cs us → RelT hp' σ' (cs.map f) us
  | [], [], _, _ => by simp [RelT]
  | c :: cs, u :: us, hn, h => by
    simp only [List.any_cons, Bool.or_eq_false_iff] at hn
    simp only [RelT, List.map_cons] at h ⊢; exact ⟨hf _ _ hn.1 h.1, relT_map' hf hn.2 h.2⟩
  | [], _ :: _, _, h => by simp [RelT] at h
  | _ :: _, [], _, h => by simp [RelT] at h
theorem lendV_rel {x : AV} {u : Value} (hr : HeapRel hp σ H W) (hx : Rel hp σ x u) : Rel (hpAll W) sg0 (lendV H x) u := by
  unfold lendV
  split
  · rename_i id f
    split
    · rename_i t cs hb
      obtain ⟨w, h1, h2, _⟩ := hr.own id _ hb
      simp only [BlkRel] at h2
      obtain ⟨k, us, rfl, h4, h5⟩ := h2
      simp only [Rel] at hx ⊢
      obtain ⟨k', h6, rfl⟩ := hx
      rw [h1] at h6
      simp only [Option.some.injEq, Value.pointer.injEq, Addr.mk.injEq, and_true] at h6
      subst h6
      refine ⟨_, rfl, rfl, relCs_in (ImLe.refl _) _ (us.drop f) 0 (relL_map (fun x u hx => lend0_rel hr hx) (h5.drop f)) fun j u hj => ?_⟩
      rw [Nat.zero_add, add_none, icell_all]
      simp only [World.cell?, h4]
      rw [List.getElem?_drop] at hj
      simpa using hj
    · simp [Rel]
  · exact lend0_rel hr hx
theorem lendV_same {x : AV} {u : Value} (hn : x.isOwn = false) (hx : Rel hp σ x u) : Rel hp sg0 (lendV H x) u := by
  cases x with
  | row id sz off len => simp [AV.isOwn] at hn
  | ptr id f => simp [AV.isOwn] at hn
  | _ => exact lend0_same (H := H) rfl hx
theorem lend_rel {x : AV} {u : Value} (hr : HeapRel hp σ H W) (hx : Rel hp σ x u) : Rel (hpAll W) sg0 (lend H x) u := by
  have h0 := fun x u (h : Rel hp σ x u) => lend0_rel hr h
  cases x with
  | agg cs => simp only [lend, Rel] at hx ⊢; obtain ⟨vs, h1, h2⟩ := hx; exact ⟨vs, h1, relL_map h0 h2⟩
  | fn g a b => simp only [lend, Rel] at hx ⊢; obtain ⟨va, vb, h1, h2, h3⟩ := hx; exact ⟨va, vb, h1, relT_map (fun _ _ h => lendV_rel hr h) h2, relT_map (fun _ _ h => lendV_rel hr h) h3⟩
  | ifc t x => simp only [lend, Rel] at hx ⊢; obtain ⟨v, h1, h2⟩ := hx; exact ⟨v, h1, h0 _ _ h2⟩
  | _ => exact lend0_rel hr hx
theorem lend_same {x : AV} {u : Value} (hn : lends x = false) (hx : Rel hp σ x u) : Rel hp sg0 (lend H x) u := by
  have h0 := fun x u (hn : AV.isRow x = false) (h : Rel hp σ x u) => lend0_same (H := H) hn h
  cases x with
  | agg cs => simp only [lend, Rel] at hx ⊢; obtain ⟨vs, h1, h2⟩ := hx; exact ⟨vs, h1, relL_map' h0 hn h2⟩
  | fn g a b =>
    simp only [lends, Bool.or_eq_false_iff] at hn
    simp only [lend, Rel] at hx ⊢; obtain ⟨va, vb, h1, h2, h3⟩ := hx; exact ⟨va, vb, h1, relT_map' (fun _ _ hn h => lendV_same hn h) hn.1 h2, relT_map' (fun _ _ hn h => lendV_same hn h) hn.2 h3⟩
  | ifc t x => simp only [lend, Rel] at hx ⊢; obtain ⟨v, h1, h2⟩ := hx; exact ⟨v, h1, h0 _ _ hn h2⟩
  | row id sz off len => simp [lends] at hn
  | _ => exact lend0_same (H := H) rfl hx
theorem flat_rel {r : AV} {u : Value} (hf : r.flat = true) (h : Rel hp σ r u) : Rel hp' σ' r u := by
  cases r with
  | v x => simpa [Rel] using h
  | tup vs =>
    simp only [Rel] at h ⊢
    obtain ⟨us, h1, h2⟩ := h
    refine ⟨us, h1, ?_⟩
    simp only [AV.flat] at hf
    clear h1
    induction vs generalizing us with
    | nil => cases us <;> simp [RelT] at h2 ⊢
    | cons c vs ih =>
      cases us with
      | nil => simp [RelT] at h2
      | cons u us =>
        simp only [RelT, List.all_cons, Bool.and_eq_true] at h2 hf ⊢
        refine ⟨?_, ih hf.2 us h2.2⟩
        cases c <;> first | (simp at hf; done) | (simpa [Rel] using h2.1)
  | ifc t x =>
    simp only [Rel] at h ⊢
    obtain ⟨v, h1, h2⟩ := h
    refine ⟨v, h1, ?_⟩
    cases x with
    | v y => simpa [Rel] using h2
    | agg cs =>
      cases cs with
      | nil =>
        simp only [Rel] at h2 ⊢
        obtain ⟨vs, h3, h4⟩ := h2
        refine ⟨vs, h3, ?_⟩
        cases vs with
        | nil => simp [RelL]
        | cons v vs => simp [RelL] at h4
      | cons c cs => simp [AV.flat] at hf
    | _ => simp [AV.flat] at hf
  | _ => simp [AV.flat] at hf

/-! ### Calls -/
theorem setIds_len : ∀ (ids : List Nat) (H bs : Hp), (setIds H ids bs).length = H.length
  | [], H, bs => by cases bs <;> rfl
  | i :: r, H, [] => rfl
  | i :: r, H, b :: bs => by simp [setIds, setIds_len r]
theorem setIds_other : ∀ (ids : List Nat) (H bs : Hp) {i : Nat}, i ∉ ids → blk (setIds H ids bs) i = blk H i
  | [], H, bs, i, _ => by cases bs <;> rfl
  | k :: r, H, [], i, _ => rfl
  | k :: r, H, b :: bs, i, h => by
    simp only [List.mem_cons, not_or] at h
    simp only [setIds]
    rw [setIds_other r _ bs h.2, blk_set_other _ h.1]
theorem setIds_at : ∀ (ids : List Nat) (H bs : Hp), ids.Nodup → (∀ i ∈ ids, i < H.length) → ids.length ≤ bs.length → ∀ {j i : Nat}, ids[j]? = some i → blk (setIds H ids bs) i = blk bs j
  | [], H, bs, _, _, _, j, i, h => by simp at h
  | k :: r, H, [], _, _, hl, j, i, h => by simp at hl
  | k :: r, H, b :: bs, hn, hlt, hl, j, i, h => by
    simp only [List.nodup_cons] at hn
    simp only [setIds]
    cases j with
    | zero =>
      simp at h
      subst h
      rw [setIds_other r _ bs hn.1, blk_set_same _ (hlt k (by simp))]
      simp [blk]
    | succ j =>
      simp at h
      rw [setIds_at r _ bs hn.2 (fun x hx => by simpa using hlt x (by simp [hx])) (by simpa using hl) h]
      simp [blk]
theorem blk_map {f : Blk → Blk} {H : Hp} {j : Nat} : blk (H.map fun b => b.map f) j = (blk H j).map f := by
  unfold blk
  rw [List.getElem?_map]
  cases h : H[j]? with
  | none => rfl
  | some b => cases b <;> rfl
theorem blk_drop {H : Hp} {n j : Nat} : blk (H.drop n) j = blk H (n + j) := by
  unfold blk
  rw [List.getElem?_drop]
theorem blk_take {H : Hp} {n j : Nat} (h : j < n) : blk (H.take n) j = blk H j := by
  unfold blk
  rw [List.getElem?_take_of_lt h]
theorem blk_app_right {H G : Hp} {i : Nat} (h : H.length ≤ i) : blk (H ++ G) i = blk G (i - H.length) := by
  unfold blk
  rw [List.getElem?_append_right h]
theorem blk_app_left {H G : Hp} {i : Nat} (h : i < H.length) : blk (H ++ G) i = blk H i := by
  unfold blk
  rw [List.getElem?_append_left h]
/-- Nothing of ours was touched. -/
theorem Ev.around {n m : Nat} (h : Ev ⟨hp', sg0, W, n⟩ hp2 σ2 W') : Ev ⟨hp, σ, W, m⟩ hp σ W' :=
  ⟨h.size, h.tape, h.os, h.out, ImLe.refl _, fun k hk _ => h.keep k hk (own0 k), fun _ _ h => .inl h, fun i v k h1 h2 => .inr ⟨i, v, h1, h2⟩⟩
theorem nilL_rel {o : Option Nat} {a : AV} {v : Value} (h : Rel hp σ a v) : Rel hp σ (nilL o a) v := by
  unfold nilL
  split
  · simp only [Rel] at h ⊢
    subst h
    exact ⟨none, 0, rfl, Nat.le_refl _, fun h => absurd rfl h⟩
  · simp only [Rel] at h ⊢
    obtain ⟨A, rfl⟩ := h
    exact ⟨A, 0, rfl, Nat.le_refl _, fun h => absurd rfl h⟩
  · exact h
theorem nilLs_rel : ∀ {os : List (Option Nat)} {cs : List AV} {us : List Value}, RelL hp σ cs us → RelL hp σ (nilLs os cs) us
  | [], cs, us, h => by unfold nilLs; exact h
  | _ :: _, [], us, h => by unfold nilLs; exact h
  | o :: os, c :: cs, [], h => by simp [RelL] at h
  | o :: os, c :: cs, u :: us, h => by
    simp only [RelL] at h
    simp only [nilLs, RelL]
    exact ⟨⟨nilL_rel h.1.1, h.1.2⟩, nilLs_rel h.2⟩
theorem nilArg_rel {sh : List (Option Nat)} {a : AV} {v : Value} (h : Rel hp σ a v) : Rel hp σ (nilArg sh a) v := by
  unfold nilArg
  split
  · simp only [Rel] at h ⊢
    obtain ⟨vs, rfl, h⟩ := h
    exact ⟨vs, rfl, nilLs_rel h⟩
  · exact nilL_rel h
  · exact h
theorem nilArgs_rel : ∀ {shs : List (List (Option Nat))} {as : List AV} {vs : List Value}, RelT hp σ as vs → RelT hp σ (nilArgs shs as) vs
  | [], as, vs, h => by unfold nilArgs; exact h
  | _ :: _, [], vs, h => by unfold nilArgs; exact h
  | _ :: _, _ :: _, [], h => by simp [RelT] at h
  | sh :: shs, a :: as, v :: vs, h => by
    simp only [RelT] at h
    simp only [nilArgs, RelT]
    exact ⟨nilArg_rel h.1, nilArgs_rel h.2⟩
theorem quietK_out {q : Bool} {A B : Hp} {Q : Prop} (h : quietK q A B Q) : Q := by
  cases q
  · exact h
  · exact h.2.2
theorem relL_stiff {hp hp' : Im} {σ σ' : Sg} : ∀ {cs : List AV} {us us' : List Value}, cs.all stiffC = true → RelL hp σ cs us → RelL hp' σ' cs us' → us = us'
  | [], us, us', _, h, h' => by
    cases us <;> cases us' <;> simp [RelL] at h h' ⊢
  | c :: cs, us, us', hs, h, h' => by
    simp only [List.all_cons, Bool.and_eq_true] at hs
    cases us with
    | nil => simp [RelL] at h
    | cons u us =>
      cases us' with
      | nil => simp [RelL] at h'
      | cons u' us' =>
        simp only [RelL] at h h'
        have e := relL_stiff hs.2 h.2 h'.2
        cases c <;> simp [stiffC] at hs
        simp only [Rel] at h h'
        rw [h.1.1, h'.1.1, e]
theorem stiffH_at : ∀ {H : Hp} {j : Nat} {b : Blk}, stiffH H = true → blk H j = some b → stiffB (some b) = true
  | [], j, b, _, h => by simp [blk] at h
  | x :: r, 0, b, hs, h => by
    simp only [stiffH, Bool.and_eq_true] at hs
    simp only [blk, List.getElem?_cons_zero, Option.bind_some] at h
    rw [← h]
    exact hs.1
  | x :: r, j + 1, b, hs, h => by
    simp only [stiffH, Bool.and_eq_true] at hs
    refine stiffH_at (H := r) (j := j) hs.2 ?_
    simpa [blk] using h
/-- What was handed memory and left it as it was. -/
theorem quiet_grow {hp hp' : Im} {σ σ' : Sg} {H H' : Hp} {W W' : World} {n : Nat} (hr : HeapRel hp σ H W) (hr' : HeapRel hp' σ' H' W') (hev : Ev ⟨hp, σ, W, n⟩ hp' σ' W') (hle : SgLe σ σ') {k0 : Nat} (hal : ∀ id v, σ id = some v → (blk H id).isSome = true) (hst : stiffH H = true) (hlen : H.length = k0) (heq : H'.take k0 = H) : Grow W W' := fun k o hk => by
  by_cases ho : (Ent.mk hp σ W n).owns k
  · obtain ⟨id, v, h1, h2⟩ := ho
    simp only at h1
    have hid := hr.dom id v h1
    cases hb : blk H id with
    | none =>
      have := hal id v h1
      rw [hb] at this
      simp at this
    | some b =>
      have hs := stiffH_at hst hb
      have hb' : blk H' id = some b := by
        rw [← heq, blk_take (by omega)] at hb
        exact hb
      obtain ⟨w, h3, h4, _⟩ := hr.own id b hb
      obtain ⟨w', h5, h6, _⟩ := hr'.own id b hb'
      have e1 := hle _ _ h3
      rw [h5] at e1
      rw [h1] at h3
      simp only [Option.some.injEq] at e1 h3
      subst e1 h3
      cases b with
      | var t cs =>
        simp only [BlkRel] at h4 h6
        obtain ⟨k1, us, rfl, h7, h8⟩ := h4
        obtain ⟨k2, us', h9, h10, h11⟩ := h6
        simp only [bn, Option.some.injEq] at h2
        subst h2
        simp only [Value.pointer.injEq, Option.some.injEq, Addr.mk.injEq, and_true] at h9
        subst h9
        have := relL_stiff (by simpa [stiffB] using hs) h8 h11
        subst this
        rw [h10, ← h7]
        exact hk
      | row t sz xs => simp [stiffB] at hs
      | rowc t sz c xs => simp [stiffB] at hs
      | map t es => simp [stiffB] at hs
  · rw [hev.keep k (Array.getElem?_eq_some_iff.1 hk).1 ho]
    exact hk
theorem pickH_len {H : Hp} {ids : List Nat} : (pickH H ids).length = ids.length := by simp [pickH, pickR]
theorem pickS_alive {σ : Sg} {H : Hp} {ids : List Nat} (hal : Alive H ids) : ∀ id v, pickS σ ids id = some v → (blk (pickH H ids) id).isSome = true := fun id v h => by
  unfold pickS at h
  obtain ⟨i, h1, _⟩ := Option.bind_eq_some_iff.1 h
  obtain ⟨b, hb⟩ := Option.isSome_iff_exists.1 (hal.2 i (List.mem_of_getElem? h1))
  have e : blk (pickH H ids) id = (blk H i).map (Blk.ren (place · ids)) := by
    unfold blk pickH pickR
    rw [List.getElem?_map, h1]
    rfl
  rw [e, hb]
  rfl
theorem callR_sound {C : Cfg} {call : Callee} (hc : CallOK C call) {s : St} {g : FuncId} {args : List AV} {vs : List Value} {K : AV → St → Prop} (hr : HeapRel hp σ s.H W) (ha : RelT hp σ args vs) (h : callR C call g args s K) :
    (∃ fn, C.P.funcs[g]? = some fn ∧ fn.body.isSome = true ∧ fn.name ≠ "runtime.NumGoroutine") ∧ Calls C.P g vs.toArray W fun e W' => ∃ v, e = .returned v ∧ Post hp σ W s (!C.heap g || C.quiet g) K v W' := by
  unfold callR at h
  split at h
  · -- blocks go along
    rename_i hg
    generalize hids : reach s.H (s.H.length + 1) 0 (addAll s.H [] (args.flatMap AV.ids1)) = ids at h
    have hal : Alive s.H ids := by rw [← hids]; exact reach_alive (addAll_alive alive_nil)
    dsimp only at h
    obtain ⟨h1, h2⟩ := hc.2 g _ (pickH s.H ids) _ vs W hp (pickS σ ids) (RelT.ren1 (pickS_ok σ ids) ha) (pick_heap hr hal) h
    refine ⟨h1, h2.mono fun e W' ⟨v, he, r, H', hp', σ', hk, hr', hev, hle, hrel⟩ => ⟨v, he, ?_⟩⟩
    dsimp only at hk
    have hq : C.quiet g = true → Grow W W' := fun hqt => by
      rw [hqt] at hk
      obtain ⟨hst, heq, _⟩ := hk
      exact quiet_grow (pick_heap hr hal) hr' hev hle (pickS_alive hal) hst pickH_len heq
    have hk := quietK_out hk
    have hmem : ∀ i, i ∈ ids → ∃ j, ids[j]? = some i := fun i hi => List.mem_iff_getElem?.1 hi
    have hlive : ∀ {j i}, ids[j]? = some i → i < s.H.length ∧ ∃ b v, blk s.H i = some b ∧ σ i = some v ∧ σ' j = some v := fun {j i} hj => by
      obtain ⟨b, hb⟩ := Option.isSome_iff_exists.1 (hal.2 i (List.mem_of_getElem? hj))
      obtain ⟨v, hv, _⟩ := hr.own i b hb
      refine ⟨blk_lt hb, b, v, hb, hv, hle j v ?_⟩
      simp [pickS, hj, hv]
    have hlen : ids.length ≤ H'.length := by
      rcases Nat.eq_zero_or_pos ids.length with h0 | h0
      · omega
      · obtain ⟨_, _, v, _, _, hv⟩ := hlive (List.getElem?_eq_getElem (show ids.length - 1 < ids.length by omega))
        have := hr'.dom _ _ hv
        omega
    let f := backF ids.length ids s.H.length
    let σ3 : Sg := fun i => if i < s.H.length then σ i else σ' (i - s.H.length + ids.length)
    have hold : ∀ {i v}, σ i = some v → σ3 i = some v := fun {i v} hv => by
      show (if i < s.H.length then σ i else _) = _
      rw [if_pos (hr.dom i v hv)]
      exact hv
    have hfj : ∀ {j i}, f j = some i → (j < ids.length ∧ ids[j]? = some i) ∨ (ids.length ≤ j ∧ i = j - ids.length + s.H.length) := fun {j i} hj => by
      change (if j < ids.length then ids[j]? else some (j - ids.length + s.H.length)) = some i at hj
      split at hj
      · rename_i hlt
        exact .inl ⟨hlt, hj⟩
      · simp only [Option.some.injEq] at hj
        exact .inr ⟨by omega, hj.symm⟩
    have hren : RenOk f σ' σ3 := fun j i v hj hv => by
      rcases hfj hj with ⟨hlt, hj⟩ | ⟨hge, rfl⟩
      · obtain ⟨hi, b, v2, _, h4, h5⟩ := hlive hj
        rw [hv] at h5
        simp only [Option.some.injEq] at h5
        subst h5
        exact hold h4
      · show (if j - ids.length + s.H.length < s.H.length then _ else _) = _
        rw [if_neg (by omega)]
        have : j - ids.length + s.H.length - s.H.length + ids.length = j := by omega
        rw [this]
        exact hv
    have hnodup := hal.1
    have hfinj : ∀ {j j' i}, f j = some i → f j' = some i → j = j' := fun {j j' i} h3 h4 => by
      rcases hfj h3 with ⟨ha1, ha2⟩ | ⟨ha1, rfl⟩ <;> rcases hfj h4 with ⟨hb1, hb2⟩ | ⟨hb1, hb2⟩
      · exact (List.getElem?_inj ha1 hnodup).1 (ha2.trans hb2.symm)
      · have := (hlive ha2).1
        omega
      · have := (hlive hb2).1
        omega
      · omega
    have hback : ∀ {i b}, blk (setIds s.H ids ((H'.take ids.length).map fun b => b.map (Blk.ren f)) ++ (H'.drop ids.length).map fun b => b.map (Blk.ren f)) i = some b →
        (i < s.H.length ∧ i ∉ ids ∧ blk s.H i = some b) ∨ (∃ j b0, f j = some i ∧ blk H' j = some b0 ∧ b = b0.ren f) := fun {i b} hb => by
      rcases Nat.lt_or_ge i s.H.length with hlt | hge
      · rw [blk_app_left (by rw [setIds_len]; exact hlt)] at hb
        by_cases hi : i ∈ ids
        · obtain ⟨j, hj⟩ := hmem i hi
          have hjl := (List.getElem?_eq_some_iff.1 hj).1
          rw [setIds_at ids s.H _ hnodup (fun x hx => by obtain ⟨m, hm⟩ := hmem x hx; exact (hlive hm).1) (by simp; omega) hj, blk_map, blk_take hjl] at hb
          obtain ⟨b0, h3, h4⟩ := Option.map_eq_some_iff.1 hb
          refine .inr ⟨j, b0, ?_, h3, h4.symm⟩
          show (if j < ids.length then ids[j]? else _) = _
          rw [if_pos hjl]
          exact hj
        · rw [setIds_other ids s.H _ hi] at hb
          exact .inl ⟨hlt, hi, hb⟩
      · rw [blk_app_right (by rw [setIds_len]; exact hge), setIds_len, blk_map, blk_drop] at hb
        obtain ⟨b0, h3, h4⟩ := Option.map_eq_some_iff.1 hb
        refine .inr ⟨ids.length + (i - s.H.length), b0, ?_, h3, h4.symm⟩
        show (if _ then _ else some _) = _
        rw [if_neg (by omega)]
        congr 1
        omega
    have howns : ∀ {i b v k}, i ∉ ids → blk s.H i = some b → σ i = some v → bn v = some k → ¬ (⟨hp, pickS σ ids, W, 0⟩ : Ent).owns k := fun {i b v k} hi hb hv hkv ⟨j, w, hw, hkw⟩ => by
      unfold pickS at hw
      simp only at hw
      cases hj : ids[j]? with
      | none => rw [hj] at hw; simp at hw
      | some i2 =>
        rw [hj] at hw
        simp only [Option.bind_some] at hw
        obtain ⟨_, b2, _, hb2, _, _⟩ := hlive hj
        have := hr.apart i i2 b b2 v w k hb hb2 hv hw hkv hkw
        subst this
        exact hi (List.mem_of_getElem? hj)
    have hown2 : ∀ {k}, (⟨hp, pickS σ ids, W, 0⟩ : Ent).owns k → ∃ id v, σ id = some v ∧ bn v = some k := fun {k} ⟨j, w, hw, hkw⟩ => by
      unfold pickS at hw
      simp only at hw
      cases hj : ids[j]? with
      | none => rw [hj] at hw; simp at hw
      | some i2 => rw [hj] at hw; exact ⟨i2, w, hw, hkw⟩
    have hσ3 : ∀ {i v}, σ3 i = some v → (i < s.H.length ∧ σ i = some v) ∨ (s.H.length ≤ i ∧ σ' (i - s.H.length + ids.length) = some v) := fun {i v} hv => by
      change (if i < s.H.length then σ i else _) = _ at hv
      split at hv
      · rename_i hlt
        exact .inl ⟨hlt, hv⟩
      · exact .inr ⟨by omega, hv⟩
    have hback3 : ∀ {j i b0 v}, f j = some i → blk H' j = some b0 → σ3 i = some v → σ' j = some v := fun {j i b0 v} hj hb hv => by
      obtain ⟨w, hw, _⟩ := hr'.own j b0 hb
      have := hren j i w hj hw
      rw [hv] at this
      simp only [Option.some.injEq] at this
      subst this
      exact hw
    refine ⟨_, _, hp', σ3, hk, rfl, ?_, ?_, fun i v hv => hold hv, hrel.ren2 hren, fun hc => hq (by simpa [hg] using hc)⟩
    · constructor
      · exact hr'.im
      · intro i b hbi
        rcases hback hbi with ⟨hlt, hi, hbi⟩ | ⟨j, b0, hj, hbj, rfl⟩
        · obtain ⟨v, h3, h4, h5⟩ := hr.own i b hbi
          refine ⟨v, hold h3, h4.keep hev.im (fun i v hv => hold hv) fun k hk => hev.keep k (hr.lt i v k h3 hk) (howns hi hbi h3 hk), fun k hk => ?_⟩
          cases hh : hp' k with
          | none => rfl
          | some o =>
            rcases hev.imNew k o hh with h6 | h6 | h6
            · have h7 := h5 k hk
              simp only at h6
              rw [h7] at h6
              simp at h6
            · have := hr.lt i v k h3 hk
              simp only at h6
              omega
            · exact absurd h6 (howns hi hbi h3 hk)
        · obtain ⟨v, h3, h4, h5⟩ := hr'.own j b0 hbj
          exact ⟨v, hren j i v hj h3, h4.ren hren, h5⟩
      · intro i i' b c v w k hbi hbi' hv hw hkv hkw
        have mixed : ∀ {i b v j b0 i' w}, i < s.H.length → i ∉ ids → blk s.H i = some b → σ3 i = some v → bn v = some k → f j = some i' → blk H' j = some b0 → σ3 i' = some w → bn w = some k → False := fun {i b v j b0 i' w} hlt hi hb hv hkv hj hbj hw hkw => by
          have h3 := ((hσ3 hv).resolve_right (by omega)).2
          have h4 := hback3 hj hbj hw
          rcases hev.sgNew j w k h4 hkw with h5 | h5
          · have := hr.lt i v k h3 hkv
            simp only at h5
            omega
          · exact howns hi hb h3 hkv h5
        rcases hback hbi with ⟨hlt, hi, hb1⟩ | ⟨j, b0, hj, hbj, rfl⟩ <;> rcases hback hbi' with ⟨hlt', hi', hb2⟩ | ⟨j', c0, hj', hbj', rfl⟩
        · exact hr.apart i i' b c v w k hb1 hb2 ((hσ3 hv).resolve_right (by omega)).2 ((hσ3 hw).resolve_right (by omega)).2 hkv hkw
        · exact (mixed hlt hi hb1 hv hkv hj' hbj' hw hkw).elim
        · exact (mixed hlt' hi' hb2 hw hkw hj hbj hv hkv).elim
        · have := hr'.apart j j' b0 c0 v w k hbj hbj' (hback3 hj hbj hv) (hback3 hj' hbj' hw) hkv hkw
          subst this
          rw [hj] at hj'
          simpa using hj'
      · intro i v hv
        rcases hσ3 hv with ⟨h3, _⟩ | ⟨h3, h4⟩
        · simp [setIds_len]; omega
        · have := hr'.dom _ _ h4
          simp [setIds_len]
          omega
      · intro i v k hv hkv
        rcases hσ3 hv with ⟨_, h3⟩ | ⟨_, h3⟩
        · have := hr.lt i v k h3 hkv
          have := hev.size
          simp only at this
          omega
        · exact hr'.lt _ v k h3 hkv
    · refine ⟨hev.size, hev.tape, hev.os, hev.out, hev.im, fun k hk ho => hev.keep k hk fun hc => ho (hown2 hc), fun k o ho => ?_, fun i v k hv hkv => ?_⟩
      · rcases hev.imNew k o ho with h3 | h3 | h3
        · exact .inl h3
        · exact .inr (.inl h3)
        · exact .inr (.inr (hown2 h3))
      · rcases hσ3 hv with ⟨_, h3⟩ | ⟨_, h3⟩
        · exact .inr ⟨i, v, h3, hkv⟩
        · rcases hev.sgNew _ v k h3 hkv with h4 | h4
          · exact .inl h4
          · exact .inr (hown2 h4)
  · rename_i hg
    have hgrow : ∀ {hp' : Im} {hp2 : Im} {σ2 : Sg} {W' : World}, Ev ⟨hp', sg0, W, 0⟩ hp2 σ2 W' → Grow W W' := fun e k o hk => by
      rw [e.keep k (Array.getElem?_eq_some_iff.1 hk).1 (own0 k)]
      exact hk
    cases hl : args.any lends with
    | true =>
      obtain ⟨h1, h2⟩ := hc.2 g _ [] _ vs W (hpAll W) sg0 (relT_map (fun x u hx => lend_rel hr hx) ha) (heap0 hr _ fun k o h => h) h
      refine ⟨h1, h2.mono fun e W' ⟨v, he, r, H', hp', σ', hk, hr', hev, _, hrel⟩ => ⟨v, he, ?_⟩⟩
      dsimp only at hk
      split at hk
      · rename_i hf
        exact ⟨r, s, hp, σ, hk, rfl, hr.stays hev.size fun k hk => hev.keep k hk (own0 k), hev.around, SgLe.refl _, flat_rel hf hrel, fun _ => hgrow hev⟩
      · rw [hl] at hk
        simp at hk
    | false =>
      obtain ⟨h1, h2⟩ := hc.2 g _ [] _ vs W hp sg0 (relT_map' (fun x u hn hx => lend_same hn hx) hl ha) (heap0 hr _ hr.im) h
      refine ⟨h1, h2.mono fun e W' ⟨v, he, r, H', hp', σ', hk, hr', hev, _, hrel⟩ => ⟨v, he, ?_⟩⟩
      dsimp only at hk
      split at hk
      · rename_i hf
        exact ⟨r, s, hp, σ, hk, rfl, hr.stays hev.size fun k hk => hev.keep k hk (own0 k), hev.around, SgLe.refl _, flat_rel hf hrel, fun _ => hgrow hev⟩
      · have hk := hk.2
        generalize hids : reach H' (H'.length + 1) 0 (addAll H' [] r.ids2) = ids at hk
        have hal : Alive H' ids := by rw [← hids]; exact reach_alive (addAll_alive alive_nil)
        let σ3 : Sg := fun i => if i < s.H.length then σ i else (ids[i - s.H.length]?).bind σ'
        have hold : ∀ {i v}, σ i = some v → σ3 i = some v := fun {i v} hv => by
          show (if i < s.H.length then σ i else _) = _
          rw [if_pos (hr.dom i v hv)]
          exact hv
        have hren : RenOk (fun j => (place j ids).map (· + s.H.length)) σ' σ3 := fun i j v hf hv => by
          obtain ⟨m, hm, rfl⟩ := Option.map_eq_some_iff.1 hf
          show (if m + s.H.length < s.H.length then _ else _) = _
          rw [if_neg (by omega), Nat.add_sub_cancel, place_out hm]
          exact hv
        have hout : ∀ {i v}, σ3 i = some v → (i < s.H.length ∧ σ i = some v) ∨ (s.H.length ≤ i ∧ ∃ m, ids[i - s.H.length]? = some m ∧ σ' m = some v) := fun {i v} hv => by
          change (if i < s.H.length then σ i else _) = _ at hv
          split at hv
          · rename_i hlt
            exact .inl ⟨hlt, hv⟩
          · rename_i hge
            refine .inr ⟨by omega, ?_⟩
            cases hm : ids[i - s.H.length]? with
            | none => rw [hm] at hv; simp at hv
            | some m => rw [hm] at hv; exact ⟨m, rfl, hv⟩
        have hfar : ∀ {m v k}, σ' m = some v → bn v = some k → W.heap.size ≤ k := fun {m v k} h1 h2 => (hev.sgNew m v k h1 h2).resolve_right (own0 k)
        refine ⟨_, _, hp', σ3, hk, rfl, ?_, ?_, fun i v hv => hold hv, hrel.ren2 hren, fun _ => hgrow hev⟩
        · have hb : ∀ {i b}, blk (s.H ++ pickR H' (fun j => (place j ids).map (· + s.H.length)) ids) i = some b → (i < s.H.length ∧ blk s.H i = some b) ∨ (s.H.length ≤ i ∧ ∃ m b0, ids[i - s.H.length]? = some m ∧ blk H' m = some b0 ∧ b = b0.ren fun j => (place j ids).map (· + s.H.length)) := fun {i b} hb => by
            rcases Nat.lt_or_ge i s.H.length with hlt | hge
            · rw [blk_app_left hlt] at hb
              exact .inl ⟨hlt, hb⟩
            · rw [blk_app_right hge] at hb
              exact .inr ⟨hge, blk_pick hb⟩
          constructor
          · exact hr'.im
          · intro i b hbi
            rcases hb hbi with ⟨hlt, hbi⟩ | ⟨hge, m, b0, hm, hbm, rfl⟩
            · obtain ⟨v, h3, h4, h5⟩ := hr.own i b hbi
              refine ⟨v, hold h3, h4.keep hev.im (fun i v hv => hold hv) fun k hk => hev.keep k (hr.lt i v k h3 hk) (own0 k), fun k hk => ?_⟩
              cases hh : hp' k with
              | none => rfl
              | some o =>
                rcases hev.imNew k o hh with h6 | h6 | h6
                · have h7 := h5 k hk
                  simp only at h6
                  rw [h7] at h6
                  simp at h6
                · have := hr.lt i v k h3 hk
                  simp only at h6
                  omega
                · exact absurd h6 (own0 k)
            · obtain ⟨v, h3, h4, h5⟩ := hr'.own m b0 hbm
              refine ⟨v, ?_, h4.ren hren, h5⟩
              show (if i < s.H.length then _ else _) = _
              rw [if_neg (by omega), hm]
              exact h3
          · intro i j b c v w k hbi hbj hv hw hkv hkw
            rcases hb hbi with ⟨hlt, hbi⟩ | ⟨hge, m, b0, hm, hbm, rfl⟩ <;> rcases hb hbj with ⟨hlt', hbj⟩ | ⟨hge', m', c0, hm', hbm', rfl⟩
            · refine hr.apart i j b c v w k hbi hbj ?_ ?_ hkv hkw
              · exact ((hout hv).resolve_right (by omega)).2
              · exact ((hout hw).resolve_right (by omega)).2
            · have h3 := ((hout hv).resolve_right (by omega)).2
              obtain ⟨_, m2, h4, h5⟩ := (hout hw).resolve_left (by omega)
              have := hr.lt i v k h3 hkv
              have := hfar h5 hkw
              omega
            · have h3 := ((hout hw).resolve_right (by omega)).2
              obtain ⟨_, m2, h4, h5⟩ := (hout hv).resolve_left (by omega)
              have := hr.lt j w k h3 hkw
              have := hfar h5 hkv
              omega
            · obtain ⟨_, m2, h4, h5⟩ := (hout hv).resolve_left (by omega)
              obtain ⟨_, m3, h6, h7⟩ := (hout hw).resolve_left (by omega)
              rw [hm] at h4
              rw [hm'] at h6
              simp only [Option.some.injEq] at h4 h6
              subst h4 h6
              have := hr'.apart m m' b0 c0 v w k hbm hbm' h5 h7 hkv hkw
              subst this
              have := (List.getElem?_inj (List.getElem?_eq_some_iff.1 hm).1 hal.1).1 (hm.trans hm'.symm)
              omega
          · intro i v hv
            rcases hout hv with ⟨h3, _⟩ | ⟨h3, m, hm, _⟩
            · simp; omega
            · have := (List.getElem?_eq_some_iff.1 hm).1
              simp [pickR]
              omega
          · intro i v k hv hkv
            rcases hout hv with ⟨_, h3⟩ | ⟨_, m, _, h3⟩
            · have := hr.lt i v k h3 hkv
              have := hev.size
              simp only at this
              omega
            · exact hr'.lt m v k h3 hkv
        · refine ⟨hev.size, hev.tape, hev.os, hev.out, hev.im, fun k hk _ => hev.keep k hk (own0 k), fun k o ho => ?_, fun i v k hv hkv => ?_⟩
          · rcases hev.imNew k o ho with h3 | h3 | h3
            · exact .inl h3
            · exact .inr (.inl h3)
            · exact absurd h3 (own0 k)
          · rcases hout hv with ⟨_, h3⟩ | ⟨_, m, _, h3⟩
            · exact .inr ⟨i, v, h3, hkv⟩
            · exact .inl (hfar h3 hkv)

/-! ### Every operation -/
theorem RelT.app {cs cs' : List AV} {us us' : List Value} (h : RelT hp σ cs us) (h' : RelT hp σ cs' us') : RelT hp σ (cs ++ cs') (us ++ us') := by
  induction cs generalizing us with
  | nil => cases us <;> simp [RelT] at h ⊢; exact h'
  | cons c cs ih =>
    cases us with
    | nil => simp [RelT] at h
    | cons u us => simp only [RelT, List.cons_append] at h ⊢; exact ⟨h.1, ih h.2⟩
/-! ### Maps -/
theorem mapOk_out {t : TypeId} (h : mapOk P t = true) : ∃ k e, P.underlying t = some (.map k e) ∧ P.underlying k = some (.int .i64) := by
  unfold mapOk at h
  split at h
  · rename_i k e hu
    split at h
    · rename_i hk
      exact ⟨k, e, hu, hk⟩
    · simp at h
  · simp at h
/-- Keys and values as they are told. -/
def zipM (es : List (Int × AV)) (vs : List Value) : List (Value × Value) := (es.map fun e => Value.int .i64 e.1).zip vs
theorem zipM_key {es : List (Int × AV)} {vs : List Value} {k u : Value} (h : (k, u) ∈ zipM es vs) : ∃ n, k = .int .i64 n ∧ n ∈ es.map (·.1) := by
  have := (List.of_mem_zip h).1
  obtain ⟨e, he, rfl⟩ := List.mem_map.1 this
  exact ⟨e.1, rfl, List.mem_map.2 ⟨e, he, rfl⟩⟩
theorem zipM_uniq {n : Int} {u u' : Value} : ∀ {es : List (Int × AV)} {vs : List Value}, (es.map (·.1)).Nodup → (Value.int .i64 n, u) ∈ zipM es vs → (Value.int .i64 n, u') ∈ zipM es vs → u = u'
  | [], vs, _, h, _ => by simp [zipM] at h
  | e :: es, [], _, h, _ => by simp [zipM] at h
  | e :: es, v :: vs, hn, h, h' => by
    simp only [List.map_cons, List.nodup_cons] at hn
    have out : ∀ w, (Value.int .i64 e.1, w) ∉ zipM es vs := fun w hw => by
      obtain ⟨m, hm, hm2⟩ := zipM_key hw
      simp only [Value.int.injEq, true_and] at hm
      rw [← hm] at hm2
      exact hn.1 hm2
    simp only [zipM, List.map_cons, List.zip_cons_cons, List.mem_cons, Prod.mk.injEq, Value.int.injEq, true_and] at h h'
    rcases h with ⟨h1, h2⟩ | h <;> rcases h' with ⟨h3, h4⟩ | h'
    · rw [h2, h4]
    · rw [h1] at h'
      exact absurd h' (out u')
    · rw [h3] at h
      exact absurd h (out u)
    · exact zipM_uniq hn.2 h h'
theorem findK_out {n : Int} {x : AV} : ∀ {es : List (Int × AV)} {vs : List Value}, RelT hp σ (es.map (·.2)) vs → findK n es = some x → ∃ u, (Value.int .i64 n, u) ∈ zipM es vs ∧ Rel hp σ x u
  | [], _, _, h => by simp [findK] at h
  | e :: es, [], hr, _ => by simp [RelT] at hr
  | e :: es, v :: vs, hr, h => by
    simp only [List.map_cons, RelT] at hr
    unfold findK at h
    cases hb : (e.1 == n)
    · rw [hb] at h
      obtain ⟨u, h1, h2⟩ := findK_out hr.2 h
      exact ⟨u, by simp only [zipM, List.map_cons, List.zip_cons_cons, List.mem_cons]; exact .inr h1, h2⟩
    · rw [hb] at h
      simp only [cond_true, Option.some.injEq] at h
      subst h
      have : e.1 = n := by simpa using hb
      exact ⟨v, by simp only [zipM, List.map_cons, List.zip_cons_cons, List.mem_cons]; exact .inl (by rw [this]), hr.1⟩
theorem hasK_out {n : Int} : ∀ {es : List (Int × AV)}, hasK n es = false → n ∉ es.map (·.1)
  | [], _ => by simp
  | e :: es, h => by
    unfold hasK at h
    cases hb : (e.1 == n)
    · rw [hb] at h
      have h1 := hasK_out h
      have h2 : ¬ e.1 = n := by simpa using hb
      simp only [List.map_cons, List.mem_cons, not_or]
      exact ⟨fun hc => h2 hc.symm, h1⟩
    · rw [hb] at h
      simp at h
theorem relT_len : ∀ {cs : List AV} {us : List Value}, RelT hp σ cs us → cs.length = us.length
  | [], [], _ => rfl
  | c :: cs, u :: us, h => by
    simp only [RelT] at h
    simp [relT_len h.2]
  | [], _ :: _, h => by simp [RelT] at h
  | _ :: _, [], h => by simp [RelT] at h
theorem run_update {t : TypeId} {r : Nat} {ms : Array MapEntry} {clock : Nat} {n : Int} {u : Value} (ht : mapOk P t = true) (hb : W.heap[r]? = some (.map ms clock)) (hk : ∀ m ∈ ms.toList, ∃ x, m.key = .int .i64 x ∧ x ≠ n) :
    (Instr.mapUpdate t (.map (some r)) (.int .i64 n) u).run P W = .ok () { W with heap := W.heap.setIfInBounds r (.map (ms.push ⟨.int .i64 n, u, clock⟩) (clock + 1)) } := by
  obtain ⟨k, e, h1, h2⟩ := mapOk_out ht
  have hkey : MapKept.IsKey (.int .i64) (.int .i64 n) := rfl
  have hks : ∀ x ∈ ms.toList, MapKept.IsKey (.int .i64) x.key := fun x hx => by
    obtain ⟨y, hy, _⟩ := hk x hx
    rw [hy]
    rfl
  rcases MapKept.findNow_spec hkey ms.toList 0 hks with ⟨h3, _⟩ | ⟨j, m, _, h4, h5⟩
  · simp [Instr.mapUpdate, run_underlying h1, MapKept.run_getObj_map hb, MapKept.run_checkKey h2 hkey, MapKept.run_findKey h2 h3, MapKept.run_setObj_map _ hb, Result.andThen]
  · exfalso
    obtain ⟨y, hy, hne⟩ := hk m (List.mem_of_getElem? h4)
    rw [h5] at hy
    simp only [Value.int.injEq, true_and] at hy
    exact hne hy.symm
theorem run_look {t : TypeId} {r : Nat} {ms : Array MapEntry} {clock : Nat} {n : Int} {u : Value} (ht : mapOk P t = true) (hb : W.heap[r]? = some (.map ms clock)) (hk : ∀ m ∈ ms.toList, ∃ x, m.key = .int .i64 x) (hin : ∃ m ∈ ms.toList, m.key = .int .i64 n)
    (hu : ∀ m ∈ ms.toList, m.key = .int .i64 n → m.val = u) : (Instr.lookup t (.map (some r)) (.int .i64 n) false).run P W = .ok u W := by
  obtain ⟨k, e, h1, h2⟩ := mapOk_out ht
  have hkey : MapKept.IsKey (.int .i64) (.int .i64 n) := rfl
  have hks : ∀ x ∈ ms.toList, MapKept.IsKey (.int .i64) x.key := fun x hx => by
    obtain ⟨y, hy⟩ := hk x hx
    rw [hy]
    rfl
  rcases MapKept.findNow_spec hkey ms.toList 0 hks with ⟨_, h3⟩ | ⟨j, m, h3, h4, h5⟩
  · obtain ⟨m, hm, hmk⟩ := hin
    exact absurd hmk (h3 m hm)
  · have := hu m (List.mem_of_getElem? h4) h5
    subst this
    simp [Instr.lookup, run_underlying h1, MapKept.run_getObj_map hb, MapKept.run_checkKey h2 hkey, MapKept.run_findKey h2 h3, Result.andThen]
theorem makeMap_sound {s : St} {g : Bool} {t : TypeId} {K : AV → St → Prop} (hr : HeapRel hp σ s.H W) (h : makeMapA P t s K) : Does hp σ W s g ((do pure (Next.value (← Instr.makeMap t none)) : Sem Next).run P W) K := by
  refine new_does (o := .map #[] 0) (b := .map t []) (v := .map (some W.heap.size)) (r := .map s.H.length) hr (.inr rfl) ?_ ?_ ?_ h.2
  · simp only [BlkRel]
    exact ⟨W.heap.size, #[], 0, rfl, alloc_new W _, by simp, [], by simp [RelT], by simp⟩
  · simp only [Rel]
    exact ⟨_, upd_same _ _, rfl⟩
  · simp [Instr.makeMap]
theorem lookup_sound {s : St} {t : TypeId} {x k : AV} {u w : Value} {K : AV → St → Prop} (hr : HeapRel hp σ s.H W) (hx : Rel hp σ x u) (hk : Rel hp σ k w) (h : lookupA P t x k s K) :
    ∃ v r, (Instr.lookup t u w false).run P W = .ok v W ∧ K r s ∧ Rel hp σ r v := by
  unfold lookupA at h
  split at h
  · rename_i id n
    unfold lookupB at h
    split at h
    · rename_i t' es hb
      obtain ⟨ht, h⟩ := h
      obtain ⟨y, hf, hK⟩ := optA_out h
      obtain ⟨v, h1, h2, _⟩ := hr.own id _ hb
      simp only [BlkRel] at h2
      obtain ⟨r, ms, clock, rfl, hm, hnd, vs, hrel, hperm⟩ := h2
      simp only [Rel] at hx hk
      obtain ⟨r', h4, rfl⟩ := hx
      rw [h1] at h4
      simp only [Option.some.injEq, Value.map.injEq] at h4
      subst h4 hk
      obtain ⟨u, hu, hrel2⟩ := findK_out hrel hf
      have hmem : ∀ m ∈ ms.toList, (m.key, m.val) ∈ zipM es vs := fun m hm => hperm.mem_iff.1 (List.mem_map.2 ⟨m, hm, rfl⟩)
      refine ⟨u, y, run_look ht hm (fun m hm => ?_) ?_ (fun m hm hmk => ?_), hK, hrel2⟩
      · obtain ⟨x, hx, _⟩ := zipM_key (hmem m hm)
        exact ⟨x, hx⟩
      · obtain ⟨m, hm1, hm2⟩ := List.mem_map.1 (hperm.mem_iff.2 hu)
        simp only [Prod.mk.injEq] at hm2
        exact ⟨m, hm1, hm2.1⟩
      · have := hmem m hm
        rw [hmk] at this
        exact zipM_uniq hnd this hu
    · exact h.elim
  · exact h.elim
theorem insert_sound {s : St} {g : Bool} {t : TypeId} {x k y : AV} {u w z : Value} {K : AV → St → Prop} (hr : HeapRel hp σ s.H W) (hx : Rel hp σ x u) (hk : Rel hp σ k w) (hy : Rel hp σ y z) (h : insertA P t x k y s K) :
    Does hp σ W s false ((do Instr.mapUpdate t u w z; pure Next.skip : Sem Next).run P W) K := by
  unfold insertA at h
  split at h
  · rename_i id n
    unfold insertB at h
    split at h
    · rename_i t' es hb
      obtain ⟨ht, hnew, hK⟩ := h
      obtain ⟨v, h1, h2, h3⟩ := hr.own id _ hb
      simp only [BlkRel] at h2
      obtain ⟨r, ms, clock, rfl, hm, hnd, vs, hrel, hperm⟩ := h2
      simp only [Rel] at hx hk
      obtain ⟨r', h4, rfl⟩ := hx
      rw [h1] at h4
      simp only [Option.some.injEq, Value.map.injEq] at h4
      subst h4 hk
      have hout := hasK_out hnew
      have hmem : ∀ m ∈ ms.toList, (m.key, m.val) ∈ zipM es vs := fun m hm => hperm.mem_iff.1 (List.mem_map.2 ⟨m, hm, rfl⟩)
      have hrun := run_update (u := z) ht hm (n := n) fun m hm => by
        obtain ⟨x, hx, hx2⟩ := zipM_key (hmem m hm)
        exact ⟨x, hx, fun hc => hout (by rw [← hc]; exact hx2)⟩
      have hlt := (Array.getElem?_eq_some_iff.1 hm).1
      have hoth : ∀ j, j ≠ r → ({ W with heap := W.heap.setIfInBounds r (.map (ms.push ⟨.int .i64 n, z, clock⟩) (clock + 1)) } : World).heap[j]? = W.heap[j]? := fun j hj => by
        simp only [Array.getElem?_setIfInBounds]
        rw [if_neg (Ne.symm hj)]
      refine ⟨undef, { W with heap := W.heap.setIfInBounds r (.map (ms.push ⟨.int .i64 n, z, clock⟩) (clock + 1)) }, .junk, _, hp, σ, .inr ⟨?_, rfl⟩, hK, rfl, ?_, ?_, SgLe.refl _, by simp [Rel], by simp⟩
      · rw [Sem.run_bind, hrun]
        rfl
      · refine hr.write hb h1 rfl (by simp) hoth ?_
        simp only [BlkRel]
        refine ⟨r, ms.push ⟨.int .i64 n, z, clock⟩, clock + 1, rfl, by simp [hlt], ?_, vs ++ [z], ?_, ?_⟩
        · simp only [List.map_append, List.map_cons, List.map_nil]
          exact List.nodup_append.2 ⟨hnd, by simp, fun a ha b hb' => by
            simp only [List.mem_cons, List.not_mem_nil, or_false] at hb'
            subst hb'
            exact fun hc => hout (by rw [← hc]; exact ha)⟩
        · rw [List.map_append]
          exact hrel.app (by simp only [List.map_cons, List.map_nil, RelT]; exact ⟨hy, trivial⟩)
        · rw [List.map_append, List.zip_append (by rw [List.length_map, ← relT_len hrel, List.length_map])]
          rw [Array.toList_push, List.map_append]
          exact hperm.append_right _
      · exact Ev.write h1 rfl (by simp) rfl rfl rfl hoth
    · exact h.elim
  · exact h.elim
def grows (C : Cfg) (o : Oper) : Bool := isF0 o || isF1 o || isE C o
theorem Post.same {s : St} {g : Bool} {K : AV → St → Prop} {r : AV} {v : Value} (hr : HeapRel hp σ s.H W) (hk : K r s) (hrel : Rel hp σ r v) : Post hp σ W s g K v W :=
  ⟨r, s, hp, σ, hk, rfl, hr, Ev.refl _ _ _ _, SgLe.refl _, hrel, fun _ => Grow.refl W⟩
theorem Post.weak {s : St} {g g' : Bool} {K : AV → St → Prop} {v : Value} (hg : g' = true → g = true) (h : Post hp σ W s g K v W') : Post hp σ W s g' K v W' := by
  obtain ⟨r, s', hp', σ', h1, h2, h3, h4, h5, h6, h7⟩ := h
  exact ⟨r, s', hp', σ', h1, h2, h3, h4, h5, h6, fun h => h7 (hg h)⟩
theorem run_callFunc {f : FuncId} {fn : Func} {args : Array Value} (hf : P.funcs[f]? = some fn) (hb : fn.body.isSome = true) (hn : fn.name ≠ "runtime.NumGoroutine") : (callFunc f args).run P W = .ok (.enter f args) W := by
  have hb' : fn.body.isNone = false := by cases h : fn.body <;> simp [h] at hb ⊢
  have hn' : (fn.name == "runtime.NumGoroutine") = false := by simp [hn]
  have hb2 : fn.body ≠ none := fun h => by rw [h] at hb; simp at hb
  simp [callFunc, hf]
  rw [if_neg hn, if_neg hb2]
theorem frz_args {H : Hp} {ids : List Nat} (hr : HeapRel hp σ H W) : ∀ (as : List AV) (us : List Value), (∀ i ∈ as.flatMap idsR, i ∈ ids) → RelT hp σ as us → RelT (frzHp hp σ H W ids) σ (as.map (frzV H)) us
  | [], [], _, _ => by simp [RelT]
  | c :: cs, u :: us, h, hx => by
    simp only [RelT, List.map_cons] at hx ⊢
    exact ⟨frz_val hr (fun i hi => h i (by simp [hi])) hx.1, frz_args hr cs us (fun i hi => h i (by rw [List.flatMap_cons, List.mem_append]; exact .inr hi)) hx.2⟩
  | [], _ :: _, _, h => by simp [RelT] at h
  | _ :: _, [], _, h => by simp [RelT] at h
theorem callA_sound {C : Cfg} {call : Callee} (hc : CallOK C call) {s : St} {g : FuncId} {args : List AV} {vs : List Value} {K : AV → St → Prop} (hr : HeapRel hp σ s.H W) (ha : RelT hp σ args vs) (h : callA C call g args s K) :
    (∃ fn, C.P.funcs[g]? = some fn ∧ fn.body.isSome = true ∧ fn.name ≠ "runtime.NumGoroutine") ∧ Calls C.P g vs.toArray W fun e W' => ∃ v, e = .returned v ∧ Post hp σ W s (!C.heap g || C.quiet g) K v W' := by
  have ha' : RelT hp σ (argsFor (C.heap g) (C.shp g) args) vs := by
    unfold argsFor
    split
    · exact ha
    · exact nilArgs_rel ha
  unfold callA coldA at h
  generalize argsFor (C.heap g) (C.shp g) args = as at h ha'
  split at h
  · obtain ⟨h1, h2⟩ := callR_sound hc (frz_heap hr (as.flatMap idsR)) (frz_args hr as vs (fun i hi => hi) ha') h
    refine ⟨h1, h2.mono fun e W' ⟨v, he, r, s', hp', σ', k1, k2, k3, k4, k5, k6, k7⟩ => ⟨v, he, r, s', hp', σ', k1, k2, k3, ?_, k5, k6, k7⟩⟩
    refine ⟨k4.size, k4.tape, k4.os, k4.out, (frz_le hr _).trans k4.im, k4.keep, fun k o hk => ?_, k4.sgNew⟩
    rcases k4.imNew k o hk with h | h
    · rcases frz_new h with h | h
      · exact .inl h
      · exact .inr (.inr h)
    · exact .inr h
  · exact callR_sound hc hr ha' h
theorem opA_sound {C : Cfg} {call : Callee} (hc : CallOK C call) {o : Oper} {s : St} {a : Act} {K : AV → St → Prop} (hr : HeapRel hp σ s.H W) (hg : ∀ x, Rel hp σ (s.get x) (a.eval x)) (h : opA C call o s K) : Ends C.P o a W (Post hp σ W s (grows C o) K) := by
  by_cases h0 : isF0 o = true
  · obtain ⟨v, r, h1, h2, h3⟩ := opF0_sound h0 hr hg h
    exact .value v W (h1 W) (Post.same hr h2 h3)
  by_cases h1 : isF1 o = true
  · obtain ⟨v, r, h1, h2, h3⟩ := opF1_sound h1 hr hg h
    exact .value v W (h1 W (Grow.refl W)) (Post.same hr h2 h3)
  obtain ⟨dst, op, ty, pos, af, g⟩ := o
  cases op
  case alloc e => exact (alloc_sound (P := C.P) hr h).ends
  case box e x => exact (box_sound (P := C.P) hr (hg x) h).ends
  case buildSlice t len parts =>
    obtain ⟨parts⟩ := parts
    have hin : ∀ (l : List (Nat × Operand)) (p : Nat × Operand), p ∈ l → ∀ i ∈ idsR (s.get p.2), i ∈ idsP s l := by
      intro l
      induction l with
      | nil => intro p hp; simp at hp
      | cons q l ih =>
        intro p hp i hi
        rw [idsP, List.mem_append]
        rcases List.mem_cons.1 hp with rfl | hp
        · exact .inl hi
        · exact .inr (ih p hp i hi)
    exact (frz_does hr (buildSlice_sound (P := C.P) (get := fun x => frzV s.H (s.get x)) (frz_heap hr (idsP s parts)) (fun p hp => frz_val hr (hin parts p hp) (hg p.2)) h)).ends
  case makeMap t r =>
    cases r with
    | none => exact (makeMap_sound (P := C.P) hr h).ends
    | some r => exact h.elim
  case insert t m k x =>
    have h' : insertA C.P t (s.get m) (s.get k) (s.get x) s K := h
    exact ((insert_sound (P := C.P) (g := false) hr (hg m) (hg k) (hg x) h').ends).mono fun v W' hp2 => hp2.weak (by simp [grows, isF0, isF1, isE])
  case lookup t m k ok =>
    cases ok with
    | true => exact h.elim
    | false =>
      have h' : lookupA C.P t (s.get m) (s.get k) s K := h
      obtain ⟨v, r, h1, h2, h3⟩ := lookup_sound (P := C.P) hr (hg m) (hg k) h'
      refine .value v W ?_ (Post.same hr h2 h3)
      simp only [execOp]
      rw [Sem.run_bind, h1]
      rfl
  case makeSlice t n m => exact (make_sound (P := C.P) hr (hg n) (hg m) h).ends
  case store t x y =>
    have h' : storeA C.P t (s.get x) (s.get y) s K := h
    unfold storeA at h'
    split at h'
    · rename_i id sz i f hx
      have hxr := hg x
      rw [hx] at hxr
      exact (frz_does hr (store_sound (P := C.P) (frz_heap hr (idsR (s.get y))) (Rel.mono (frz_le hr _) (SgLe.refl σ) _ _ hxr) (frz_val hr (fun i hi => hi) (hg y)) h')).ends
    · rename_i id f hx
      have hxr := hg x
      rw [hx] at hxr
      exact (store_sound (P := C.P) hr hxr (hg y) h').ends
    · exact h'.elim
  case call c =>
    obtain ⟨callee, args, ts⟩ := c
    obtain ⟨args⟩ := args
    obtain ⟨ts⟩ := ts
    cases callee with
    | builtin b =>
      cases b
      case len => exact absurd rfl h0
      case min => exact absurd rfl h0
      case append =>
        match ts, args, h with
        | [t, t'], [x, y], h =>
          have := append_sound (P := C.P) (ty := ty) hr (hg x) (hg y) h
          rw [← run_call_append (d := dst) (pos := pos) (af := af) (g := g)] at this
          exact this.ends
        | [], _, h => exact h.elim
        | [_], _, h => exact h.elim
        | _ :: _ :: _ :: _, _, h => exact h.elim
        | [_, _], [], h => exact h.elim
        | [_, _], [_], h => exact h.elim
        | [_, _], _ :: _ :: _ :: _, h => exact h.elim
      case copy =>
        match ts, args, h with
        | [t, t'], [x, y], h =>
          have := copy_sound (P := C.P) (tx := t') (ty := ty) hr (hg x) (hg y) h
          have he : execOp a.eval ⟨dst, .call ⟨.builtin .copy, #[x, y], #[t, t']⟩, ty, pos, af, g⟩ = (do pure (Next.value (← Builtin.copy_ #[t, t'] ty #[a.eval x, a.eval y]))) := by
            simp only [execOp, resolve, List.map_toArray, List.map_cons, List.map_nil, invoke, builtin]
            rfl
          rw [← he] at this
          exact this.ends
        | [], _, h => exact h.elim
        | [_], _, h => exact h.elim
        | _ :: _ :: _ :: _, _, h => exact h.elim
        | [_, _], [], h => exact h.elim
        | [_, _], [_], h => exact h.elim
        | [_, _], _ :: _ :: _ :: _, h => exact h.elim
      case clear =>
        match ts, args, h with
        | [t], [x], h =>
          have := clear_sound (P := C.P) (ty := ty) hr (hg x) h
          have he : execOp a.eval ⟨dst, .call ⟨.builtin .clear, #[x], #[t]⟩, ty, pos, af, g⟩ = (do pure (Next.value (← Builtin.clear_ #[t] ty #[a.eval x]))) := by
            simp only [execOp, resolve, List.map_toArray, List.map_cons, List.map_nil, invoke, builtin]
            rfl
          rw [← he] at this
          exact this.ends
        | [], _, h => exact h.elim
        | _ :: _ :: _, _, h => exact h.elim
        | [_], [], h => exact h.elim
        | [_], _ :: _ :: _, h => exact h.elim
      case cap =>
        match ts, args, h with
        | [t], [x], h =>
          have h' : capA C.P t (roomA s.H (s.get x)) s K := h
          unfold capA at h'
          split at h'
          · rename_i r hrm
            obtain ⟨he, hk⟩ := h'
            obtain ⟨e, hu⟩ := elem_of he
            obtain ⟨id, sz, len, hx, hroom⟩ := roomA_spec hr (hg x) r hrm
            have hrun : (execOp a.eval ⟨dst, .call ⟨.builtin .cap, #[x], #[t]⟩, ty, pos, af, g⟩).run C.P W = .ok (.value (.int .i64 (r : Int))) W := by
              have : execOp a.eval ⟨dst, .call ⟨.builtin .cap, #[x], #[t]⟩, ty, pos, af, g⟩ = (do pure (Next.value (← Builtin.cap_ #[t] ty #[a.eval x]))) := by
                simp only [execOp, resolve, List.map_toArray, List.map_cons, List.map_nil, invoke, builtin]
                rfl
              rw [this]
              refine run_vOf ?_
              rcases hroom with ⟨k, _, hu2, _⟩ | ⟨rfl, _, _, A, hu2⟩
              · rw [hu2]
                simp [Builtin.cap_, run_underlying hu, goInt]
              · rw [hu2]
                simp [Builtin.cap_, run_underlying hu, goInt]
            exact .value _ W hrun (Post.same hr hk (by simp [Rel]))
          · exact h'.elim
        | [], _, h => exact h.elim
        | _ :: _ :: _, _, h => exact h.elim
        | [_], [], h => exact h.elim
        | [_], _ :: _ :: _, h => exact h.elim
      all_goals exact h.elim
    | value f =>
      have h' : callV C call (s.get f) (args.map s.get) s K := h
      unfold callV at h'
      split at h'
      · rename_i gf first cap he
        have hf := hg f
        rw [he] at hf
        simp only [Rel] at hf
        obtain ⟨va, vb, hf, hra, hrb⟩ := hf
        have hargs := (hra.app (gets_rel hg args)).app hrb
        unfold callX at h'
        split at h'
        rotate_left
        · rename_i e hext
          obtain ⟨r, hres, hk⟩ := optA_out h'
          obtain ⟨v, hv, hrv⟩ := hc.1 gf e hext s.H _ r _ W hp σ hargs hr hres
          refine .value v W ?_ (Post.same hr hk hrv)
          simp only [execOp, resolve, hf, Deferred.ofValue, Sem.run_bind, Sem.run_pure, Result.andThen_ok, invoke]
          have he2 : (va.toArray ++ (args.toArray.map a.eval) ++ vb.toArray) = (va ++ args.map a.eval ++ vb).toArray := by simp
          rw [he2]
          exact hv
        obtain ⟨⟨fn, hfn, hb, hn⟩, hcall⟩ := callA_sound hc hr hargs h'
        have hrun : (execOp a.eval ⟨dst, .call ⟨.value f, args.toArray, ts.toArray⟩, ty, pos, af, g⟩).run C.P W = .ok (.enter gf (va ++ args.map a.eval ++ vb).toArray) W := by
          simp only [execOp, resolve, hf, Deferred.ofValue, Sem.run_bind, Sem.run_pure, Result.andThen_ok, invoke]
          rw [run_callFunc hfn hb hn]
          simp
        refine .enter _ _ W hrun (hcall.mono fun e W' ⟨v, he', hp2⟩ => ⟨v, he', hp2.weak fun hgr => ?_⟩)
        cases f with
        | func k =>
          simp only [St.get, AV.fn.injEq] at he
          obtain ⟨rfl, _, _⟩ := he
          simpa [grows, isF0, isF1, isE] using hgr
        | _ => simp [grows, isF0, isF1, isE] at hgr
      · exact h'.elim
    | _ => exact h.elim
  all_goals first | exact h.elim | exact absurd rfl h0 | exact absurd rfl h1
end
end Go.Ai

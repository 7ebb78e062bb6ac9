/- The abstract machine is sound: what it says of a call, the model's call does. -/
import Derived.Test.YtmebpmghmghhkaaAiDraw
import Derived.Scope
set_option linter.unusedVariables false
set_option linter.unusedSimpArgs false
namespace Go.Ai
section
variable {C : Cfg} {call : Callee} {E : Ent} {s : St} {a : Act} {W W' : World} {hp hp' : Im} {σ σ' : Sg}
theorem rowZ_now {n : Nat} {t : TypeId} {sz : Nat} (h : Now E s a W hp σ) (hx : ∃ A, a.tmps.getD n undef = .slice A 0 0) : ∃ σ', Now E (rowZ n t sz s) a W hp σ' := by
  obtain ⟨A, hx⟩ := hx
  cases sz with
  | zero => exact ⟨σ, h⟩
  | succ k =>
    have hle := upd_le h.heap.dom (.slice none 0 0)
    refine ⟨upd σ s.H.length (.slice none 0 0), ?_, fun m => ?_, h.ev.trans (n := 0) (Ev.step (Nat.le_refl _) rfl rfl rfl (fun _ _ _ => rfl) fun j hj => by simp [bn] at hj), h.defers, h.nt, h.sg.trans hle⟩
    · refine h.heap.step rfl (fun _ _ h => h) (Nat.le_refl _) (fun _ _ _ => rfl) (fun i c w j _ _ _ => ⟨rfl, by simp [bn]⟩) (fun j hj => by simp [bn] at hj) ?_
      simp only [BlkRel]
      exact ⟨by omega, by simp, [], ⟨by simp, .inl ⟨rfl, rfl⟩⟩, by simp [RelL]⟩
    · show Rel hp _ (if n = m then .row s.H.length (k + 1) 0 0 else find m s.t) _
      split
      · rename_i hm
        subst hm
        rw [hx]
        simp only [Rel]
        exact .inr ⟨upd_same _ _, trivial, trivial, A, rfl⟩
      · exact Rel.mono (ImLe.refl _) hle _ _ (h.tmps m)
theorem rowify_now : ∀ {rs : List (Nat × TypeId × Nat)} {s : St} {σ : Sg}, Now E s a W hp σ → ∃ σ', Now E (rowify rs s) a W hp σ'
  | [], s, σ, h => ⟨σ, h⟩
  | (n, t, sz) :: r, s, σ, h => by
    unfold rowify
    have ht := h.tmps n
    split
    · rename_i e
      rw [e] at ht
      simp only [Rel] at ht
      obtain ⟨σ1, h1⟩ := rowZ_now (n := n) (t := t) (sz := sz) h ⟨none, ht⟩
      exact rowify_now h1
    · rename_i e
      rw [e] at ht
      simp only [Rel] at ht
      obtain ⟨σ1, h1⟩ := rowZ_now (n := n) (t := t) (sz := sz) h ht
      exact rowify_now h1
    · exact rowify_now h
/-- Rows that nobody writes any more. -/
theorem frz_ev {ids : List Nat} (hr : HeapRel hp σ s.H W) (h : Ev E hp σ W) : Ev E (frzHp hp σ s.H W ids) σ W :=
  ⟨h.size, h.tape, h.os, h.out, h.im.trans (frz_le hr ids), h.keep, fun k o hk => by
    rcases frz_new hk with h1 | ⟨id, v, h1, h2⟩
    · exact h.imNew k o h1
    · exact .inr (h.sgNew id v k h1 h2), h.sgNew⟩
theorem rmv_mem {i j : Nat} : ∀ {l : List Nat}, j ∈ rmv i l ↔ j ∈ l ∧ j ≠ i
  | [] => by simp [rmv]
  | k :: r => by
    unfold rmv
    split
    · rename_i h
      rw [rmv_mem (l := r)]
      subst h
      constructor
      · rintro ⟨h1, h2⟩; exact ⟨List.mem_cons_of_mem _ h1, h2⟩
      · rintro ⟨h1, h2⟩
        rcases List.mem_cons.1 h1 with rfl | h1
        · exact absurd rfl h2
        · exact ⟨h1, h2⟩
    · rename_i h
      rw [List.mem_cons, rmv_mem (l := r), List.mem_cons]
      constructor
      · rintro (rfl | ⟨h1, h2⟩)
        · exact ⟨.inl rfl, h⟩
        · exact ⟨.inr h1, h2⟩
      · rintro ⟨rfl | h1, h2⟩
        · exact .inl rfl
        · exact .inr ⟨h1, h2⟩
theorem frz_cells {H : Hp} {ids : List Nat} {id : Nat} {t : TypeId} {cs0 : List AV} (hr : HeapRel hp σ H W) (hb : blk H id = some (.var t cs0)) : ∀ (cs : List AV) (us : List Value), (∀ i ∈ cs.flatMap idsR0, i ≠ id → i ∈ ids) → RelL hp σ cs us → RelL (frzHp hp σ H W ids) σ (cs.map (frz0 H)) us
  | [], [], _, _ => by simp [RelL]
  | c :: cs, u :: us, h, hx => by
    simp only [RelL, List.map_cons] at hx ⊢
    refine ⟨⟨?_, hx.1.2⟩, frz_cells hr hb cs us (fun i hi => h i (by rw [List.flatMap_cons, List.mem_append]; exact .inr hi)) hx.2⟩
    by_cases hc : ∀ i ∈ idsR0 c, i ≠ id
    · exact frz_row hr (fun i hi => h i (by simp [hi]) (hc i hi)) hx.1.1
    · cases c with
      | row id' sz off len =>
        have he : id' = id := by simpa [idsR0] using hc
        subst he
        simp [frz0, borrow, hb, Rel]
      | _ => simp [idsR0] at hc
  | [], _ :: _, _, h => by simp [RelL] at h
  | _ :: _, [], _, h => by simp [RelL] at h
theorem frzS_now {n : Nat} (h : Now E s a W hp σ) : ∃ hp', Now E (frzS n s (s.tmp n)) a W hp' σ := by
  have old : ∀ ids m, Rel (frzHp hp σ s.H W ids) σ (s.tmp m) (a.tmps.getD m undef) := fun ids m => Rel.mono (frz_le h.heap ids) (SgLe.refl _) _ _ (h.tmps m)
  have hn := h.tmps n
  unfold frzS
  split
  · rename_i id hx
    unfold frzB
    split
    · rename_i t cs hb
      refine ⟨frzHp hp σ s.H W (rmv id (cs.flatMap idsR0)), ?_, old _, frz_ev h.heap h.ev, h.defers, h.nt, h.sg⟩
      have hh := frz_heap h.heap (rmv id (cs.flatMap idsR0))
      obtain ⟨v, h1, h2, h3⟩ := h.heap.own id _ hb
      have hbc : blk (clr s.H (rmv id (cs.flatMap idsR0))) id = some (.var t cs) := by
        have : ∀ (l : List Nat) (H : Hp), id ∉ l → blk (clr H l) id = blk H id := by
          intro l
          induction l with
          | nil => intro H _; rfl
          | cons j l ih =>
            intro H hn
            simp only [List.mem_cons, not_or] at hn
            rw [clr, ih _ hn.2, blk_set_other _ hn.1]
        rw [this _ _ (fun hm => (rmv_mem.1 hm).2 rfl)]
        exact hb
      simp only [BlkRel] at h2
      obtain ⟨k, us, rfl, h4, h5⟩ := h2
      refine hh.write (W' := W) hbc h1 rfl rfl (fun _ _ => rfl) ?_
      simp only [BlkRel]
      exact ⟨k, us, rfl, h4, frz_cells h.heap hb cs us (fun i hi hne => rmv_mem.2 ⟨hi, hne⟩) h5⟩
    · exact ⟨hp, h⟩
  · rename_i id sz off len hx
    rw [hx] at hn
    refine ⟨frzHp hp σ s.H W [id], frz_heap h.heap [id], fun m => ?_, frz_ev h.heap h.ev, h.defers, h.nt, h.sg⟩
    show Rel _ σ (if n = m then frz0 s.H (.row id sz off len) else find m s.t) _
    split
    · rename_i hm
      subst hm
      exact frz_row h.heap (fun i hi => by simpa [idsR0] using hi) hn
    · exact old _ m
  · rename_i cs hx
    rw [hx] at hn
    refine ⟨frzHp hp σ s.H W (cs.flatMap idsR0), frz_heap h.heap _, fun m => ?_, frz_ev h.heap h.ev, h.defers, h.nt, h.sg⟩
    show Rel _ σ (if n = m then .agg (cs.map (frz0 s.H)) else find m s.t) _
    split
    · rename_i hm
      subst hm
      simp only [Rel] at hn ⊢
      obtain ⟨vs, h1, h2⟩ := hn
      exact ⟨vs, h1, frz_list h.heap cs vs (fun i hi => hi) h2⟩
    · exact old _ m
  · exact ⟨hp, h⟩
theorem frzAll_now : ∀ {l : List Nat} {s : St} {hp : Im}, Now E s a W hp σ → ∃ hp', Now E (frzAll l s) a W hp' σ
  | [], s, hp, h => ⟨hp, h⟩
  | n :: r, s, hp, h => by
    obtain ⟨hp1, h1⟩ := frzS_now (n := n) h
    unfold frzAll
    exact frzAll_now h1
theorem norm_now {N : Norm} (h0 : ∀ id v, E.σ id = some v → id < N.base) (h : Now E s a W hp σ) : ∃ hp' σ', Now E (norm N s) a W hp' σ' := by
  obtain ⟨σ1, h1⟩ := rowify_now (rs := N.rows) h
  obtain ⟨hp2, h2⟩ := frzAll_now (l := N.frz) h1
  obtain ⟨σ3, h3⟩ := h2.normTo h0
  exact ⟨hp2, σ3, h3⟩
/-- The exits that code of ours takes. -/
def Plain : Exit → Prop
  | .normal => True
  | .exit _ => True
  | .ret => True
  | _ => False
open Classical in
theorem code_sound (hc : CallOK C call) (hmix : C.P.follows .mixedOrders = true) (f : FuncId) {nb : Nat} (h0 : ∀ id v, E.σ id = some v → id < nb) : ∀ (c : Code) (s : St) (a : Act) (W : World) (hp : Im) (σ : Sg) (Q : Exit → St → Prop) (R : Exit → Act → World → Prop),
    dstsOk E.nt c = true → drawsOk C f c = true → Now E s a W hp σ → wpA C f nb call c s Q →
    (∀ e s' a' W' hp' σ', Plain e → Now E s' a' W' hp' σ' → Q e s' → R e a' W') → c.wp C.P R a W
  | .skip, s, a, W, hp, σ, Q, R, _, _, hn, h, hR => wp_skip (hR _ _ _ _ _ _ trivial hn h)
  | .label l, s, a, W, hp, σ, Q, R, _, _, hn, h, hR => wp_label (hR _ _ _ _ _ _ trivial hn h)
  | .region id ops false, s, a, W, hp, σ, Q, R, hd, _, hn, h, hR => by
    refine wp_region_list (list_sound hc (fun s' a' W' hp' σ' h1 h2 => hR .normal s' a' W' hp' σ' trivial h1 h2) _ s a W hp σ (dsts_of hd) hn h)
  | .region id ops true, s, a, W, hp, σ, Q, R, hd, hw, hn, h, hR => draw_sound hc hmix (dsts_of hd) hw hn h fun s' a' W' hp' σ' h1 h2 => hR .normal s' a' W' hp' σ' trivial h1 h2
  | .seq x y, s, a, W, hp, σ, Q, R, hd, hw, hn, h, hR => by
    simp only [dstsOk, drawsOk, Bool.and_eq_true] at hd hw
    simp only [wpA] at h
    unfold CutSeq at h
    split at h
    · refine wp_seq (code_sound hc hmix f h0 x s a W hp σ _ _ hd.1 hw.1 hn h fun e s' a' W' hp' σ' hpl h1 h2 => ?_)
      cases e with
      | normal => exact code_sound hc hmix f h0 y s' a' W' hp' σ' Q R hd.2 hw.2 h1 h2 hR
      | exit id => exact hR _ _ _ _ _ _ trivial h1 h2
      | ret => exact hR _ _ _ _ _ _ trivial h1 h2
      | goto l => exact hpl.elim
      | panic ch => exact hpl.elim
      | outgrown => exact hpl.elim
    · rename_i N hN
      have hbase : N.base = nb := by
        unfold cutN at hN
        split at hN
        · simp at hN
        · simp only [Option.some.injEq] at hN
          rw [← hN]
          rfl
      obtain ⟨I, hI1, hI2⟩ := h
      refine wp_seq (code_sound hc hmix f h0 x s a W hp σ _ _ hd.1 hw.1 hn hI1 fun e s' a' W' hp' σ' hpl h1 h2 => ?_)
      cases e with
      | normal =>
        obtain ⟨hp2, σ2, hn2⟩ := norm_now (N := N) (by rw [hbase]; exact h0) h1
        exact code_sound hc hmix f h0 y _ a' W' hp2 σ2 Q R hd.2 hw.2 hn2 (hI2 _ h2) hR
      | exit id => exact hR _ _ _ _ _ _ trivial h1 h2
      | ret => exact hR _ _ _ _ _ _ trivial h1 h2
      | goto l => exact hpl.elim
      | panic ch => exact hpl.elim
      | outgrown => exact hpl.elim
  | .cond c x y, s, a, W, hp, σ, Q, R, hd, hw, hn, h, hR => by
    simp only [dstsOk, drawsOk, Bool.and_eq_true] at hd hw
    have hcv := hn.get c
    simp only [wpA] at h
    split at h
    · rename_i b e
      rw [e] at hcv
      simp only [Rel] at hcv
      refine wp_cond hcv ?_
      cases b
      · exact code_sound hc hmix f h0 y s a W hp σ Q R hd.2 hw.2 hn (by simpa using h) hR
      · exact code_sound hc hmix f h0 x s a W hp σ Q R hd.1 hw.1 hn (by simpa using h) hR
    · exact h.elim
  | .block id x, s, a, W, hp, σ, Q, R, hd, hw, hn, h, hR => by
    refine wp_block (code_sound hc hmix f h0 x s a W hp σ _ _ hd hw hn h fun e s' a' W' hp' σ' hpl h1 h2 => ?_)
    cases e with
    | normal => exact hR _ _ _ _ _ _ trivial h1 h2
    | exit k =>
      simp only [blkK] at h2
      simp only [Exit.inBlock]
      split
      · rename_i hk
        rw [if_pos hk] at h2
        exact hR _ _ _ _ _ _ trivial h1 h2
      · rename_i hk
        rw [if_neg hk] at h2
        exact hR _ _ _ _ _ _ trivial h1 h2
    | ret => exact hR _ _ _ _ _ _ trivial h1 h2
    | goto l => exact hpl.elim
    | panic ch => exact hpl.elim
    | outgrown => exact hpl.elim
  | .loop x, s, a, W, hp, σ, Q, R, hd, hw, hn, h, hR => by
    obtain ⟨I, ⟨n0, hI0⟩, hstep⟩ := h
    obtain ⟨hp0, σ0, hn0⟩ := norm_now (N := withBase nb (C.norms f (firstRegion x))) h0 hn
    let J : Nat → Act → World → Prop := fun n a W => ∃ s hp σ, I n s ∧ Now E s a W hp σ
    have hex : ∀ {a W}, (∃ n, J n a W) → ∃ n, J n a W ∧ ∀ m, J m a W → n ≤ m := fun {a W} ⟨n, hn⟩ => by
      induction n using Nat.strongRecOn with
      | _ n ih =>
        by_cases hm : ∃ m, m < n ∧ J m a W
        · obtain ⟨m, h1, h2⟩ := hm
          exact ih m h1 h2
        · refine ⟨n, hn, fun m hJ => ?_⟩
          rcases Nat.lt_or_ge m n with h1 | h1
          · exact absurd ⟨m, h1, hJ⟩ hm
          · exact h1
    let μ : Act → World → Nat := fun a W => if h : ∃ n, J n a W then (hex h).choose else 0
    have hμ : ∀ {a W}, (∃ n, J n a W) → J (μ a W) a W ∧ ∀ m, J m a W → μ a W ≤ m := fun {a W} h => by
      show J (if h : ∃ n, J n a W then (hex h).choose else 0) a W ∧ ∀ m, J m a W → (if h : ∃ n, J n a W then (hex h).choose else 0) ≤ m
      rw [dif_pos h]
      exact (hex h).choose_spec
    refine wp_loop (fun a W => ∃ n, J n a W) μ ⟨n0, _, hp0, σ0, hI0, hn0⟩ fun a1 W1 h1 => ?_
    obtain ⟨⟨s1, hp1, σ1, hI1, hn1⟩, _⟩ := hμ h1
    refine code_sound hc hmix f h0 x s1 a1 W1 hp1 σ1 _ _ hd hw hn1 (hstep _ _ hI1) fun e s' a' W' hp' σ' hpl h2 h3 => ?_
    cases e with
    | normal =>
      obtain ⟨n', hlt, hI'⟩ := h3
      obtain ⟨hp2, σ2, h4⟩ := norm_now (N := withBase nb (C.norms f (firstRegion x))) h0 h2
      have hJ : J n' a' W' := ⟨_, hp2, σ2, hI', h4⟩
      exact ⟨⟨n', hJ⟩, Nat.lt_of_le_of_lt ((hμ ⟨n', hJ⟩).2 n' hJ) hlt⟩
    | exit id =>
      obtain ⟨σ2, h4⟩ := h2.normTo (keep := (C.norms f (firstRegion x)).out) h0
      exact hR _ _ _ _ _ _ trivial h4 h3
    | ret =>
      obtain ⟨σ2, h4⟩ := h2.normTo (keep := (C.norms f (firstRegion x)).out) h0
      exact hR _ _ _ _ _ _ trivial h4 h3
    | goto l => exact hpl.elim
    | panic ch => exact hpl.elim
    | outgrown => exact hpl.elim
  | .exit id, s, a, W, hp, σ, Q, R, _, _, hn, h, hR => wp_exit (hR _ _ _ _ _ _ trivial hn h)
  | .scope x, s, a, W, hp, σ, Q, R, hd, hw, hn, h, hR => by
    refine wp_scope_straight (code_sound hc hmix f h0 x s a W hp σ _ _ hd hw hn h fun e s' a' W' hp' σ' hpl h1 h2 => ?_)
    cases e with
    | normal => exact hR _ _ _ _ _ _ trivial h1 h2
    | exit k => exact hR _ _ _ _ _ _ trivial h1 h2
    | ret => exact hR _ _ _ _ _ _ trivial h1 h2
    | goto l => exact hpl.elim
    | panic ch => exact hpl.elim
    | outgrown => exact hpl.elim
  | .ret, s, a, W, hp, σ, Q, R, _, _, hn, h, hR => wp_ret (hR _ _ _ _ _ _ trivial hn h)
  | .rangeFunc .., _, _, _, _, _, _, _, _, _, _, h, _ => h.elim
  | .goto _, _, _, _, _, _, _, _, _, _, _, h, _ => h.elim
  | .refuse _, _, _, _, _, _, _, _, _, _, _, h, _ => h.elim
/-! ### A call -/
def resG (tmps : Array Value) : ResultVar → Sem Value
  | .tmp t => pure (tmps.getD t undef)
  | .cell b t => do loadVar t (← asAddr (tmps.getD b undef))
theorem results_eq (fn : Func) (tmps : Array Value) : results fn tmps = (do let vs ← fn.results.mapM (resG tmps); pure (if h : vs.size = 1 then vs[0] else .tuple vs)) := by
  unfold results
  congr 1
theorem resA_sound {P : Program} (hn : Now E s a W hp σ) : ∀ {rs : List ResultVar} {l : List AV}, resA P s rs = some l → ∃ vs : List Value, (rs.mapM (resG a.tmps)).run P W = .ok vs W ∧ RelT hp σ l vs
  | [], l, h => by
    simp [resA] at h
    subst h
    exact ⟨[], by simp, by simp [RelT]⟩
  | .tmp t :: r, l, h => by
    simp only [resA] at h
    obtain ⟨l', h1, rfl⟩ := Option.map_eq_some_iff.1 h
    obtain ⟨vs, h2, h3⟩ := resA_sound hn h1
    refine ⟨a.tmps.getD t undef :: vs, ?_, by simp only [RelT]; exact ⟨hn.tmps t, h3⟩⟩
    simp [List.mapM_cons, h2, resG]
  | .cell b t :: r, l, h => by
    simp only [resA] at h
    have hb := hn.tmps b
    split at h
    · rename_i id f e
      split at h
      · rename_i ty cs hbl
        obtain ⟨x, hx, h⟩ := Option.bind_eq_some_iff.1 h
        obtain ⟨l', h1, rfl⟩ := Option.map_eq_some_iff.1 h
        obtain ⟨vs, h2, h3⟩ := resA_sound hn h1
        rw [e] at hb
        obtain ⟨v, r', hv, rfl, hrel⟩ := loadA_sound (P := P) (t := t) (K := fun r _ => r = x) hn.heap hb (by
          unfold loadA
          simp only [hbl, hx, optA])
        simp only [Rel] at hb
        obtain ⟨k, _, hb⟩ := hb
        refine ⟨v :: vs, ?_, by simp only [RelT]; exact ⟨hrel, h3⟩⟩
        have := hv W (Grow.refl W)
        rw [hb] at this
        simp only [Instr.loadAt, Instr.sureAddr, Sem.run_bind, Sem.run_pure, Result.andThen_ok] at this
        simp only [List.mapM_cons, resG, Sem.run_bind, hb, asAddr, Sem.run_pure, Result.andThen_ok, this, h2]
      · simp at h
    · simp at h
theorem retA_sound {P : Program} {fn : Func} {K : AV → Hp → Prop} (hn : Now E s a W hp σ) (h : retA P fn s K) : ∃ v r, (results fn a.tmps).run P W = .ok v W ∧ K r s.H ∧ Rel hp σ r v := by
  unfold retA at h
  have run : ∀ {l : List AV}, resA P s fn.results.toList = some l → ∃ vs : List Value, (results fn a.tmps).run P W = .ok (if h : vs.toArray.size = 1 then vs.toArray[0] else .tuple vs.toArray) W ∧ RelT hp σ l vs := fun {l} hl => by
    obtain ⟨vs, h1, h2⟩ := resA_sound hn hl
    refine ⟨vs, ?_, h2⟩
    rw [results_eq, Sem.run_bind, Array.mapM_eq_mapM_toList]
    simp [h1]
  split at h
  · rename_i x hx
    obtain ⟨vs, h1, h2⟩ := run hx
    match vs, h1, h2 with
    | [v], h1, h2 =>
      simp only [RelT] at h2
      exact ⟨v, x, by simpa using h1, h, h2.1⟩
    | [], _, h2 => simp [RelT] at h2
    | _ :: _ :: _, _, h2 => simp [RelT] at h2
  · rename_i l hne hl
    obtain ⟨vs, h1, h2⟩ := run hl
    have hlen := h2.length
    have h3 : vs.toArray.size ≠ 1 := fun hc => by
      rw [List.size_toArray] at hc
      rw [hc] at hlen
      match l, hne, hlen with
      | [x], hne, _ => exact hne x rfl
      | [], _, hlen => simp at hlen
      | _ :: _ :: _, _, hlen => simp at hlen
    rw [dif_neg h3] at h1
    exact ⟨_, _, h1, h, by simp only [Rel]; exact ⟨vs, rfl, h2⟩⟩
  · exact h.elim
theorem enter_find {hp : Im} {σ : Sg} : ∀ {args : List AV} {vs : List Value} {k : Nat}, RelT hp σ args vs → ∀ n, Rel hp σ (find n (enterA k args)) (if n < k then undef else vs.getD (n - k) undef)
  | [], vs, k, h, n => by simp [enterA, find, Rel]
  | x :: args, [], k, h, n => by simp [RelT] at h
  | x :: args, v :: vs, k, h, n => by
    simp only [RelT] at h
    simp only [enterA, find]
    split
    · rename_i hk
      subst hk
      simpa using h.1
    · rename_i hk
      have := enter_find (k := k + 1) h.2 n
      rcases Nat.lt_or_ge n k with h1 | h1
      · rw [if_pos h1]
        rw [if_pos (by omega)] at this
        exact this
      · rw [if_neg (by omega)]
        rw [if_neg (by omega)] at this
        have he : n - k = (n - (k + 1)) + 1 := by omega
        rw [he, List.getD_cons_succ]
        exact this
/-- A row told anew, under another name. -/
theorem HeapRel.again {id : Nat} {H : Hp} {b0 b : Blk} {v v' : Value} (hr : HeapRel hp σ H W) (hb0 : blk H id = some b0) (hσ : σ id = some v) (hv : ∀ k, bn v' = some k → bn v = some k) (hb : BlkRel hp (upd σ H.length v') W b v') :
    HeapRel hp (upd σ H.length v') (H.set id none ++ [some b]) W ∧ SgLe σ (upd σ H.length v') ∧ ∀ n, Ev ⟨hp, σ, W, n⟩ hp (upd σ H.length v') W := by
  obtain ⟨w, h1, _, h3⟩ := hr.own id b0 hb0
  rw [hσ] at h1
  simp only [Option.some.injEq] at h1
  subst h1
  refine ⟨hr.step (by simp) (sub_set id) (Nat.le_refl _) (fun _ _ _ => rfl) (fun i c w j hc hw hj => ⟨rfl, fun he => ?_⟩) (fun k hk => ⟨hr.lt id v k hσ (hv k hk), h3 k (hv k hk)⟩) hb, upd_le hr.dom _, fun n => Ev.step (Nat.le_refl _) rfl rfl rfl (fun _ _ _ => rfl) (fun k hk => .inr ⟨id, v, hσ, hv k hk⟩)⟩
  have hi : i ≠ id := fun h => by
    subst h
    rw [blk_set_same _ (blk_lt hb0)] at hc
    simp at hc
  exact hi (hr.apart i id c b0 w v j (sub_set id i c hc) hb0 hw hσ hj (hv j he))
theorem opens_sound {b : Bool} {args : List AV} {H : Hp} {vs : List Value} {Q : List AV → Hp → Prop} {n : Nat} (ha : RelT hp σ args vs) (hr : HeapRel hp σ H W) (h : opensA b args H Q) :
    ∃ args' H' σ', Q args' H' ∧ args'.length = args.length ∧ RelT hp σ' args' vs ∧ HeapRel hp σ' H' W ∧ SgLe σ σ' ∧ Ev ⟨hp, σ, W, n⟩ hp σ' W := by
  have same : Q args H → ∃ args' H' σ', Q args' H' ∧ args'.length = args.length ∧ RelT hp σ' args' vs ∧ HeapRel hp σ' H' W ∧ SgLe σ σ' ∧ Ev ⟨hp, σ, W, n⟩ hp σ' W := fun h => ⟨args, H, σ, h, rfl, ha, hr, SgLe.refl _, Ev.refl _ _ _ _⟩
  unfold opensA at h
  split at h
  · unfold openA at h
    split at h
    · rename_i id sz len r
      split at h
      · rename_i t sz' xs hb
        obtain ⟨rfl, h⟩ := h
        cases vs with
        | nil => simp [RelT] at ha
        | cons v vs =>
        simp only [RelT] at ha
        obtain ⟨hx, ha⟩ := ha
        obtain ⟨us, hrow, hnn⟩ := rowish_row hr hb
        obtain ⟨hpos, hlx, hrel, hat⟩ := hrow
        simp only [Rel] at hx
        rcases hx with ⟨k, m, c, hσ, hle, _, hA⟩ | ⟨hσ, _, h0, B, rfl⟩
        · have hv := hA (.inl trivial)
          simp only [Nat.zero_mul, Nat.sub_zero] at hv
          subst hv
          obtain ⟨hn, hmc, hmax, hcells, cur, hheap, hcs, htk⟩ := hat k m c hσ
          have hm := hnn k m c hσ
          subst hm
          obtain ⟨h1, h2, h3⟩ := hr.again (v' := .slice (some ⟨k, 0, none⟩) c c) (b := .rowc t sz' c xs) hb hσ (fun j hj => by simpa [bn] using hj) (by
            simp only [BlkRel]
            exact ⟨hpos, hlx, us, hrel, .inr ⟨k, cur, rfl, hmc, hmax, hheap, hcs, htk⟩⟩)
          refine ⟨_, _, _, h c hmc, by simp, ?_, h1, h2, h3 n⟩
          simp only [RelT]
          refine ⟨?_, RelT.mono (ImLe.refl _) h2 _ _ ha⟩
          simp only [Rel]
          exact .inl ⟨k, c, c, upd_same _ _, by omega, ⟨_, _, rfl, by omega⟩, fun _ => by simp⟩
        · subst h0
          have hx0 : xs = [] := by
            obtain ⟨v, hv, hbr, _⟩ := hr.own id _ hb
            rw [hσ] at hv
            simp only [Option.some.injEq] at hv
            subst hv
            simp only [BlkRel] at hbr
            obtain ⟨_, _, us', ho, _⟩ := hbr
            rcases ho.2 with ⟨_, h⟩ | ⟨_, _, _, h, _⟩
            · exact List.eq_nil_of_length_eq_zero h
            · simp at h
          subst hx0
          obtain ⟨h1, h2, h3⟩ := hr.again (v' := .slice none 0 0) (b := .rowc t sz' 0 []) hb hσ (fun j hj => by simp [bn] at hj) (by
            simp only [BlkRel]
            exact ⟨hpos, by simp, [], by simp [RelL], .inl (by simp)⟩)
          refine ⟨_, _, _, h 0 (Nat.le_refl _), by simp, ?_, h1, h2, h3 n⟩
          simp only [RelT]
          refine ⟨?_, RelT.mono (ImLe.refl _) h2 _ _ ha⟩
          simp only [Rel]
          exact .inr ⟨upd_same _ _, trivial, trivial, B, rfl⟩
      · exact same h
    · exact same h
  · exact same h
theorem shutA_sound {t : TypeId} {sz : Nat} {r : AV} {H : Hp} {v : Value} {K : AV → Hp → Prop} (hx : Rel hp σ r v) (hr : HeapRel hp σ H W) (h : shutA t sz r H K) :
    ∃ r' H' σ', K r' H' ∧ Rel hp σ' r' v ∧ HeapRel hp σ' H' W ∧ SgLe σ σ' ∧ ∀ n, Ev ⟨hp, σ, W, n⟩ hp σ' W := by
  have same : K r H → ∃ r' H' σ', K r' H' ∧ Rel hp σ' r' v ∧ HeapRel hp σ' H' W ∧ SgLe σ σ' ∧ ∀ n, Ev ⟨hp, σ, W, n⟩ hp σ' W := fun h => ⟨r, H, σ, h, hx, hr, SgLe.refl _, fun n => Ev.refl _ _ _ _⟩
  have main : ∀ {id sz len : Nat} {t : TypeId} {xs : List (List AV)} {us : List Value} {b0 : Blk}, r = .row id sz 0 len → blk H id = some b0 → Rowish hp σ W id sz t xs us → (∀ k n c, σ id = some (.slice (some ⟨k, 0, none⟩) n c) → len ≤ n → len ≤ xs.length) → K (.row H.length sz 0 len) (H.set id none ++ [some (.row t sz (xs.take len))]) →
      ∃ r' H' σ', K r' H' ∧ Rel hp σ' r' v ∧ HeapRel hp σ' H' W ∧ SgLe σ σ' ∧ ∀ n, Ev ⟨hp, σ, W, n⟩ hp σ' W := fun {id sz len t xs us b0} hre hb hrow hlen hk => by
    subst hre
    obtain ⟨hpos, hlx, hrel, hat⟩ := hrow
    simp only [Rel] at hx
    rcases hx with ⟨k, m, c, hσ, hle, _, hA⟩ | ⟨hσ, _, h0, B, rfl⟩
    · have hv := hA (.inl trivial)
      simp only [Nat.zero_mul, Nat.sub_zero] at hv
      subst hv
      obtain ⟨hn, hmc, hmax, hcells, cur, hheap, hcs, htk⟩ := hat k m c hσ
      have hl := hlen k m c hσ (by omega)
      have hul : us.length = xs.length * sz := by rw [← hrel.length, flat_len hlx]
      have hm0 : len * sz ≤ xs.length * sz := Nat.mul_le_mul_right _ hl
      have hln : (xs.take len).length = len := by simp; omega
      obtain ⟨h1, h2, h3⟩ := hr.again (v' := .slice (some ⟨k, 0, none⟩) len c) (b := .row t sz (xs.take len)) hb hσ (fun j hj => by simpa [bn] using hj) (by
        simp only [BlkRel]
        refine ⟨hpos, fun x hx => hlx x (List.mem_of_mem_take hx), us.take (len * sz), ⟨by rw [hln]; simp; omega, .inr ⟨k, c, cur, by rw [hln], Nat.zero_le _, hheap, by omega, hmax, hcs, ?_⟩⟩, ?_⟩
        · rw [hln, ← htk, List.take_take, Nat.min_eq_left hm0]
        · rw [flat_take hlx]
          exact hrel.take _)
      refine ⟨_, _, _, hk, ?_, h1, h2, h3⟩
      simp only [Rel]
      exact .inl ⟨k, len, c, upd_same _ _, by omega, ⟨_, _, rfl, by omega⟩, fun _ => by simp⟩
    · subst h0
      obtain ⟨h1, h2, h3⟩ := hr.again (v' := .slice none 0 0) (b := .row t sz (xs.take 0)) hb hσ (fun j hj => by simp [bn] at hj) (by
        simp only [BlkRel, List.take_zero]
        exact ⟨hpos, by simp, [], ⟨by simp, .inl ⟨rfl, by simp⟩⟩, by simp [RelL]⟩)
      refine ⟨_, _, _, hk, ?_, h1, h2, h3⟩
      simp only [Rel]
      exact .inr ⟨upd_same _ _, trivial, trivial, B, rfl⟩
  have nilr : (∃ A, v = .slice A 0 0) → shutN sz t r H K → ∃ r' H' σ', K r' H' ∧ Rel hp σ' r' v ∧ HeapRel hp σ' H' W ∧ SgLe σ σ' ∧ ∀ n, Ev ⟨hp, σ, W, n⟩ hp σ' W := fun ⟨A, hv⟩ h => by
    cases sz with
    | zero => exact same h
    | succ k =>
      have hle := upd_le hr.dom (.slice none 0 0)
      refine ⟨_, _, upd σ H.length (.slice none 0 0), h, ?_, ?_, hle, fun n => Ev.step (Nat.le_refl _) rfl rfl rfl (fun _ _ _ => rfl) fun j hj => by simp [bn] at hj⟩
      · rw [hv]
        simp only [Rel]
        exact .inr ⟨upd_same _ _, trivial, trivial, A, rfl⟩
      · refine hr.step rfl (fun _ _ h => h) (Nat.le_refl _) (fun _ _ _ => rfl) (fun i c w j _ _ _ => ⟨rfl, by simp [bn]⟩) (fun j hj => by simp [bn] at hj) ?_
        simp only [BlkRel]
        exact ⟨by omega, by simp, [], ⟨by simp, .inl ⟨rfl, rfl⟩⟩, by simp [RelL]⟩
  unfold shutA at h
  split at h
  · rename_i id sz len
    unfold shutB at h
    split at h
    · rename_i t sz' xs hb
      obtain ⟨rfl, hk⟩ := h
      obtain ⟨us, hrow, hnn⟩ := rowish_row hr hb
      exact main rfl hb hrow (fun k n c h1 h2 => by have := hnn k n c h1; omega) hk
    · rename_i t sz' c0 xs hb
      obtain ⟨rfl, hle, hk⟩ := h
      obtain ⟨us, hrow, hnn⟩ := rowish_rowc hr hb
      exact main rfl hb hrow (fun _ _ _ _ _ => hle) hk
    · exact same h
  · simp only [Rel] at hx
    exact nilr ⟨none, hx⟩ h
  · simp only [Rel] at hx
    exact nilr hx h
  · exact same h
theorem shuts_sound {b : Option (TypeId × Nat)} {nb : Nat} {σ0 : Sg} {r : AV} {H : Hp} {v : Value} {K : AV → Hp → Prop} (h0 : ∀ id v, σ0 id = some v → id < nb) (hle : SgLe σ0 σ) (hx : Rel hp σ r v) (hr : HeapRel hp σ H W) (h : shutsA b nb K r H) :
    ∃ r' H' σ', K r' H' ∧ Rel hp σ' r' v ∧ HeapRel hp σ' H' W ∧ SgLe σ0 σ' ∧ ∀ E, Ev E hp σ W → Ev E hp σ' W := by
  unfold shutsA at h
  split at h
  · obtain ⟨r1, H1, σ1, h1, h2, h3, h4, h5⟩ := shutA_sound hx hr h
    unfold tidyA at h1
    simp only at h1
    obtain ⟨⟨r2, e2⟩, n2⟩ := reach_more (H := H1) (H1.length + 1) 0 (addAll H1 (rangeL nb) r1.ids2)
    obtain ⟨⟨r3, e3⟩, n3⟩ := addAll_more (H := H1) r1.ids2 (rangeL nb)
    have hnod : (rangeL nb).Nodup := by rw [rangeL_eq]; exact List.nodup_range
    refine ⟨_, _, _, h1, h2.ren2 (pickS_ok σ1 _), pick_heap0 h3 (n2 (n3 hnod)), fun id v hv => ?_, fun E hE => (hE.trans (h5 0)).pick⟩
    have hid := h0 id v hv
    unfold pickS
    rw [e2, e3, rangeL_eq, List.append_assoc, List.getElem?_append_left (by simpa using hid), List.getElem?_range hid]
    exact h4 _ _ (hle id v hv)
  · exact ⟨r, H, σ, h, hx, hr, hle, fun E hE => hE⟩
theorem frzL_rel {H : Hp} {ids : List Nat} (hr : HeapRel hp σ H W) : ∀ (shs : List (List (Option Nat))) (vs : List AV) (us : List Value), (∀ i ∈ idsL shs vs, i ∈ ids) → RelT hp σ vs us → RelT (frzHp hp σ H W ids) σ (frzL H shs vs) us
  | [], vs, us, hin, h => by
    unfold frzL
    unfold idsL at hin
    induction vs generalizing us with
    | nil => cases us <;> simp [RelT] at h ⊢
    | cons x vs ih =>
      cases us with
      | nil => simp [RelT] at h
      | cons u us =>
        simp only [RelT, List.map_cons] at h ⊢
        exact ⟨frz_val hr (fun i hi => hin i (by simp only [List.flatMap_cons, List.mem_append]; exact .inl hi)) h.1, ih us h.2 (fun i hi => hin i (by simp only [List.flatMap_cons, List.mem_append]; exact .inr hi))⟩
  | _ :: _, [], us, hin, h => by
    unfold frzL
    cases us <;> simp [RelT] at h ⊢
  | sh :: shs, v :: vs, us, hin, h => by
    cases us with
    | nil => simp [RelT] at h
    | cons u us =>
      simp only [RelT] at h
      cases sh with
      | nil =>
        simp only [frzL, RelT]
        exact ⟨Rel.mono (frz_le hr ids) (SgLe.refl σ) v u h.1, frzL_rel hr shs vs us (fun i hi => hin i (by simp only [idsL]; exact hi)) h.2⟩
      | cons a b =>
        simp only [frzL, RelT]
        exact ⟨frz_val hr (fun i hi => hin i (by simp only [idsL, List.mem_append]; exact .inl hi)) h.1, frzL_rel hr shs vs us (fun i hi => hin i (by simp only [idsL, List.mem_append]; exact .inr hi)) h.2⟩
theorem frzT_rel {shs : List (List (Option Nat))} {r : AV} {v : Value} {H : Hp} {ids : List Nat} (hr : HeapRel hp σ H W) (hin : ∀ i ∈ idsT shs r, i ∈ ids) (hx : Rel hp σ r v) : Rel (frzHp hp σ H W ids) σ (frzT H shs r) v := by
  cases r <;> try exact Rel.mono (frz_le hr ids) (SgLe.refl σ) _ v hx
  · rename_i id sz off len
    exact frz_row (x := .row id sz off len) hr hin hx
  · rename_i cs
    simp only [Rel, frzT] at hx ⊢
    obtain ⟨vs, h1, h2⟩ := hx
    exact ⟨vs, h1, frz_list hr cs vs hin h2⟩
  · rename_i vs
    simp only [Rel, frzT] at hx ⊢
    obtain ⟨us, h1, h2⟩ := hx
    exact ⟨us, h1, frzL_rel hr shs vs us hin h2⟩
theorem iceV_rel {shs : List (List (Option Nat))} {r : AV} {v : Value} (hx : Rel hp σ r v) : Rel hp σ (iceV shs r) v := by
  unfold iceV
  split
  · exact nilArg_rel hx
  · split
    · simp only [Rel] at hx ⊢
      obtain ⟨us, h1, h2⟩ := hx
      exact ⟨us, h1, nilArgs_rel h2⟩
    · exact hx
theorem ices_sound {b : Option (List (List (Option Nat)))} {nb : Nat} {σ0 : Sg} {r : AV} {H : Hp} {v : Value} {K : AV → Hp → Prop} (h0 : ∀ id v, σ0 id = some v → id < nb) (hle : SgLe σ0 σ) (hx : Rel hp σ r v) (hr : HeapRel hp σ H W) (h : icesA b nb K r H) :
    ∃ r' H' hp' σ', K r' H' ∧ Rel hp' σ' r' v ∧ HeapRel hp' σ' H' W ∧ SgLe σ0 σ' ∧ ∀ E, Ev E hp σ W → Ev E hp' σ' W := by
  unfold icesA at h
  split at h
  · exact ⟨r, H, hp, σ, h, hx, hr, hle, fun E hE => hE⟩
  · rename_i shs
    unfold tidyA at h
    simp only at h
    have h2 := iceV_rel (shs := shs) (frzT_rel (shs := shs) hr (fun i hi => hi) hx)
    have h3 := frz_heap hr (idsT shs r)
    generalize iceV shs (frzT H shs r) = r1 at h h2
    generalize hH1 : clr H (idsT shs r) = H1 at h h3
    obtain ⟨⟨r2, e2⟩, n2⟩ := reach_more (H := H1) (H1.length + 1) 0 (addAll H1 (rangeL nb) r1.ids2)
    obtain ⟨⟨r3, e3⟩, n3⟩ := addAll_more (H := H1) r1.ids2 (rangeL nb)
    have hnod : (rangeL nb).Nodup := by rw [rangeL_eq]; exact List.nodup_range
    refine ⟨_, _, frzHp hp σ H W (idsT shs r), _, h, h2.ren2 (pickS_ok σ _), pick_heap0 h3 (n2 (n3 hnod)), fun id v hv => ?_, fun E hE => ?_⟩
    · have hid := h0 id v hv
      unfold pickS
      rw [e2, e3, rangeL_eq, List.append_assoc, List.getElem?_append_left (by simpa using hid), List.getElem?_range hid]
      exact hle id v hv
    · exact (frz_ev (s := ⟨[], H⟩) hr hE).pick
/-- What is told by hand is so. -/
def PrimOK (C : Cfg) : Prop := ExtOK C ∧ ∀ g c, C.prim g = some c → ∀ args H K vs W hp σ, RelT hp σ args vs → HeapRel hp σ H W → c args H K →
  (∃ fn, C.P.funcs[g]? = some fn ∧ fn.body.isSome = true ∧ fn.name ≠ "runtime.NumGoroutine") ∧ Calls C.P g vs.toArray W fun e W' => ∃ v, e = .returned v ∧ After hp σ W K v W'
theorem wpF_sound (C : Cfg) (hprim : PrimOK C) : ∀ n, CallOK C (wpF C n)
  | 0 => ⟨hprim.1, fun g args H K vs W hp σ _ _ h => h.elim⟩
  | n + 1 => ⟨hprim.1, fun g args H K vs W hp σ0 ha hr h => by
    have ih := wpF_sound C hprim n
    unfold wpF at h
    split at h
    · rename_i c hpc
      exact hprim.2 g c hpc args H K vs W hp σ0 ha hr h
    unfold bodyA at h
    split at h
    · exact h.elim
    · rename_i fn hfn
      obtain ⟨hok, hlen, h⟩ := h
      split at h
      · exact h.elim
      · rename_i c hb
        obtain ⟨hH, h⟩ := h
        unfold okF at hok
        rw [hb] at hok
        simp only [Bool.and_eq_true, bne_iff_ne, ne_eq] at hok
        obtain ⟨⟨⟨hd, hw⟩, hmix⟩, hname⟩ := hok
        refine ⟨⟨fn, hfn, by rw [hb]; rfl, hname⟩, calls_of_wp hfn hb ?_⟩
        obtain ⟨args, H', σ, h, hlen', ha, hr', hle0, hev0⟩ := opens_sound (n := fn.ntmps) ha hr h
        rw [← hlen'] at hlen
        have hva := ha.length
        have hsize : (vs.toArray ++ Array.replicate (fn.ntmps - vs.toArray.size) undef).size = fn.ntmps := by simp; omega
        have hn : Now ⟨hp, σ0, W, fn.ntmps⟩ ⟨enterA 0 args, H'⟩ { tmps := vs.toArray ++ Array.replicate (fn.ntmps - vs.toArray.size) undef, defers := [] } W hp σ := by
          refine ⟨hr', fun m => ?_, hev0, rfl, hsize, hle0⟩
          have := enter_find (k := 0) ha m
          simp only [Nat.not_lt_zero, if_false, Nat.sub_zero] at this
          have he : (vs.toArray ++ Array.replicate (fn.ntmps - vs.toArray.size) undef).getD m undef = vs.getD m undef := by
            simp only [Array.getD_eq_getD_getElem?, List.getD_eq_getElem?_getD]
            rcases Nat.lt_or_ge m vs.length with h1 | h1
            · rw [Array.getElem?_append_left (by simpa using h1)]
              simp
            · rw [Array.getElem?_append_right (by simpa using h1), List.getElem?_eq_none h1]
              simp only [Array.getElem?_replicate, Option.getD_none]
              split <;> rfl
          rw [he]
          exact this
        refine code_sound ih hmix g (fun id v hv => hr.dom id v hv) c _ _ W hp σ _ _ hd hw hn h fun e s' a' W' hp' σ' hpl h1 h2 => ?_
        have fin : retA C.P fn s' (shutsA (C.shut g) H.length (icesA (C.ice g) H.length K)) → a'.defers = [] ∧ ∃ v, (results fn a'.tmps).run C.P W' = .ok v W' ∧ ∃ v', Ending.returned v = .returned v' ∧ After hp σ0 W K v' W' := fun h3 => by
          obtain ⟨v, r, h4, h5, h6⟩ := retA_sound h1 h3
          obtain ⟨r, H2, σ2, h5, h6, h7, h8, h9⟩ := shuts_sound (fun id v hv => hr.dom id v hv) h1.sg h6 h1.heap h5
          obtain ⟨r, H3, hp3, σ3, h5, h6, h7, h8, h10⟩ := ices_sound (fun id v hv => hr.dom id v hv) h8 h6 h7 h5
          refine ⟨h1.defers, v, h4, v, rfl, r, H3, hp3, σ3, h5, h7, ?_, h8, h6⟩
          have hev := h10 _ (h9 _ h1.ev)
          exact ⟨hev.size, hev.tape, hev.os, hev.out, hev.im, hev.keep, hev.imNew, hev.sgNew⟩
        cases e with
        | normal => exact fin h2
        | ret => exact fin h2
        | exit id => exact h2.elim
        | goto l => exact hpl.elim
        | panic ch => exact hpl.elim
        | outgrown => exact hpl.elim⟩
end
end Go.Ai

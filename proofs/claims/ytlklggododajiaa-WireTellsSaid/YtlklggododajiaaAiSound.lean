/- The abstract machine is sound: what it says of a call, the model's call does. -/
import Derived.Test.YtlklggododajiaaAiDraw
import Derived.Scope
set_option linter.unusedVariables false
set_option linter.unusedSimpArgs false
namespace Go.Ai
section
variable {C : Cfg} {call : Callee} {E : Ent} {s : St} {a : Act} {W W' : World} {hp hp' : Im} {σ σ' : Sg}
theorem rowZ_now {n : Nat} {t : TypeId} {sz : Nat} (h : Now E s a W hp σ) (hx : ∃ A, a.tmps.getD n undef = .slice A 0 0) : ∃ σ', Now E (rowZ n t sz s) a W hp σ' := by
  obtain ⟨A, hx⟩ := hx
  cases sz with
  | zero => exact ⟨σ, h⟩
  | succ k =>
    have hle := upd_le h.heap.dom (.slice none 0 0)
    refine ⟨upd σ s.H.length (.slice none 0 0), ?_, fun m => ?_, h.ev.trans (n := 0) (Ev.step (Nat.le_refl _) rfl rfl rfl (fun _ _ _ => rfl) fun j hj => by simp [bn] at hj), h.defers, h.nt, h.sg.trans hle⟩
    · refine h.heap.step rfl (fun _ _ h => h) (Nat.le_refl _) (fun _ _ _ => rfl) (fun i c w j _ _ _ => ⟨rfl, by simp [bn]⟩) (fun j hj => by simp [bn] at hj) ?_
      simp only [BlkRel]
      exact ⟨by omega, by simp, [], ⟨by simp, .inl ⟨rfl, rfl⟩⟩, by simp [RelL]⟩
    · show Rel hp _ (if n = m then .row s.H.length (k + 1) 0 0 else find m s.t) _
      split
      · rename_i hm
        subst hm
        rw [hx]
        simp only [Rel]
        exact .inr ⟨upd_same _ _, trivial, trivial, A, rfl⟩
      · exact Rel.mono (ImLe.refl _) hle _ _ (h.tmps m)
theorem rowify_now : ∀ {rs : List (Nat × TypeId × Nat)} {s : St} {σ : Sg}, Now E s a W hp σ → ∃ σ', Now E (rowify rs s) a W hp σ'
  | [], s, σ, h => ⟨σ, h⟩
  | (n, t, sz) :: r, s, σ, h => by
    unfold rowify
    have ht := h.tmps n
    split
    · rename_i e
      rw [e] at ht
      simp only [Rel] at ht
      obtain ⟨σ1, h1⟩ := rowZ_now (n := n) (t := t) (sz := sz) h ⟨none, ht⟩
      exact rowify_now h1
    · rename_i e
      rw [e] at ht
      simp only [Rel] at ht
      obtain ⟨σ1, h1⟩ := rowZ_now (n := n) (t := t) (sz := sz) h ht
      exact rowify_now h1
    · exact rowify_now h
theorem norm_now {N : Norm} (h0 : ∀ id v, E.σ id = some v → id < N.base) (h : Now E s a W hp σ) : ∃ σ', Now E (norm N s) a W hp σ' := by
  obtain ⟨σ1, h1⟩ := rowify_now (rs := N.rows) h
  exact h1.normTo h0
/-- The exits that code of ours takes. -/
def Plain : Exit → Prop
  | .normal => True
  | .exit _ => True
  | .ret => True
  | _ => False
open Classical in
theorem code_sound (hc : CallOK C call) (hmix : C.P.follows .mixedOrders = true) (f : FuncId) {nb : Nat} (h0 : ∀ id v, E.σ id = some v → id < nb) : ∀ (c : Code) (s : St) (a : Act) (W : World) (hp : Im) (σ : Sg) (Q : Exit → St → Prop) (R : Exit → Act → World → Prop),
    dstsOk E.nt c = true → drawsOk C f c = true → Now E s a W hp σ → wpA C f nb call c s Q →
    (∀ e s' a' W' hp' σ', Plain e → Now E s' a' W' hp' σ' → Q e s' → R e a' W') → c.wp C.P R a W
  | .skip, s, a, W, hp, σ, Q, R, _, _, hn, h, hR => wp_skip (hR _ _ _ _ _ _ trivial hn h)
  | .label l, s, a, W, hp, σ, Q, R, _, _, hn, h, hR => wp_label (hR _ _ _ _ _ _ trivial hn h)
  | .region id ops false, s, a, W, hp, σ, Q, R, hd, _, hn, h, hR => by
    refine wp_region_list (list_sound hc (fun s' a' W' hp' σ' h1 h2 => hR .normal s' a' W' hp' σ' trivial h1 h2) _ s a W hp σ (dsts_of hd) hn h)
  | .region id ops true, s, a, W, hp, σ, Q, R, hd, hw, hn, h, hR => draw_sound hc hmix (dsts_of hd) hw hn h fun s' a' W' hp' σ' h1 h2 => hR .normal s' a' W' hp' σ' trivial h1 h2
  | .seq x y, s, a, W, hp, σ, Q, R, hd, hw, hn, h, hR => by
    simp only [dstsOk, drawsOk, Bool.and_eq_true] at hd hw
    simp only [wpA] at h
    unfold CutSeq at h
    split at h
    · refine wp_seq (code_sound hc hmix f h0 x s a W hp σ _ _ hd.1 hw.1 hn h fun e s' a' W' hp' σ' hpl h1 h2 => ?_)
      cases e with
      | normal => exact code_sound hc hmix f h0 y s' a' W' hp' σ' Q R hd.2 hw.2 h1 h2 hR
      | exit id => exact hR _ _ _ _ _ _ trivial h1 h2
      | ret => exact hR _ _ _ _ _ _ trivial h1 h2
      | goto l => exact hpl.elim
      | panic ch => exact hpl.elim
      | outgrown => exact hpl.elim
    · rename_i N hN
      have hbase : N.base = nb := by
        unfold cutN at hN
        split at hN
        · simp at hN
        · simp only [Option.some.injEq] at hN
          rw [← hN]
          rfl
      obtain ⟨I, hI1, hI2⟩ := h
      refine wp_seq (code_sound hc hmix f h0 x s a W hp σ _ _ hd.1 hw.1 hn hI1 fun e s' a' W' hp' σ' hpl h1 h2 => ?_)
      cases e with
      | normal =>
        obtain ⟨σ2, hn2⟩ := norm_now (N := N) (by rw [hbase]; exact h0) h1
        exact code_sound hc hmix f h0 y _ a' W' hp' σ2 Q R hd.2 hw.2 hn2 (hI2 _ h2) hR
      | exit id => exact hR _ _ _ _ _ _ trivial h1 h2
      | ret => exact hR _ _ _ _ _ _ trivial h1 h2
      | goto l => exact hpl.elim
      | panic ch => exact hpl.elim
      | outgrown => exact hpl.elim
  | .cond c x y, s, a, W, hp, σ, Q, R, hd, hw, hn, h, hR => by
    simp only [dstsOk, drawsOk, Bool.and_eq_true] at hd hw
    have hcv := hn.get c
    simp only [wpA] at h
    split at h
    · rename_i b e
      rw [e] at hcv
      simp only [Rel] at hcv
      refine wp_cond hcv ?_
      cases b
      · exact code_sound hc hmix f h0 y s a W hp σ Q R hd.2 hw.2 hn (by simpa using h) hR
      · exact code_sound hc hmix f h0 x s a W hp σ Q R hd.1 hw.1 hn (by simpa using h) hR
    · exact h.elim
  | .block id x, s, a, W, hp, σ, Q, R, hd, hw, hn, h, hR => by
    refine wp_block (code_sound hc hmix f h0 x s a W hp σ _ _ hd hw hn h fun e s' a' W' hp' σ' hpl h1 h2 => ?_)
    cases e with
    | normal => exact hR _ _ _ _ _ _ trivial h1 h2
    | exit k =>
      simp only [blkK] at h2
      simp only [Exit.inBlock]
      split
      · rename_i hk
        rw [if_pos hk] at h2
        exact hR _ _ _ _ _ _ trivial h1 h2
      · rename_i hk
        rw [if_neg hk] at h2
        exact hR _ _ _ _ _ _ trivial h1 h2
    | ret => exact hR _ _ _ _ _ _ trivial h1 h2
    | goto l => exact hpl.elim
    | panic ch => exact hpl.elim
    | outgrown => exact hpl.elim
  | .loop x, s, a, W, hp, σ, Q, R, hd, hw, hn, h, hR => by
    obtain ⟨I, ⟨n0, hI0⟩, hstep⟩ := h
    obtain ⟨σ0, hn0⟩ := norm_now (N := withBase nb (C.norms f (firstRegion x))) h0 hn
    let J : Nat → Act → World → Prop := fun n a W => ∃ s hp σ, I n s ∧ Now E s a W hp σ
    have hex : ∀ {a W}, (∃ n, J n a W) → ∃ n, J n a W ∧ ∀ m, J m a W → n ≤ m := fun {a W} ⟨n, hn⟩ => by
      induction n using Nat.strongRecOn with
      | _ n ih =>
        by_cases hm : ∃ m, m < n ∧ J m a W
        · obtain ⟨m, h1, h2⟩ := hm
          exact ih m h1 h2
        · refine ⟨n, hn, fun m hJ => ?_⟩
          rcases Nat.lt_or_ge m n with h1 | h1
          · exact absurd ⟨m, h1, hJ⟩ hm
          · exact h1
    let μ : Act → World → Nat := fun a W => if h : ∃ n, J n a W then (hex h).choose else 0
    have hμ : ∀ {a W}, (∃ n, J n a W) → J (μ a W) a W ∧ ∀ m, J m a W → μ a W ≤ m := fun {a W} h => by
      show J (if h : ∃ n, J n a W then (hex h).choose else 0) a W ∧ ∀ m, J m a W → (if h : ∃ n, J n a W then (hex h).choose else 0) ≤ m
      rw [dif_pos h]
      exact (hex h).choose_spec
    refine wp_loop (fun a W => ∃ n, J n a W) μ ⟨n0, _, hp, σ0, hI0, hn0⟩ fun a1 W1 h1 => ?_
    obtain ⟨⟨s1, hp1, σ1, hI1, hn1⟩, _⟩ := hμ h1
    refine code_sound hc hmix f h0 x s1 a1 W1 hp1 σ1 _ _ hd hw hn1 (hstep _ _ hI1) fun e s' a' W' hp' σ' hpl h2 h3 => ?_
    cases e with
    | normal =>
      obtain ⟨n', hlt, hI'⟩ := h3
      obtain ⟨σ2, h4⟩ := norm_now (N := withBase nb (C.norms f (firstRegion x))) h0 h2
      have hJ : J n' a' W' := ⟨_, hp', σ2, hI', h4⟩
      exact ⟨⟨n', hJ⟩, Nat.lt_of_le_of_lt ((hμ ⟨n', hJ⟩).2 n' hJ) hlt⟩
    | exit id =>
      obtain ⟨σ2, h4⟩ := h2.normTo (keep := (C.norms f (firstRegion x)).out) h0
      exact hR _ _ _ _ _ _ trivial h4 h3
    | ret =>
      obtain ⟨σ2, h4⟩ := h2.normTo (keep := (C.norms f (firstRegion x)).out) h0
      exact hR _ _ _ _ _ _ trivial h4 h3
    | goto l => exact hpl.elim
    | panic ch => exact hpl.elim
    | outgrown => exact hpl.elim
  | .exit id, s, a, W, hp, σ, Q, R, _, _, hn, h, hR => wp_exit (hR _ _ _ _ _ _ trivial hn h)
  | .scope x, s, a, W, hp, σ, Q, R, hd, hw, hn, h, hR => by
    refine wp_scope_straight (code_sound hc hmix f h0 x s a W hp σ _ _ hd hw hn h fun e s' a' W' hp' σ' hpl h1 h2 => ?_)
    cases e with
    | normal => exact hR _ _ _ _ _ _ trivial h1 h2
    | exit k => exact hR _ _ _ _ _ _ trivial h1 h2
    | ret => exact hR _ _ _ _ _ _ trivial h1 h2
    | goto l => exact hpl.elim
    | panic ch => exact hpl.elim
    | outgrown => exact hpl.elim
  | .ret, s, a, W, hp, σ, Q, R, _, _, hn, h, hR => wp_ret (hR _ _ _ _ _ _ trivial hn h)
  | .rangeFunc .., _, _, _, _, _, _, _, _, _, _, h, _ => h.elim
  | .goto _, _, _, _, _, _, _, _, _, _, _, h, _ => h.elim
  | .refuse _, _, _, _, _, _, _, _, _, _, _, h, _ => h.elim
/-! ### A call -/
def resG (tmps : Array Value) : ResultVar → Sem Value
  | .tmp t => pure (tmps.getD t undef)
  | .cell b t => do loadVar t (← asAddr (tmps.getD b undef))
theorem results_eq (fn : Func) (tmps : Array Value) : results fn tmps = (do let vs ← fn.results.mapM (resG tmps); pure (if h : vs.size = 1 then vs[0] else .tuple vs)) := by
  unfold results
  congr 1
theorem resA_sound {P : Program} (hn : Now E s a W hp σ) : ∀ {rs : List ResultVar} {l : List AV}, resA P s rs = some l → ∃ vs : List Value, (rs.mapM (resG a.tmps)).run P W = .ok vs W ∧ RelT hp σ l vs
  | [], l, h => by
    simp [resA] at h
    subst h
    exact ⟨[], by simp, by simp [RelT]⟩
  | .tmp t :: r, l, h => by
    simp only [resA] at h
    obtain ⟨l', h1, rfl⟩ := Option.map_eq_some_iff.1 h
    obtain ⟨vs, h2, h3⟩ := resA_sound hn h1
    refine ⟨a.tmps.getD t undef :: vs, ?_, by simp only [RelT]; exact ⟨hn.tmps t, h3⟩⟩
    simp [List.mapM_cons, h2, resG]
  | .cell b t :: r, l, h => by
    simp only [resA] at h
    have hb := hn.tmps b
    split at h
    · rename_i id f e
      split at h
      · rename_i ty cs hbl
        obtain ⟨x, hx, h⟩ := Option.bind_eq_some_iff.1 h
        obtain ⟨l', h1, rfl⟩ := Option.map_eq_some_iff.1 h
        obtain ⟨vs, h2, h3⟩ := resA_sound hn h1
        rw [e] at hb
        obtain ⟨v, r', hv, rfl, hrel⟩ := loadA_sound (P := P) (t := t) (K := fun r _ => r = x) hn.heap hb (by
          unfold loadA
          simp only [hbl, hx, optA])
        simp only [Rel] at hb
        obtain ⟨k, _, hb⟩ := hb
        refine ⟨v :: vs, ?_, by simp only [RelT]; exact ⟨hrel, h3⟩⟩
        have := hv W (Grow.refl W)
        rw [hb] at this
        simp only [Instr.loadAt, Instr.sureAddr, Sem.run_bind, Sem.run_pure, Result.andThen_ok] at this
        simp only [List.mapM_cons, resG, Sem.run_bind, hb, asAddr, Sem.run_pure, Result.andThen_ok, this, h2]
      · simp at h
    · simp at h
theorem retA_sound {P : Program} {fn : Func} {K : AV → Hp → Prop} (hn : Now E s a W hp σ) (h : retA P fn s K) : ∃ v r, (results fn a.tmps).run P W = .ok v W ∧ K r s.H ∧ Rel hp σ r v := by
  unfold retA at h
  have run : ∀ {l : List AV}, resA P s fn.results.toList = some l → ∃ vs : List Value, (results fn a.tmps).run P W = .ok (if h : vs.toArray.size = 1 then vs.toArray[0] else .tuple vs.toArray) W ∧ RelT hp σ l vs := fun {l} hl => by
    obtain ⟨vs, h1, h2⟩ := resA_sound hn hl
    refine ⟨vs, ?_, h2⟩
    rw [results_eq, Sem.run_bind, Array.mapM_eq_mapM_toList]
    simp [h1]
  split at h
  · rename_i x hx
    obtain ⟨vs, h1, h2⟩ := run hx
    match vs, h1, h2 with
    | [v], h1, h2 =>
      simp only [RelT] at h2
      exact ⟨v, x, by simpa using h1, h, h2.1⟩
    | [], _, h2 => simp [RelT] at h2
    | _ :: _ :: _, _, h2 => simp [RelT] at h2
  · rename_i l hne hl
    obtain ⟨vs, h1, h2⟩ := run hl
    have hlen := h2.length
    have h3 : vs.toArray.size ≠ 1 := fun hc => by
      rw [List.size_toArray] at hc
      rw [hc] at hlen
      match l, hne, hlen with
      | [x], hne, _ => exact hne x rfl
      | [], _, hlen => simp at hlen
      | _ :: _ :: _, _, hlen => simp at hlen
    rw [dif_neg h3] at h1
    exact ⟨_, _, h1, h, by simp only [Rel]; exact ⟨vs, rfl, h2⟩⟩
  · exact h.elim
theorem enter_find {hp : Im} {σ : Sg} : ∀ {args : List AV} {vs : List Value} {k : Nat}, RelT hp σ args vs → ∀ n, Rel hp σ (find n (enterA k args)) (if n < k then undef else vs.getD (n - k) undef)
  | [], vs, k, h, n => by simp [enterA, find, Rel]
  | x :: args, [], k, h, n => by simp [RelT] at h
  | x :: args, v :: vs, k, h, n => by
    simp only [RelT] at h
    simp only [enterA, find]
    split
    · rename_i hk
      subst hk
      simpa using h.1
    · rename_i hk
      have := enter_find (k := k + 1) h.2 n
      rcases Nat.lt_or_ge n k with h1 | h1
      · rw [if_pos h1]
        rw [if_pos (by omega)] at this
        exact this
      · rw [if_neg (by omega)]
        rw [if_neg (by omega)] at this
        have he : n - k = (n - (k + 1)) + 1 := by omega
        rw [he, List.getD_cons_succ]
        exact this
/-- What is told by hand is so. -/
def PrimOK (C : Cfg) : Prop := ∀ g c, C.prim g = some c → ∀ args H K vs W hp σ, RelT hp σ args vs → HeapRel hp σ H W → c args H K →
  (∃ fn, C.P.funcs[g]? = some fn ∧ fn.body.isSome = true ∧ fn.name ≠ "runtime.NumGoroutine") ∧ Calls C.P g vs.toArray W fun e W' => ∃ v, e = .returned v ∧ After hp σ W K v W'
theorem wpF_sound (C : Cfg) (hprim : PrimOK C) : ∀ n, CallOK C (wpF C n)
  | 0 => fun g args H K vs W hp σ _ _ h => h.elim
  | n + 1 => fun g args H K vs W hp σ ha hr h => by
    have ih := wpF_sound C hprim n
    unfold wpF at h
    split at h
    · rename_i c hpc
      exact hprim g c hpc args H K vs W hp σ ha hr h
    unfold bodyA at h
    split at h
    · exact h.elim
    · rename_i fn hfn
      obtain ⟨hok, hlen, h⟩ := h
      split at h
      · exact h.elim
      · rename_i c hb
        obtain ⟨hH, h⟩ := h
        unfold okF at hok
        rw [hb] at hok
        simp only [Bool.and_eq_true, bne_iff_ne, ne_eq] at hok
        obtain ⟨⟨⟨hd, hw⟩, hmix⟩, hname⟩ := hok
        refine ⟨⟨fn, hfn, by rw [hb]; rfl, hname⟩, calls_of_wp hfn hb ?_⟩
        have hva := ha.length
        have hsize : (vs.toArray ++ Array.replicate (fn.ntmps - vs.toArray.size) undef).size = fn.ntmps := by simp; omega
        have hn : Now ⟨hp, σ, W, fn.ntmps⟩ ⟨enterA 0 args, H⟩ { tmps := vs.toArray ++ Array.replicate (fn.ntmps - vs.toArray.size) undef, defers := [] } W hp σ := by
          refine ⟨hr, fun m => ?_, Ev.refl _ _ _ _, rfl, hsize, SgLe.refl _⟩
          have := enter_find (k := 0) ha m
          simp only [Nat.not_lt_zero, if_false, Nat.sub_zero] at this
          have he : (vs.toArray ++ Array.replicate (fn.ntmps - vs.toArray.size) undef).getD m undef = vs.getD m undef := by
            simp only [Array.getD_eq_getD_getElem?, List.getD_eq_getElem?_getD]
            rcases Nat.lt_or_ge m vs.length with h1 | h1
            · rw [Array.getElem?_append_left (by simpa using h1)]
              simp
            · rw [Array.getElem?_append_right (by simpa using h1), List.getElem?_eq_none h1]
              simp only [Array.getElem?_replicate, Option.getD_none]
              split <;> rfl
          rw [he]
          exact this
        refine code_sound ih hmix g (fun id v hv => hr.dom id v hv) c _ _ W hp σ _ _ hd hw hn h fun e s' a' W' hp' σ' hpl h1 h2 => ?_
        have fin : retA C.P fn s' K → a'.defers = [] ∧ ∃ v, (results fn a'.tmps).run C.P W' = .ok v W' ∧ ∃ v', Ending.returned v = .returned v' ∧ After hp σ W K v' W' := fun h3 => by
          obtain ⟨v, r, h4, h5, h6⟩ := retA_sound h1 h3
          refine ⟨h1.defers, v, h4, v, rfl, r, s'.H, hp', σ', h5, h1.heap, ?_, h1.sg, h6⟩
          have hev := h1.ev
          exact ⟨hev.size, hev.tape, hev.os, hev.out, hev.im, hev.keep, hev.imNew, hev.sgNew⟩
        cases e with
        | normal => exact fin h2
        | ret => exact fin h2
        | exit id => exact h2.elim
        | goto l => exact hpl.elim
        | panic ch => exact hpl.elim
        | outgrown => exact hpl.elim
end
end Go.Ai

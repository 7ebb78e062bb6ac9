/- Operations that change memory. -/
import Derived.Test.YtmebpmghmghhkaaAiF1
set_option linter.unusedVariables false
set_option linter.unusedSimpArgs false
namespace Go.Ai
def upd (σ : Sg) (n : Nat) (v : Value) : Sg := fun i => if i = n then some v else σ i
theorem blk_lt {H : Hp} {i : Nat} {b : Blk} (h : blk H i = some b) : i < H.length := by
  unfold blk at h
  rcases Nat.lt_or_ge i H.length with h' | h'
  · exact h'
  · rw [List.getElem?_eq_none h'] at h
    simp at h
theorem blk_last (H : Hp) (b : Option Blk) : blk (H ++ [b]) H.length = b := by
  simp [blk]
theorem blk_old {H : Hp} {i : Nat} (b : Option Blk) (h : i < H.length) : blk (H ++ [b]) i = blk H i := by
  unfold blk
  rw [List.getElem?_append_left h]
theorem blk_far {H : Hp} {i : Nat} (h : H.length ≤ i) : blk H i = none := by
  unfold blk
  rw [List.getElem?_eq_none h]
  rfl
theorem blk_set_other {H : Hp} {i id : Nat} (b : Option Blk) (h : i ≠ id) : blk (H.set id b) i = blk H i := by
  unfold blk
  rw [List.getElem?_set_ne (Ne.symm h)]
theorem blk_set_same {H : Hp} {id : Nat} (b : Option Blk) (h : id < H.length) : blk (H.set id b) id = b := by
  unfold blk
  rw [List.getElem?_set_self h]
  rfl
section
variable {P : Program} {hp hp' : Im} {σ σ' : Sg} {H : Hp} {W W' : World}
theorem upd_le {n : Nat} (hd : ∀ id v, σ id = some v → id < n) (v : Value) : SgLe σ (upd σ n v) := fun i w h => by
  unfold upd
  rw [if_neg (by have := hd i w h; omega)]
  exact h
theorem upd_same (n : Nat) (v : Value) : upd σ n v n = some v := by simp [upd]
theorem upd_out {n i : Nat} {v w : Value} (h : upd σ n v i = some w) : (i = n ∧ w = v) ∨ σ i = some w := by
  unfold upd at h
  split at h
  · rename_i hi
    simp at h
    exact .inl ⟨hi, h.symm⟩
  · exact .inr h
theorem BlkRel.keep {b : Blk} {v : Value} (h : BlkRel hp σ W b v) (him : ImLe hp hp') (hs : SgLe σ σ') (hk : ∀ k, bn v = some k → W'.heap[k]? = W.heap[k]?) : BlkRel hp' σ' W' b v := by
  cases b with
  | var t cs =>
    simp only [BlkRel] at h ⊢
    obtain ⟨k, us, rfl, h1, h2⟩ := h
    exact ⟨k, us, rfl, by rw [hk k rfl]; exact h1, RelL.mono him hs cs us h2⟩
  | row t sz xs =>
    simp only [BlkRel] at h ⊢
    obtain ⟨h1, h2, us, ⟨h3, h4⟩, h5⟩ := h
    refine ⟨h1, h2, us, ⟨h3, ?_⟩, RelL.mono him (SgLe.refl _) _ us h5⟩
    rcases h4 with h4 | ⟨g, cap, cur, rfl, hb, hg, rest⟩
    · exact .inl h4
    · exact .inr ⟨g, cap, cur, rfl, hb, by rw [hk g rfl]; exact hg, rest⟩
  | rowc t sz c xs =>
    simp only [BlkRel] at h ⊢
    obtain ⟨h1, h2, us, h3, h4⟩ := h
    refine ⟨h1, h2, us, RelL.mono him (SgLe.refl _) _ us h3, ?_⟩
    rcases h4 with h4 | ⟨k, cur, rfl, h5, h6, h7, h8⟩
    · exact .inl h4
    · exact .inr ⟨k, cur, rfl, h5, h6, by rw [hk k rfl]; exact h7, h8⟩
  | map t es =>
    simp only [BlkRel] at h ⊢
    obtain ⟨r, ms, clock, rfl, h1, h2, vs, h3, h4⟩ := h
    exact ⟨r, ms, clock, rfl, by rw [hk r rfl]; exact h1, h2, vs, RelT.mono him hs _ _ h3, h4⟩
/-- One new block more, and perhaps an old one gone. -/
theorem HeapRel.step {H0 : Hp} {b : Blk} {v : Value} (hr : HeapRel hp σ H W) (hlen : H0.length = H.length) (hsub : ∀ i b, blk H0 i = some b → blk H i = some b) (hsize : W.heap.size ≤ W'.heap.size)
    (him : ∀ (j : Nat) o, hp j = some o → W'.heap[j]? = W.heap[j]?) (hoth : ∀ (i : Nat) c w j, blk H0 i = some c → σ i = some w → bn w = some j → W'.heap[j]? = W.heap[j]? ∧ bn v ≠ some j)
    (hnew : ∀ k, bn v = some k → k < W'.heap.size ∧ hp k = none) (hb : BlkRel hp (upd σ H.length v) W' b v) : HeapRel hp (upd σ H.length v) (H0 ++ [some b]) W' := by
  have hle := upd_le hr.dom v
  constructor
  · intro k o hk
    rw [him k o hk]
    exact hr.im k o hk
  · intro id c hc
    rcases Nat.lt_trichotomy id H0.length with h | h | h
    · rw [blk_old _ h] at hc
      obtain ⟨w, h1, h2, h3⟩ := hr.own id c (hsub _ _ hc)
      exact ⟨w, hle _ _ h1, h2.keep (ImLe.refl _) hle fun k hk => (hoth id c w k hc h1 hk).1, h3⟩
    · subst h
      rw [blk_last] at hc
      simp only [Option.some.injEq] at hc
      subst hc
      exact ⟨v, by rw [hlen]; exact upd_same _ _, hb, fun k hk => (hnew k hk).2⟩
    · rw [blk_far (by simp; omega)] at hc
      simp at hc
  · intro i j c d x y k hi hj hx hy hkx hky
    have main : ∀ i j c d x y, blk (H0 ++ [some b]) i = some c → blk (H0 ++ [some b]) j = some d → upd σ H.length v i = some x → upd σ H.length v j = some y → bn x = some k → bn y = some k → i < H0.length → i = j := by
      intro i j c d x y hi hj hx hy hkx hky hlt
      rw [blk_old _ hlt] at hi
      have hx' : σ i = some x := by
        rcases upd_out hx with ⟨h, _⟩ | h
        · omega
        · exact h
      rcases Nat.lt_or_ge j H0.length with hj' | hj'
      · rw [blk_old _ hj'] at hj
        have hy' : σ j = some y := by
          rcases upd_out hy with ⟨h, _⟩ | h
          · omega
          · exact h
        exact hr.apart i j c d x y k (hsub _ _ hi) (hsub _ _ hj) hx' hy' hkx hky
      · have hj2 : j = H0.length := by
          have := blk_lt hj
          simp at this
          omega
        subst hj2
        rw [hlen, upd_same] at hy
        simp only [Option.some.injEq] at hy
        subst hy
        exact absurd hky (hoth i c x k hi hx' hkx).2
    have hbi := blk_lt hi
    have hbj := blk_lt hj
    simp at hbi hbj
    rcases Nat.lt_or_ge i H0.length with h | h
    · exact main i j c d x y hi hj hx hy hkx hky h
    · rcases Nat.lt_or_ge j H0.length with h' | h'
      · exact (main j i d c y x hj hi hy hx hky hkx h').symm
      · omega
  · intro id w hw
    rcases upd_out hw with ⟨h, _⟩ | h
    · simp; omega
    · have := hr.dom id w h
      simp
      omega
  · intro id w k hw hk
    rcases upd_out hw with ⟨_, rfl⟩ | h
    · exact (hnew k hk).1
    · have := hr.lt id w k h hk
      omega
theorem Ev.refl (hp : Im) (σ : Sg) (W : World) (n : Nat) : Ev ⟨hp, σ, W, n⟩ hp σ W :=
  ⟨Nat.le_refl _, rfl, rfl, rfl, ImLe.refl _, fun _ _ _ => rfl, fun _ _ h => .inl h, fun id v k h1 h2 => .inr ⟨id, v, h1, h2⟩⟩
theorem Ev.trans {E : Ent} {n : Nat} (h : Ev E hp σ W) (h' : Ev ⟨hp, σ, W, n⟩ hp' σ' W') : Ev E hp' σ' W' := by
  have hown : ∀ k, (⟨hp, σ, W, n⟩ : Ent).owns k → E.W.heap.size ≤ k ∨ E.owns k := fun k ⟨id, v, h1, h2⟩ => h.sgNew id v k h1 h2
  constructor
  · exact Nat.le_trans h.size h'.size
  · exact h'.tape.trans h.tape
  · exact h'.os.trans h.os
  · exact h'.out.trans h.out
  · exact h.im.trans h'.im
  · intro k hk ho
    have hk2 := Nat.lt_of_lt_of_le hk h.size
    rw [h'.keep k hk2 (fun hc => by rcases hown k hc with h1 | h1; · omega
                                    · exact ho h1)]
    exact h.keep k hk ho
  · intro k o hk
    rcases h'.imNew k o hk with h1 | h1 | h1
    · exact h.imNew k o h1
    · exact .inr (.inl (Nat.le_trans h.size h1))
    · exact .inr (hown k h1)
  · intro id v k h1 h2
    rcases h'.sgNew id v k h1 h2 with h3 | h3
    · exact .inl (Nat.le_trans h.size h3)
    · exact hown k h3
theorem Ev.step {n m : Nat} {v : Value} (hsize : W.heap.size ≤ W'.heap.size) (ht : W'.tape = W.tape) (ho : W'.os = W.os) (hout : W'.output = W.output)
    (hkeep : ∀ k, k < W.heap.size → ¬ (∃ id w, σ id = some w ∧ bn w = some k) → W'.heap[k]? = W.heap[k]?) (hnew : ∀ k, bn v = some k → W.heap.size ≤ k ∨ ∃ id w, σ id = some w ∧ bn w = some k) : Ev ⟨hp, σ, W, n⟩ hp (upd σ m v) W' := by
  refine ⟨hsize, ht, ho, hout, ImLe.refl _, hkeep, fun _ _ h => .inl h, fun id w k h1 h2 => ?_⟩
  rcases upd_out h1 with ⟨_, rfl⟩ | h
  · exact hnew k h2
  · exact .inr ⟨id, w, h, h2⟩

/-- What an operation comes to. -/
def Does (hp : Im) (σ : Sg) (W : World) (s : St) (g : Bool) (x : Result Next) (K : AV → St → Prop) : Prop :=
  ∃ v W' r s' hp' σ', (x = .ok (.value v) W' ∨ (x = .ok .skip W' ∧ v = undef)) ∧ K r s' ∧ s'.t = s.t ∧ HeapRel hp' σ' s'.H W' ∧ Ev ⟨hp, σ, W, 0⟩ hp' σ' W' ∧ SgLe σ σ' ∧ Rel hp' σ' r v ∧ (g = true → Grow W W')
theorem alloc_old (W : World) (o : Obj) (k : Nat) (h : k < W.heap.size) : (W.alloc o).heap[k]? = W.heap[k]? := by
  show (W.heap.push o)[k]? = _
  rw [Array.getElem?_push_lt h, Array.getElem?_eq_getElem h]
theorem alloc_new (W : World) (o : Obj) : (W.alloc o).heap[W.heap.size]? = some o := by
  show (W.heap.push o)[W.heap.size]? = _
  simp
theorem grow_alloc (W : World) (o : Obj) : Grow W (W.alloc o) := fun k o' h => by
  rw [alloc_old W o k (Array.getElem?_eq_some_iff.1 h).1]
  exact h
/-- A new block of cells. -/
theorem new_does {s : St} {g : Bool} {o : Obj} {b : Blk} {v : Value} {r : AV} {x : Result Next} {K : AV → St → Prop} (hr : HeapRel hp σ s.H W) (hv : bn v = none ∨ bn v = some W.heap.size)
    (hb : BlkRel hp (upd σ s.H.length v) (W.alloc o) b v) (hrel : Rel hp (upd σ s.H.length v) r v) (hx : x = .ok (.value v) (W.alloc o)) (h : K r ⟨s.t, s.H ++ [some b]⟩) : Does hp σ W s g x K := by
  have hnone : hp W.heap.size = none := by
    cases hh : hp W.heap.size with
    | none => rfl
    | some o =>
      have := (Array.getElem?_eq_some_iff.1 (hr.im _ _ hh)).1
      omega
  refine ⟨v, _, r, _, hp, _, .inl hx, h, rfl, ?_, ?_, upd_le hr.dom v, hrel, fun _ => grow_alloc W o⟩
  · refine hr.step rfl (fun _ _ h => h) (by simp) (fun j o' hj => alloc_old W o j (Array.getElem?_eq_some_iff.1 (hr.im _ _ hj)).1) (fun i c w j hc hw hj => ?_) (fun k hk => ?_) hb
    · have hlt := hr.lt i w j hw hj
      refine ⟨alloc_old W o j hlt, fun hc' => ?_⟩
      rcases hv with h1 | h1 <;> rw [h1] at hc' <;> simp at hc'
      omega
    · rcases hv with h1 | h1 <;> rw [h1] at hk <;> simp at hk
      subst hk
      exact ⟨by simp, hnone⟩
  · refine Ev.step (by simp) rfl rfl rfl (fun k hk _ => alloc_old W o k hk) (fun k hk => ?_)
    rcases hv with h1 | h1 <;> rw [h1] at hk <;> simp at hk
    exact .inl (by omega)
theorem newVar_does {s : St} {g : Bool} {e : TypeId} {cs : List AV} {us : List Value} {x : Result Next} {K : AV → St → Prop} (hr : HeapRel hp σ s.H W) (hrel : RelL hp σ cs us)
    (hx : x = .ok (.value (.pointer (some ⟨W.heap.size, 0, none⟩))) (W.alloc (.cells us.toArray e))) (h : K (.ptr s.H.length 0) ⟨s.t, s.H ++ [some (.var e cs)]⟩) : Does hp σ W s g x K := by
  refine new_does hr (.inr rfl) ?_ ?_ hx h
  · simp only [BlkRel]
    exact ⟨_, us, rfl, alloc_new W _, RelL.mono (ImLe.refl _) (upd_le hr.dom _) _ _ hrel⟩
  · simp only [Rel]
    exact ⟨_, upd_same _ _, rfl⟩
theorem alloc_sound {s : St} {g : Bool} {e : TypeId} {K : AV → St → Prop} (hr : HeapRel hp σ s.H W) (h : newVarA e (zeroC P e) s K) : Does hp σ W s g ((do pure (Next.value (← Instr.alloc e true (.tuple #[]))) : Sem Next).run P W) K := by
  unfold newVarA at h
  split at h
  · rename_i cs hz
    obtain ⟨i, z, us, hi, hzz, hc, rfl, hrel⟩ := zero_of hz
    refine newVar_does hr (hrel hp σ) ?_ h
    simp [Instr.alloc, zeroValue, typeInfo, hi, hzz, newVar, newRow, hc]
  · exact h.elim
theorem box_sound {s : St} {g : Bool} {e : TypeId} {x : AV} {u : Value} {K : AV → St → Prop} (hr : HeapRel hp σ s.H W) (hx : Rel hp σ x u) (h : newVarA e (cellsOf x) s K) : Does hp σ W s g ((do pure (Next.value (← Instr.box e u)) : Sem Next).run P W) K := by
  unfold newVarA at h
  split at h
  · rename_i cs hz
    obtain ⟨us, hc, hrel⟩ := rel_cells hx hz
    refine newVar_does hr hrel ?_ h
    simp [Instr.box, newVar, newRow, hc]
  · exact h.elim

/-! ### Writing -/
theorem HeapRel.write {id : Nat} {b0 b : Blk} {v : Value} {k : Nat} (hr : HeapRel hp σ H W) (hb0 : blk H id = some b0) (hσ : σ id = some v) (hv : bn v = some k) (hsize : W'.heap.size = W.heap.size)
    (hoth : ∀ j, j ≠ k → W'.heap[j]? = W.heap[j]?) (hb : BlkRel hp σ W' b v) : HeapRel hp σ (H.set id (some b)) W' := by
  have hlt := blk_lt hb0
  obtain ⟨v', h1, _, h3⟩ := hr.own id b0 hb0
  rw [hσ] at h1
  simp only [Option.some.injEq] at h1
  subst h1
  have hk := h3 k hv
  have hne : ∀ i c w j, i ≠ id → blk H i = some c → σ i = some w → bn w = some j → j ≠ k := fun i c w j hi hc hw hj he => by
    subst he
    exact hi (hr.apart i id c b0 w v j hc hb0 hw hσ hj hv)
  constructor
  · intro j o hj
    rw [hoth j (fun he => by subst he; rw [hk] at hj; simp at hj)]
    exact hr.im j o hj
  · intro i c hc
    by_cases hi : i = id
    · subst hi
      rw [blk_set_same _ hlt] at hc
      simp only [Option.some.injEq] at hc
      subst hc
      exact ⟨v, hσ, hb, h3⟩
    · rw [blk_set_other _ hi] at hc
      obtain ⟨w, h4, h5, h6⟩ := hr.own i c hc
      exact ⟨w, h4, h5.keep (ImLe.refl _) (SgLe.refl _) fun j hj => hoth j (hne i c w j hi hc h4 hj), h6⟩
  · intro i j c d x y m hi hj hx hy hmx hmy
    have old : ∀ i c, blk (H.set id (some b)) i = some c → ∃ c', blk H i = some c' := fun i c h => by
      by_cases hi : i = id
      · subst hi; exact ⟨_, hb0⟩
      · rw [blk_set_other _ hi] at h; exact ⟨_, h⟩
    obtain ⟨c', hc'⟩ := old i c hi
    obtain ⟨d', hd'⟩ := old j d hj
    exact hr.apart i j c' d' x y m hc' hd' hx hy hmx hmy
  · intro i w hw
    simpa using hr.dom i w hw
  · intro i w j hw hj
    rw [hsize]
    exact hr.lt i w j hw hj
theorem Ev.write {n id : Nat} {v : Value} {k : Nat} (hσ : σ id = some v) (hv : bn v = some k) (hsize : W'.heap.size = W.heap.size) (ht : W'.tape = W.tape) (ho : W'.os = W.os) (hout : W'.output = W.output)
    (hoth : ∀ j, j ≠ k → W'.heap[j]? = W.heap[j]?) : Ev ⟨hp, σ, W, n⟩ hp σ W' :=
  ⟨by show W.heap.size ≤ W'.heap.size; omega, ht, ho, hout, ImLe.refl _, fun j _ hj => hoth j (fun he => hj ⟨id, v, hσ, by rw [he]; exact hv⟩), fun _ _ h => .inl h, fun i w j h1 h2 => .inr ⟨i, w, h1, h2⟩⟩
theorem run_storeVar {t : TypeId} {k o : Nat} {e : TypeId} {w : Value} {ws : List Value} {cur : Array Value} (hw : w.cells = ws.toArray) (hs : szO P t = some ws.length) (hcur : W.heap[k]? = some (.cells cur e (0, 0))) (hfit : o + ws.length ≤ cur.size)
    (h1 : ∀ v ∈ ws, v.oneCell' = true) : (do Instr.storeAt t (.pointer (some ⟨k, o, none⟩)) w; pure Next.skip : Sem Next).run P W = .ok .skip (W.setRow k (cur.toList.take o ++ ws ++ cur.toList.drop (o + ws.length)).toArray) := by
  have h := run_storeCells_at P k o e ws 0 cur W hcur (by omega) h1
  simp only [Nat.add_zero] at h
  simp [Instr.storeAt, Instr.sureAddr, storeVar, run_sizeOf hs, hw, h]
theorem rel_closed {c : AV} {u : Value} (hc : closed0 c = true) (hr : Rel hp σ c u) : Rel hp σ' c u := by
  cases c with
  | v x => simpa [Rel] using hr
  | nl => simpa [Rel] using hr
  | lst sz xs => simpa [Rel] using hr
  | eptr cs => simpa [Rel] using hr
  | _ => simp [closed0] at hc
theorem relT_closed : ∀ {cs : List AV} {us : List Value}, cs.all closed0 = true → RelT hp σ cs us → RelT hp σ' cs us
  | [], [], _, _ => by simp [RelT]
  | c :: cs, u :: us, h, hr => by
    simp only [List.all_cons, Bool.and_eq_true] at h
    simp only [RelT] at hr ⊢
    exact ⟨rel_closed h.1 hr.1, relT_closed h.2 hr.2⟩
  | [], _ :: _, _, h => by simp [RelT] at h
  | _ :: _, [], _, h => by simp [RelT] at h
theorem relL_closed : ∀ {cs : List AV} {us : List Value}, cs.all closed0 = true → RelL hp σ cs us → RelL hp σ' cs us
  | [], [], _, _ => by simp [RelL]
  | c :: cs, u :: us, h, hr => by
    simp only [List.all_cons, Bool.and_eq_true] at h
    simp only [RelL] at hr ⊢
    exact ⟨⟨rel_closed h.1 hr.1.1, hr.1.2⟩, relL_closed h.2 hr.2⟩
  | [], _ :: _, _, h => by simp [RelL] at h
  | _ :: _, [], _, h => by simp [RelL] at h
theorem normC_sound {sh : Sh} {c c' : AV} {u : Value} (h : normC sh c = some c') (hr : Rel hp σ c u) : Rel hp sg0 c' u := by
  unfold normC at h
  split at h
  · simp only [Option.some.injEq] at h
    subst h
    simp only [Rel] at hr ⊢
    subst hr
    exact ⟨none, 0, by simp, by simp, by simp⟩
  · split at h
    · rename_i hs
      subst hs
      simp only [Option.some.injEq] at h
      subst h
      simpa [Rel] using hr
    · simp at h
  · simp at h
  · simp at h
  · simp at h
  · simp only [Option.some.injEq] at h
    subst h
    simpa [Rel] using hr
  · rename_i f a b
    cases hc : (a.all closed0 && b.all closed0)
    · rw [hc] at h
      simp at h
    · rw [hc] at h
      simp only [cond_true, Option.some.injEq] at h
      subst h
      simp only [Bool.and_eq_true] at hc
      simp only [Rel] at hr ⊢
      obtain ⟨va, vb, h1, h2, h3⟩ := hr
      exact ⟨va, vb, h1, relT_closed hc.1 h2, relT_closed hc.2 h3⟩
  · simp at h
theorem normL_sound : ∀ {sh : List Sh} {cs cs' : List AV} {us : List Value}, normL sh cs = some cs' → RelL hp σ cs us → RelL hp sg0 cs' us
  | [], [], cs', us, h, hr => by simp [normL] at h; subst h; cases us <;> simp [RelL] at hr ⊢
  | s :: ss, c :: cs, cs', [], h, hr => by simp [RelL] at hr
  | s :: ss, c :: cs, cs', u :: us, h, hr => by
    simp only [RelL] at hr
    simp only [normL] at h
    obtain ⟨c1, h1, h⟩ := Option.bind_eq_some_iff.1 h
    obtain ⟨cs1, h2, rfl⟩ := Option.map_eq_some_iff.1 h
    simp only [RelL]
    exact ⟨⟨normC_sound h1 hr.1.1, hr.1.2⟩, normL_sound h2 hr.2⟩
  | [], _ :: _, _, _, h, _ => by simp [normL] at h
  | _ :: _, [], _, _, h, _ => by simp [normL] at h
theorem flat_put {sz f : Nat} {c : List AV} : ∀ {xs : List (List AV)} {i : Nat} {cs : List AV}, (∀ x ∈ xs, x.length = sz) → xs[i]? = some cs → f + c.length ≤ sz →
    (xs.set i (cs.take f ++ c ++ cs.drop (f + c.length))).flatten = xs.flatten.take (i * sz + f) ++ c ++ xs.flatten.drop (i * sz + f + c.length)
  | [], _, _, _, h, _ => by simp at h
  | x :: xs, 0, cs, hl, h, hf => by
    simp at h
    subst h
    have hx := hl x (by simp)
    simp only [List.set_cons_zero, List.flatten_cons, Nat.zero_mul, Nat.zero_add]
    rw [List.take_append_of_le_length (by omega), List.drop_append_of_le_length (by omega)]
    simp only [List.append_assoc]
  | x :: xs, i + 1, cs, hl, h, hf => by
    simp at h
    have hx := hl x (by simp)
    have he : (i + 1) * sz + f = x.length + (i * sz + f) := by rw [Nat.add_mul, hx]; omega
    rw [List.set_cons_succ, List.flatten_cons, flat_put (fun y hy => hl y (by simp [hy])) h hf, List.flatten_cons, he, List.take_length_add_append, Nat.add_assoc x.length, List.drop_length_add_append]
    simp only [List.append_assoc]
theorem flat_len {sz : Nat} : ∀ {xs : List (List AV)}, (∀ x ∈ xs, x.length = sz) → xs.flatten.length = xs.length * sz
  | [], _ => by simp
  | x :: xs, h => by
    have := flat_len (sz := sz) (xs := xs) fun y hy => h y (by simp [hy])
    have hx := h x (by simp)
    rw [List.flatten_cons, List.length_append, this, hx, List.length_cons, Nat.add_mul]
    omega
theorem take_put {α : Type} {cur ws : List α} {o N : Nat} (h : o + ws.length ≤ N) (hN : N ≤ cur.length) : (cur.take o ++ ws ++ cur.drop (o + ws.length)).take N = (cur.take N).take o ++ ws ++ (cur.take N).drop (o + ws.length) := by
  rw [List.take_append, List.take_of_length_le (by simp; omega), List.take_take, Nat.min_eq_left (by omega), List.drop_take]
  congr 1
  congr 1
  simp
  omega
theorem store_sound {t : TypeId} {x y : AV} {u w : Value} {s : St} {K : AV → St → Prop} (hr : HeapRel hp σ s.H W) (hx : Rel hp σ x u) (hy : Rel hp σ y w) (h : storeC P t x (cellsOf y) s K) :
    Does hp σ W s false ((do Instr.storeAt t u w; pure Next.skip : Sem Next).run P W) K := by
  unfold storeC at h
  split at h
  · rename_i id f c hc
    obtain ⟨ws, hw, hrel⟩ := rel_cells hy hc
    have hlw := hrel.length
    split at h
    · rename_i e cs hb
      obtain ⟨hs, hfit, hk⟩ := h
      obtain ⟨v, hσ, hbr, _⟩ := hr.own id _ hb
      simp only [BlkRel] at hbr
      obtain ⟨k, us, rfl, hheap, hus⟩ := hbr
      have hlu := hus.length
      simp only [Rel] at hx
      obtain ⟨k', hσ', rfl⟩ := hx
      rw [hσ] at hσ'
      simp only [Option.some.injEq, Value.pointer.injEq, Addr.mk.injEq, true_and, and_true] at hσ'
      subst hσ'
      rw [hlw] at hs
      have hrun := run_storeVar (P := P) hw hs hheap (by simp only [List.size_toArray]; omega : f + ws.length ≤ us.toArray.size) hrel.one
      simp only [hlw] at hk
      refine ⟨undef, _, _, _, hp, σ, .inr ⟨hrun, rfl⟩, hk, rfl, ?_, ?_, SgLe.refl _, by simp [Rel], by simp⟩
      · refine hr.write hb hσ rfl (by simp) (fun j hj => setRow_other W k j _ hj) ?_
        simp only [BlkRel]
        refine ⟨k, _, rfl, setRow_heap W k _ _ e _ hheap, ?_⟩
        exact ((hus.take f).app hrel).app (hus.drop _)
      · exact Ev.write hσ rfl (by simp) rfl rfl rfl (fun j hj => setRow_other W k j _ hj)
    · exact h.elim
  · rename_i id sz i f c hc
    obtain ⟨ws, hw, hrel⟩ := rel_cells hy hc
    have hlw := hrel.length
    split at h
    · rename_i e sz' xs hb
      obtain ⟨rfl, h⟩ := h
      obtain ⟨cs, hcs, hs, hfit, h⟩ := exSh_out h
      unfold storeR at h
      split at h
      · rename_i c' hn
        have hrel' := normL_sound hn hrel
        have hlc := hrel'.length
        obtain ⟨hpos, hlen, v, us, hσ, ho, hus⟩ := blk_row (n := 0) hr hb
        simp only [Rel] at hx
        obtain ⟨k, n, cap, hσ', hi, rfl⟩ := hx
        rw [hσ] at hσ'
        simp only [Option.some.injEq] at hσ'
        obtain ⟨rfl, hcap, _⟩ := row_cells ho hσ'
        subst hσ'
        rcases ho.2 with ⟨hv, _⟩ | ⟨g, cap', cur, hv, hbase, hheap, h5, h6, h7, h8⟩
        · simp at hv
        · simp only [Value.slice.injEq, Option.some.injEq, Addr.mk.injEq, true_and, and_true] at hv
          obtain ⟨rfl, rfl⟩ := hv
          rw [hlw] at hs hfit
          have hcl : cs.length = sz' := hlen cs (List.mem_of_getElem? hcs)
          have hin : i * sz' + f + ws.length ≤ xs.length * sz' := by
            have : (i + 1) * sz' ≤ xs.length * sz' := Nat.mul_le_mul_right _ hi
            rw [Nat.add_mul] at this
            omega
          have hcs2 : xs.length * sz' ≤ cur.size := by rw [h7]; exact Nat.mul_le_mul_right _ h5
          have hrun := run_storeVar (P := P) hw hs hheap (by omega : i * sz' + f + ws.length ≤ cur.size) hrel.one
          refine ⟨undef, _, _, _, hp, σ, .inr ⟨hrun, rfl⟩, h, rfl, ?_, ?_, SgLe.refl _, by simp [Rel], by simp⟩
          · refine hr.write hb hσ rfl (by simp) (fun j hj => setRow_other W k j _ hj) ?_
            simp only [BlkRel]
            refine ⟨hpos, fun x hx => ?_, us.take (i * sz' + f) ++ ws ++ us.drop (i * sz' + f + ws.length), ⟨?_, .inr ⟨k, cap, _, by simp, hbase, setRow_heap W k _ _ e _ hheap, by simpa using h5, h6, ?_, ?_⟩⟩, ?_⟩
            · rcases List.mem_or_eq_of_mem_set hx with h9 | h9
              · exact hlen x h9
              · subst h9
                simp
                omega
            · have := ho.1
              simp
              omega
            · rw [← h7]
              simp
              omega
            · have hl8 := congrArg List.length h8
              simp only [List.length_set, List.toList_toArray]
              have hu : us = cur.toList.take (xs.length * sz') := h8.symm
              rw [hu]
              exact take_put hin (by simpa using hcs2)
            · rw [flat_put hlen hcs (by omega)]
              have e1 : c'.length = ws.length := hlc
              rw [e1]
              exact ((hus.take _).app hrel').app (hus.drop _)
          · exact Ev.write hσ rfl (by simp) rfl rfl rfl (fun j hj => setRow_other W k j _ hj)
      · exact h.elim
    · exact h.elim
  · exact h.elim
end
end Go.Ai
set_option linter.unusedVariables false
set_option linter.unusedSimpArgs false
namespace Go.Ai
section
variable {P : Program} {hp hp' : Im} {σ σ' : Sg} {H : Hp} {W W' : World}
theorem blk_clr : ∀ (ids : List Nat) (H : Hp) (i : Nat) (b : Blk), blk (clr H ids) i = some b → blk H i = some b ∧ i ∉ ids
  | [], H, i, b, h => ⟨h, by simp⟩
  | j :: r, H, i, b, h => by
    obtain ⟨h1, h2⟩ := blk_clr r (H.set j none) i b h
    by_cases hi : i = j
    · subst hi
      have hlt := blk_lt h1
      rw [blk_set_same _ (by simpa using hlt)] at h1
      simp at h1
    · rw [blk_set_other _ hi] at h1
      exact ⟨h1, by simp [hi, h2]⟩
theorem clr_len : ∀ (ids : List Nat) (H : Hp), (clr H ids).length = H.length
  | [], H => rfl
  | j :: r, H => by
    rw [clr, clr_len r]
    simp
open Classical in
/-- Memory that nobody writes any more, and the blocks of some rows. -/
noncomputable def frzHp (hp : Im) (σ : Sg) (H : Hp) (W : World) (ids : List Nat) : Im := fun k =>
  if ∃ i ∈ ids, ∃ b v, blk H i = some b ∧ σ i = some v ∧ bn v = some k then W.heap[k]? else hp k
theorem frz_le (hr : HeapRel hp σ H W) (ids : List Nat) : ImLe hp (frzHp hp σ H W ids) := fun k o h => by
  unfold frzHp
  split
  · exact hr.im k o h
  · exact h
theorem frz_new {ids : List Nat} {k : Nat} {o : Obj} (h : frzHp hp σ H W ids k = some o) : hp k = some o ∨ ∃ id v, σ id = some v ∧ bn v = some k := by
  unfold frzHp at h
  split at h
  · rename_i hc
    obtain ⟨i, _, _, v, _, h1, h2⟩ := hc
    exact .inr ⟨i, v, h1, h2⟩
  · exact .inl h
theorem frz_heap (hr : HeapRel hp σ H W) (ids : List Nat) : HeapRel (frzHp hp σ H W ids) σ (clr H ids) W := by
  constructor
  · intro k o h
    unfold frzHp at h
    split at h
    · exact h
    · exact hr.im k o h
  · intro id b hb
    obtain ⟨h1, h2⟩ := blk_clr _ _ _ _ hb
    obtain ⟨v, h3, h4, h5⟩ := hr.own id b h1
    refine ⟨v, h3, h4.keep (frz_le hr ids) (SgLe.refl _) fun k hk => rfl, fun k hk => ?_⟩
    unfold frzHp
    split
    · rename_i hc
      obtain ⟨i, hi, c, w, h6, h7, h8⟩ := hc
      have := hr.apart i id _ _ w v k h6 h1 h7 h3 h8 hk
      subst this
      exact absurd hi h2
    · exact h5 k hk
  · intro i j b c v w k hb hc
    exact hr.apart i j b c v w k (blk_clr _ _ _ _ hb).1 (blk_clr _ _ _ _ hc).1
  · intro id v h
    rw [clr_len]
    exact hr.dom id v h
  · exact hr.lt
/-- The row as it stands. -/
theorem frz_row {ids : List Nat} {x : AV} {u : Value} (hr : HeapRel hp σ H W) (hin : ∀ i ∈ idsR0 x, i ∈ ids) (hx : Rel hp σ x u) : Rel (frzHp hp σ H W ids) σ (frz0 H x) u := by
  have hm := Rel.mono (frz_le hr ids) (SgLe.refl σ) x u hx
  cases x <;> try exact hm
  rename_i id sz off len
  simp only [frz0, borrow]
  · split
    · rename_i t sz' xs hb
      split
      · rename_i hs
        subst hs
        obtain ⟨hpos, hlen, v, us, hσ, ho, hrel⟩ := blk_row (n := 0) hr hb
        simp only [Rel] at hx ⊢
        rcases hx with ⟨k, n, c, hσ', hle, ⟨A, c', rfl, hc'⟩, hA⟩ | ⟨hσ', rfl, rfl, A, rfl⟩
        · rw [hσ] at hσ'
          simp only [Option.some.injEq] at hσ'
          obtain ⟨rfl, hcap, hcells⟩ := row_cells ho hσ'
          have hl : ((xs.drop off).take len).length = len := by simp; omega
          refine ⟨A, c', by rw [hl], by omega, fun hne => ?_⟩
          have hpos' : 0 < len := by
            rcases Nat.eq_zero_or_pos len with h0 | h0
            · subst h0; simp at hne
            · exact h0
          have hy := hA (.inr hpos')
          simp only [Value.slice.injEq] at hy
          obtain ⟨rfl, _, rfl⟩ := hy
          refine ⟨_, rfl, rfl, ?_⟩
          have hk : frzHp hp σ H W ids k = W.heap[k]? := by
            unfold frzHp
            rw [if_pos ⟨id, hin id (by simp [idsR0]), _, v, hb, hσ, by rw [hσ']; rfl⟩]
          have hrow : RelRow (frzHp hp σ H W ids) ⟨k, 0, none⟩ 0 sz xs := relRow_in (frz_le hr ids) xs us 0 hrel hlen fun j u hj => by
            have h1 := hcells j u hj
            rw [add_none, Nat.zero_add, Nat.zero_add]
            unfold icell
            unfold World.cell? at h1
            simp only [hk]
            exact h1
          have h2 := RelRow.take sz len _ _ (RelRow.drop sz off 0 xs hrow)
          have h3 := RelRow.shift (ad := ⟨k, 0, none⟩) rfl (off * sz) 0 sz _ (by rw [Nat.add_zero, Nat.zero_add] at *; exact h2)
          rw [add_none, Nat.zero_add] at h3
          exact h3
        · exact ⟨A, 0, by simp, by simp, by simp⟩
      · simp [Rel]
    · simp [Rel]
theorem frz_list {ids : List Nat} (hr : HeapRel hp σ H W) : ∀ (cs : List AV) (us : List Value), (∀ i ∈ cs.flatMap idsR0, i ∈ ids) → RelL hp σ cs us → RelL (frzHp hp σ H W ids) σ (cs.map (frz0 H)) us
  | [], [], _, _ => by simp [RelL]
  | c :: cs, u :: us, h, hx => by
    simp only [RelL, List.map_cons] at hx ⊢
    exact ⟨⟨frz_row hr (fun i hi => h i (by simp [hi])) hx.1.1, hx.1.2⟩, frz_list hr cs us (fun i hi => h i (by rw [List.flatMap_cons, List.mem_append]; exact .inr hi)) hx.2⟩
  | [], _ :: _, _, h => by simp [RelL] at h
  | _ :: _, [], _, h => by simp [RelL] at h
theorem relCs_of {hp2 : Im} {k : Nat} : ∀ (cs : List AV) (us : List Value) (n : Nat), (∀ j u, us[j]? = some u → icell hp2 ⟨k, n + j, none⟩ = some u) → RelL hp2 sg0 cs us → RelCs hp2 ⟨k, 0, none⟩ n cs
  | [], [], _, _, _ => by simp [RelCs]
  | c :: cs, u :: us, n, h, hx => by
    simp only [RelL, RelCs] at hx ⊢
    refine ⟨⟨u, ?_, hx.1.1, hx.1.2⟩, relCs_of cs us (n + 1) (fun j w hj => ?_) hx.2⟩
    · have := h 0 u rfl
      rw [add_none, Nat.zero_add]
      exact this
    · have := h (j + 1) w (by simpa using hj)
      rw [show n + 1 + j = n + (j + 1) by omega]
      exact this
  | [], _ :: _, _, _, h => by simp [RelL] at h
  | _ :: _, [], _, _, h => by simp [RelL] at h
/-- A captured variable as it stands. -/
theorem frz_cap {ids : List Nat} {x : AV} {u : Value} (hr : HeapRel hp σ H W) (hin : ∀ i ∈ idsC x, i ∈ ids) (hx : Rel hp σ x u) : Rel (frzHp hp σ H W ids) σ (capZ H x) u := by
  have hm := Rel.mono (frz_le hr ids) (SgLe.refl σ) x u hx
  cases x <;> try exact hm
  rename_i id f
  simp only [capZ, capB]
  split
  · rename_i t cs hb
    cases hc : ((f == 0) && cs.all closed0)
    · exact hm
    · simp only [cond_true]
      simp only [Bool.and_eq_true, beq_iff_eq] at hc
      obtain ⟨rfl, hc⟩ := hc
      obtain ⟨v, h1, h2, h3⟩ := hr.own id _ hb
      simp only [BlkRel] at h2
      obtain ⟨k, us, rfl, h4, h5⟩ := h2
      simp only [Rel] at hx ⊢
      obtain ⟨k', h6, h7⟩ := hx
      rw [h1] at h6
      simp only [Option.some.injEq, Value.pointer.injEq, Addr.mk.injEq, and_true] at h6
      subst h6
      refine ⟨⟨k, 0, none⟩, h7, rfl, relCs_of cs us 0 (fun j w hj => ?_) (RelL.mono (frz_le hr ids) (SgLe.refl _) _ _ (relL_closed hc h5))⟩
      have hk : frzHp hp σ H W ids k = W.heap[k]? := by
        unfold frzHp
        rw [if_pos ⟨id, hin id (by simp [idsC]), _, _, hb, h1, rfl⟩]
      unfold icell
      simp only [hk, h4, Nat.zero_add]
      simpa using hj
  all_goals exact hm
theorem frz_caps {ids : List Nat} (hr : HeapRel hp σ H W) : ∀ (cs : List AV) (us : List Value), (∀ i ∈ cs.flatMap idsC, i ∈ ids) → RelT hp σ cs us → RelT (frzHp hp σ H W ids) σ (cs.map (capZ H)) us
  | [], [], _, _ => by simp [RelT]
  | c :: cs, u :: us, h, hx => by
    simp only [RelT, List.map_cons] at hx ⊢
    exact ⟨frz_cap hr (fun i hi => h i (by simp [hi])) hx.1, frz_caps hr cs us (fun i hi => h i (by rw [List.flatMap_cons, List.mem_append]; exact .inr hi)) hx.2⟩
  | [], _ :: _, _, h => by simp [RelT] at h
  | _ :: _, [], _, h => by simp [RelT] at h
theorem frz_val {ids : List Nat} {x : AV} {u : Value} (hr : HeapRel hp σ H W) (hin : ∀ i ∈ idsR x, i ∈ ids) (hx : Rel hp σ x u) : Rel (frzHp hp σ H W ids) σ (frzV H x) u := by
  cases x <;> try exact Rel.mono (frz_le hr ids) (SgLe.refl σ) _ u hx
  · rename_i id sz off len
    exact frz_row (x := .row id sz off len) hr hin hx
  · rename_i cs
    simp only [Rel, frzV] at hx ⊢
    obtain ⟨vs, h1, h2⟩ := hx
    exact ⟨vs, h1, frz_list hr cs vs hin h2⟩
  · rename_i f a b
    simp only [Rel, frzV] at hx ⊢
    obtain ⟨va, vb, h1, h2, h3⟩ := hx
    exact ⟨va, vb, h1, frz_caps hr a va (fun i hi => hin i (by simp only [idsR, List.mem_append]; exact .inl hi)) h2, frz_caps hr b vb (fun i hi => hin i (by simp only [idsR, List.mem_append]; exact .inr hi)) h3⟩
/-- What is done behind it. -/
theorem frz_does {s : St} {ids : List Nat} {g : Bool} {x : Result Next} {K : AV → St → Prop} (hr : HeapRel hp σ s.H W) (h : Does (frzHp hp σ s.H W ids) σ W ⟨s.t, clr s.H ids⟩ g x K) : Does hp σ W s g x K := by
  obtain ⟨v, W', r, s', hp', σ', h1, h2, h3, h4, h5, h6, h7, h8⟩ := h
  refine ⟨v, W', r, s', hp', σ', h1, h2, h3, h4, ?_, h6, h7, h8⟩
  refine ⟨h5.size, h5.tape, h5.os, h5.out, (frz_le hr ids).trans h5.im, h5.keep, fun k o hk => ?_, h5.sgNew⟩
  rcases h5.imNew k o hk with h | h
  · rcases frz_new h with h | h
    · exact .inl h
    · exact .inr (.inr h)
  · exact .inr h
end
end Go.Ai

/- An operation that looks at no memory yields the same whatever the memory. -/
import Derived.Test.YtmebpmghmghhkaaAiVal
import Derived.Laws.IdiomStrings
set_option linter.unusedVariables false
set_option linter.unusedSimpArgs false
namespace Go.Ai
section
variable {P : Program} {hp : Im} {σ : Sg}
theorem run_vOf {m : Sem Value} {z : Value} {W W' : World} (h : m.run P W = .ok z W') : (do pure (Next.value (← m)) : Sem Next).run P W = .ok (.value z) W' := by
  simp [Sem.run_bind, h]
theorem optA_out {x : Option AV} {s : St} {K : AV → St → Prop} (h : optA x s K) : ∃ r, x = some r ∧ K r s := by
  cases x with
  | none => exact h.elim
  | some r => exact ⟨r, rfl, h⟩
/-- What an operation that looks at no memory comes to. -/
def Free (P : Program) (hp : Im) (σ : Sg) (o : Oper) (a : Act) (K : AV → Prop) : Prop := ∃ v r, (∀ W, (execOp a.eval o).run P W = .ok (.value v) W) ∧ K r ∧ Rel hp σ r v
theorem getO_rel {a : Act} {s : St} (hg : ∀ x, Rel hp σ (s.get x) (a.eval x)) (x : Option Operand) : RelO hp σ (getO s x) (x.map a.eval) := by
  cases x with
  | none => simp [getO, RelO]
  | some x => simpa [getO, RelO] using hg x
theorem gets_rel {a : Act} {s : St} (hg : ∀ x, Rel hp σ (s.get x) (a.eval x)) : ∀ l : List Operand, RelT hp σ (l.map s.get) (l.map a.eval)
  | [] => by simp [RelT]
  | x :: l => by simp only [List.map_cons, RelT]; exact ⟨hg x, gets_rel hg l⟩
theorem roomA_spec {H : Hp} {W : World} {x : AV} {u : Value} (hr : HeapRel hp σ H W) (hx : Rel hp σ x u) : RoomOk σ x u (roomA H x) := by
  intro r h
  unfold roomA at h
  split at h
  · rename_i id sz len
    split at h
    · rename_i t sz' c0 xs hb
      simp only [Option.some.injEq] at h
      subst h
      refine ⟨id, sz, len, rfl, ?_⟩
      obtain ⟨v, hσ, hbr, _⟩ := hr.own id _ hb
      simp only [BlkRel] at hbr
      obtain ⟨_, _, us, _, hv⟩ := hbr
      simp only [Rel] at hx
      rcases hv with ⟨rfl, rfl, rfl⟩ | ⟨k, cur, rfl, _, _⟩
      · rcases hx with ⟨k, n, c, h1, _⟩ | ⟨_, _, rfl, A, rfl⟩
        · rw [hσ] at h1; simp at h1
        · exact .inr ⟨rfl, rfl, hσ, A, rfl⟩
      · rcases hx with ⟨k', n, c, h1, h2, _, h3⟩ | ⟨h1, _⟩
        · rw [hσ] at h1
          simp only [Option.some.injEq, Value.slice.injEq, Addr.mk.injEq, and_true, true_and] at h1
          obtain ⟨rfl, rfl, rfl⟩ := h1
          have h4 := h3 (.inl trivial)
          simp only [Nat.zero_mul, Nat.sub_zero] at h4
          exact .inl ⟨k, hσ, h4, by omega⟩
        · rw [hσ] at h1; simp at h1
    · simp at h
  · simp at h
theorem opF0_sound {C : Cfg} {call : Callee} {o : Oper} {s : St} {a : Act} {W : World} {K : AV → St → Prop} (hf : isF0 o = true) (hr : HeapRel hp σ s.H W) (hg : ∀ x, Rel hp σ (s.get x) (a.eval x)) (h : opA C call o s K) : Free C.P hp σ o a (K · s) := by
  obtain ⟨dst, op, ty, pos, af, g⟩ := o
  have yld : ∀ {m : Sem Value} {K' : AV → Prop}, Yld C.P hp σ m K' → (execOp a.eval ⟨dst, op, ty, pos, af, g⟩ = do pure (Next.value (← m))) → Free C.P hp σ ⟨dst, op, ty, pos, af, g⟩ a K' := fun ⟨z, r, h1, h2, h3⟩ he =>
    ⟨z, r, fun W => by rw [he]; exact run_vOf (h1 W), h2, h3⟩
  have yldo : ∀ {m : Sem Value} {x : Option AV}, optA x s K → (∀ r, x = some r → ∃ z, (∀ W, m.run C.P W = .ok z W) ∧ Rel hp σ r z) → (execOp a.eval ⟨dst, op, ty, pos, af, g⟩ = do pure (Next.value (← m))) → Free C.P hp σ ⟨dst, op, ty, pos, af, g⟩ a (K · s) := fun h hr he => by
    obtain ⟨r, hx, hk⟩ := optA_out h
    obtain ⟨z, hz, hrel⟩ := hr r hx
    exact ⟨z, r, fun W => by rw [he]; exact run_vOf (hz W), hk, hrel⟩
  cases op
  case move x => exact ⟨a.eval x, s.get x, fun W => rfl, h, hg x⟩
  case assign x => exact ⟨a.eval x, s.get x, fun W => rfl, h, hg x⟩
  case pick c x y =>
    have hc := hg c
    have hx := hg x
    have hy := hg y
    simp only [opA] at h
    unfold pickA at h
    split at h
    · rename_i c0 x0 y0 e1 e2 e3
      rw [e1] at hc; rw [e2] at hx; rw [e3] at hy
      simp only [Rel] at hc hx hy
      refine ⟨_, _, fun W => ?_, h, by simp [Rel]; rfl⟩
      simp only [execOp, hc, hx, hy, asBool, Sem.run_bind, Sem.run_pure, Result.andThen_ok]
      cases c0 <;> rfl
    · rename_i c0 e1 _
      rw [e1] at hc
      simp only [Rel] at hc
      cases c0
      · exact ⟨a.eval y, s.get y, fun W => by simp [execOp, hc, asBool], by simpa using h, hy⟩
      · exact ⟨a.eval x, s.get x, fun W => by simp [execOp, hc, asBool], by simpa using h, hx⟩
    · exact h.elim
  case binOp op t x y u =>
    obtain ⟨z, r, h1, h2, h3, h4⟩ := binA_sound (P := C.P) (op := op) (t := t) (K := (K · s)) (hg x) (hg y) h
    refine ⟨z, r, fun W => ?_, h3, h4⟩
    simp only [execOp, Sem.run_bind, h1, h2, Result.andThen_ok, Sem.run_pure]
  case unOp op t x => exact yld (unA_sound (hg x) h) rfl
  case makeFunc fn first cap =>
    cases fn with
    | func f =>
      refine ⟨.func (.func f) (first.map a.eval) (cap.map a.eval), _, fun W => rfl, h, ?_⟩
      simp only [Rel]
      refine ⟨first.toList.map a.eval, cap.toList.map a.eval, ?_, gets_rel hg _, gets_rel hg _⟩
      have e : ∀ x : Array Operand, x.map a.eval = (x.toList.map a.eval).toArray := fun x => by rw [← Array.toList_map]
      rw [e, e]
    | _ => exact h.elim
  case makeInterface t x => exact yld (ifcA_sound (hg x) h) rfl
  case field t x i => exact yldo h (fun r hr => fieldA_sound (hg x) hr) rfl
  case extract x j => exact yldo h (fun r hr => extractA_sound (hg x) hr) rfl
  case slice t x lo hi mx => exact yld (sliceA_sound (roomA_spec hr (hg x)) (hg x) (getO_rel hg lo) (getO_rel hg hi) (getO_rel hg mx) h) rfl
  case fieldAddr t x i => exact yld (fieldAddrA_sound (hg x) h) rfl
  case index t x i => exact yld (indexA_sound (hg x) (hg i) h) rfl
  case indexAddr t x i => exact yld (indexAddrA_sound (hg x) (hg i) h) rfl
  case nilCheck x =>
    have hx := hg x
    simp only [opA] at h
    unfold nilA at h
    split at h
    · rename_i id f e
      rw [e] at hx
      have hx' := hx
      simp only [Rel] at hx
      obtain ⟨k, _, hx⟩ := hx
      exact ⟨_, _, fun W => by simp only [execOp, hx]; rfl, h, by rw [hx] at hx'; exact hx'⟩
    · rename_i id sz i f e
      rw [e] at hx
      have hx' := hx
      simp only [Rel] at hx
      obtain ⟨k, n, c, _, _, hx⟩ := hx
      exact ⟨_, _, fun W => by simp only [execOp, hx]; rfl, h, by rw [hx] at hx'; exact hx'⟩
    · rename_i cs e
      rw [e] at hx
      have hx' := hx
      simp only [Rel] at hx
      obtain ⟨ad, hx, _⟩ := hx
      exact ⟨_, _, fun W => by simp only [execOp, hx]; rfl, h, by rw [hx] at hx'; exact hx'⟩
    · exact h.elim
  case build t parts =>
    refine yldo h (fun r hr => ?_) rfl
    have := buildA_sound hg hr
    simpa using this
  case typeAssert x xt t ok => exact yldo h (fun r hr => assertA_sound (hg x) hr) rfl
  case call c =>
    obtain ⟨callee, args, ts⟩ := c
    obtain ⟨args⟩ := args
    obtain ⟨ts⟩ := ts
    cases callee with
    | builtin b =>
      cases b
      case len =>
        match ts, args, h with
        | t :: ts, [x], h =>
          obtain ⟨z, r, h1, h2, h3⟩ := lenA_sound (P := C.P) (t := t) (K := (K · s)) (ts := ts) (ty := ty) (hg x) h
          refine ⟨z, r, fun W => ?_, h2, h3⟩
          simp only [execOp, resolve, List.map_toArray, List.map_cons, List.map_nil, Sem.run_bind, Sem.run_pure, Result.andThen_ok, invoke, builtin, h1]
        | [], _, h => exact h.elim
        | _ :: _, [], h => exact h.elim
        | _ :: _, _ :: _ :: _, h => exact h.elim
      case min =>
        have h' : optA (minA (args.map s.get)) s K := by cases ts <;> exact h
        obtain ⟨r, hr, hk⟩ := optA_out h'
        obtain ⟨z, hz, hrel⟩ := minA_sound (P := C.P) (ts := ts.toArray) (ty := ty) (gets_rel hg args) hr
        refine ⟨z, r, fun W => ?_, hk, hrel⟩
        simp only [execOp, resolve, List.map_toArray, Sem.run_bind, Sem.run_pure, Result.andThen_ok, invoke, builtin, hz]
      all_goals simp [isF0] at hf
    | _ => simp [isF0] at hf
  all_goals simp [isF0] at hf
end
end Go.Ai
set_option linter.unusedVariables false
set_option linter.unusedSimpArgs false
namespace Go.Ai
/-- What stood stands. -/
def Grow (W W' : World) : Prop := ∀ (k : Nat) (o : Obj), W.heap[k]? = some o → W'.heap[k]? = some o
theorem Grow.refl (W : World) : Grow W W := fun _ _ h => h
theorem Grow.trans {W W' W'' : World} (h : Grow W W') (h' : Grow W' W'') : Grow W W'' := fun k o x => h' k o (h k o x)
def hpAll (W : World) : Im := fun k => W.heap[k]?
theorem icell_all (W : World) (a : Addr) : icell (hpAll W) a = W.cell? a := rfl
theorem hpAll_le {hp : Im} {σ : Sg} {H : Hp} {W : World} (h : HeapRel hp σ H W) : ImLe hp (hpAll W) := fun k o hk => h.im k o hk
theorem hpAll_grow {W W' : World} (h : Grow W W') : ImLe (hpAll W) (hpAll W') := fun k o hk => h k o hk
section
variable {P : Program} {hp : Im} {σ : Sg} {H : Hp} {W : World}

/-! ### Cells side by side -/
theorem relCs_out {hp : Im} {ad : Addr} : ∀ (cs : List AV) (k : Nat), RelCs hp ad k cs → ∃ us : List Value, RelL hp sg0 cs us ∧ ∀ j u, us[j]? = some u → icell hp (ad.add (k + j)) = some u
  | [], k, _ => ⟨[], by simp [RelL], by simp⟩
  | c :: cs, k, h => by
    simp only [RelCs] at h
    obtain ⟨⟨u, h1, h2, h3⟩, h4⟩ := h
    obtain ⟨us, h5, h6⟩ := relCs_out cs (k + 1) h4
    refine ⟨u :: us, by simp only [RelL]; exact ⟨⟨h2, h3⟩, h5⟩, fun j v hj => ?_⟩
    cases j with
    | zero => simp at hj; subst hj; exact h1
    | succ j =>
      simp at hj
      have := h6 j v hj
      rw [Nat.add_assoc, Nat.add_comm 1 j] at this
      exact this
theorem relCs_in {hp hp' : Im} (hle : ImLe hp hp') {ad : Addr} : ∀ (cs : List AV) (us : List Value) (k : Nat), RelL hp sg0 cs us → (∀ j u, us[j]? = some u → icell hp' (ad.add (k + j)) = some u) → RelCs hp' ad k cs
  | [], [], k, _, _ => by simp [RelCs]
  | c :: cs, u :: us, k, h, hc => by
    simp only [RelL] at h
    simp only [RelCs]
    refine ⟨⟨u, by simpa using hc 0 u rfl, Rel.mono hle (SgLe.refl _) c u h.1.1, h.1.2⟩, relCs_in hle cs us (k + 1) h.2 fun j v hj => ?_⟩
    have := hc (j + 1) v (by simpa using hj)
    rw [Nat.add_assoc, Nat.add_comm 1 j]
    exact this
  | [], _ :: _, _, h, _ => by simp [RelL] at h
  | _ :: _, [], _, h, _ => by simp [RelL] at h
theorem RelL.split {hp : Im} {σ : Sg} : ∀ (x : List AV) {r : List AV} {us : List Value}, RelL hp σ (x ++ r) us → RelL hp σ x (us.take x.length) ∧ RelL hp σ r (us.drop x.length)
  | [], r, us, h => by simpa [RelL] using h
  | c :: x, r, [], h => by simp [RelL] at h
  | c :: x, r, u :: us, h => by
    simp only [List.cons_append, RelL] at h
    obtain ⟨h1, h2⟩ := RelL.split x h.2
    simp only [List.length_cons, List.take_succ_cons, List.drop_succ_cons, RelL]
    exact ⟨⟨h.1, h1⟩, h2⟩
theorem relRow_in {hp hp' : Im} (hle : ImLe hp hp') {ad : Addr} {sz : Nat} : ∀ (xs : List (List AV)) (us : List Value) (k : Nat), RelL hp sg0 xs.flatten us → (∀ x ∈ xs, x.length = sz) → (∀ j u, us[j]? = some u → icell hp' (ad.add (k + j)) = some u) → RelRow hp' ad k sz xs
  | [], us, k, _, _, _ => by simp [RelRow]
  | x :: xs, us, k, h, hl, hc => by
    simp only [List.flatten_cons] at h
    obtain ⟨h1, h2⟩ := RelL.split x h
    have hx := hl x (by simp)
    simp only [RelRow]
    refine ⟨hx, relCs_in hle x _ k h1 fun j u hj => hc j u ?_, relRow_in hle xs (us.drop x.length) (k + sz) h2 (fun y hy => hl y (by simp [hy])) fun j u hj => ?_⟩
    · rcases Nat.lt_or_ge j x.length with h' | h'
      · rwa [List.getElem?_take_of_lt h'] at hj
      · have := h1.length
        rw [List.getElem?_eq_none (by omega)] at hj
        simp at hj
    · rw [List.getElem?_drop] at hj
      have := hc _ _ hj
      rw [hx] at this
      rw [Nat.add_assoc]
      exact this
theorem flat_get {sz : Nat} : ∀ {xs : List (List AV)} {i : Nat} {cs : List AV}, (∀ x ∈ xs, x.length = sz) → xs[i]? = some cs → (xs.flatten.drop (i * sz)).take sz = cs
  | [], _, _, _, h => by simp at h
  | x :: xs, 0, cs, hl, h => by
    simp at h
    subst h
    have := hl x (by simp)
    simp [← this]
  | x :: xs, i + 1, cs, hl, h => by
    simp at h
    have hx := hl x (by simp)
    have he : (i + 1) * sz = x.length + i * sz := by rw [Nat.add_mul, hx]; omega
    rw [List.flatten_cons, he, List.drop_length_add_append]
    exact flat_get (fun y hy => hl y (by simp [hy])) h

/-! ### A row of one's own, seen as elements -/
theorem row_cells {t : TypeId} {sz n : Nat} {v : Value} {us : List Value} {k m c : Nat} (ho : W.ownsRow 0 t sz v n us) (hv : v = .slice (some ⟨k, 0, none⟩) m c) : m = n ∧ n ≤ c ∧ ∀ j u, us[j]? = some u → W.cell? ⟨k, j, none⟩ = some u := by
  subst hv
  have hc := ho.cells (g := k) rfl
  rcases ho.2 with ⟨h, _⟩ | ⟨g, cap, cur, he, _, _, h1, _⟩
  · simp at h
  · simp only [Value.slice.injEq] at he
    obtain ⟨_, rfl, rfl⟩ := he
    refine ⟨rfl, h1, fun j u hj => ?_⟩
    have := hc j u hj
    rw [add_none, Nat.zero_add] at this
    exact this
theorem blk_row {id sz n : Nat} {t : TypeId} {xs : List (List AV)} (hr : HeapRel hp σ H W) (hb : blk H id = some (.row t sz xs)) : 0 < sz ∧ (∀ x ∈ xs, x.length = sz) ∧ ∃ v us, σ id = some v ∧ W.ownsRow 0 t sz v xs.length us ∧ RelL hp sg0 xs.flatten us := by
  obtain ⟨v, h1, h2, _⟩ := hr.own id _ hb
  simp only [BlkRel] at h2
  obtain ⟨h3, h4, us, h5, h6⟩ := h2
  exact ⟨h3, h4, v, us, h1, h5, h6⟩
/-- A row of one's own, however much is told of it. -/
structure Rowish (hp : Im) (σ : Sg) (W : World) (id sz : Nat) (t : TypeId) (xs : List (List AV)) (us : List Value) : Prop where
  pos : 0 < sz
  len : ∀ x ∈ xs, x.length = sz
  rel : RelL hp sg0 xs.flatten us
  at_ : ∀ k n c, σ id = some (.slice (some ⟨k, 0, none⟩) n c) → xs.length ≤ n ∧ n ≤ c ∧ c ≤ maxLen ∧ (∀ j u, us[j]? = some u → W.cell? ⟨k, j, none⟩ = some u) ∧ ∃ cur, W.heap[k]? = some (.cells cur t (0, 0)) ∧ cur.size = c * sz ∧ cur.toList.take (xs.length * sz) = us
theorem rowish_row {id sz : Nat} {t : TypeId} {xs : List (List AV)} (hr : HeapRel hp σ H W) (hb : blk H id = some (.row t sz xs)) : ∃ us, Rowish hp σ W id sz t xs us ∧ ∀ k n c, σ id = some (.slice (some ⟨k, 0, none⟩) n c) → n = xs.length := by
  obtain ⟨h1, h2, v, us, h3, h4, h5⟩ := blk_row (n := 0) hr hb
  refine ⟨us, ⟨h1, h2, h5, fun k n c hs => ?_⟩, fun k n c hs => ?_⟩
  · rw [h3] at hs
    simp only [Option.some.injEq] at hs
    obtain ⟨rfl, h6, h7⟩ := row_cells h4 hs
    subst hs
    rcases h4.2 with ⟨hv, _⟩ | ⟨g, cap', cur, hv, _, hheap, h5, h6', h7', h8⟩
    · simp at hv
    · simp only [Value.slice.injEq, Option.some.injEq, Addr.mk.injEq, true_and, and_true] at hv
      obtain ⟨rfl, rfl⟩ := hv
      exact ⟨Nat.le_refl _, h6, h6', h7, cur, hheap, h7', h8⟩
  · rw [h3] at hs
    simp only [Option.some.injEq] at hs
    exact (row_cells h4 hs).1
theorem rowish_rowc {id sz c0 : Nat} {t : TypeId} {xs : List (List AV)} (hr : HeapRel hp σ H W) (hb : blk H id = some (.rowc t sz c0 xs)) : ∃ us, Rowish hp σ W id sz t xs us ∧ ∀ k n c, σ id = some (.slice (some ⟨k, 0, none⟩) n c) → n = c0 ∧ c = c0 := by
  obtain ⟨v, h1, h2, _⟩ := hr.own id _ hb
  simp only [BlkRel] at h2
  obtain ⟨h3, h4, us, h5, h6⟩ := h2
  refine ⟨us, ⟨h3, h4, h5, fun k n c hs => ?_⟩, fun k n c hs => ?_⟩
  · rw [h1] at hs
    simp only [Option.some.injEq] at hs
    rcases h6 with ⟨rfl, _⟩ | ⟨k', cur, rfl, h7, h8, h9, h10, h11⟩
    · simp at hs
    · simp only [Value.slice.injEq, Option.some.injEq, Addr.mk.injEq, and_true] at hs
      obtain ⟨rfl, rfl, rfl⟩ := hs
      refine ⟨h7, Nat.le_refl _, h8, fun j u hj => ?_, cur, h9, h10, h11⟩
      rw [cell_of_row W k' j _ _ _ h9]
      rw [← h11] at hj
      rcases Nat.lt_or_ge j (xs.length * sz) with h' | h'
      · rw [List.getElem?_take_of_lt h'] at hj
        simpa using hj
      · rw [List.getElem?_eq_none (by simp; omega)] at hj
        simp at hj
  · rw [h1] at hs
    simp only [Option.some.injEq] at hs
    rcases h6 with ⟨rfl, _⟩ | ⟨k', cur, rfl, _⟩
    · simp at hs
    · simp only [Value.slice.injEq, Option.some.injEq, Addr.mk.injEq, and_true] at hs
      exact ⟨hs.2.1.symm, hs.2.2.symm⟩
theorem borrow_rel {x : AV} {u : Value} (hr : HeapRel hp σ H W) (hx : Rel hp σ x u) : Rel (hpAll W) σ (borrow H x) u := by
  have hm := Rel.mono (hpAll_le hr) (SgLe.refl σ) x u hx
  unfold borrow
  split
  · rename_i id sz off len
    split
    · rename_i t sz' xs hb
      split
      · rename_i hs
        subst hs
        obtain ⟨hpos, hlen, v, us, hσ, ho, hrel⟩ := blk_row (n := 0) hr hb
        simp only [Rel] at hx ⊢
        rcases hx with ⟨k, n, c, hσ', hle, ⟨A, c', rfl, hc'⟩, hA⟩ | ⟨hσ', rfl, rfl, A, rfl⟩
        · rw [hσ] at hσ'
          simp only [Option.some.injEq] at hσ'
          obtain ⟨rfl, hcap, hcells⟩ := row_cells ho hσ'
          have hl : ((xs.drop off).take len).length = len := by simp; omega
          refine ⟨A, c', by rw [hl], by omega, fun hne => ?_⟩
          have hpos' : 0 < len := by
            rcases Nat.eq_zero_or_pos len with h0 | h0
            · subst h0; simp at hne
            · exact h0
          have hy := hA (.inr hpos')
          simp only [Value.slice.injEq] at hy
          obtain ⟨rfl, _, rfl⟩ := hy
          refine ⟨_, rfl, rfl, ?_⟩
          have hrow : RelRow (hpAll W) ⟨k, 0, none⟩ 0 sz xs := relRow_in (hpAll_le hr) xs us 0 hrel hlen fun j u hj => by
            rw [icell_all, add_none, Nat.zero_add, Nat.zero_add]
            exact hcells j u hj
          have h2 := RelRow.take sz len _ _ (RelRow.drop sz off 0 xs hrow)
          have h3 := RelRow.shift (ad := ⟨k, 0, none⟩) rfl (off * sz) 0 sz _ (by rw [Nat.add_zero, Nat.zero_add] at *; exact h2)
          rw [add_none, Nat.zero_add] at h3
          exact h3
        · exact ⟨A, 0, by simp, by simp, by simp⟩
      · simp [Rel]
    · simp [Rel]
  · exact hm

/-! ### Loads -/
/-- What an operation that reads comes to. -/
def Reads (P : Program) (hp : Im) (σ : Sg) (W : World) (m : Sem Value) (K : AV → Prop) : Prop := ∃ v r, (∀ W', Grow W W' → m.run P W' = .ok v W') ∧ K r ∧ Rel hp σ r v
theorem loadA_sound {t : TypeId} {x : AV} {u : Value} {s : St} {K : AV → St → Prop} (hr : HeapRel hp σ s.H W) (hx : Rel hp σ x u) (h : loadA P t x s K) : Reads P hp σ W (Instr.loadAt t u) (K · s) := by
  unfold loadA at h
  split at h
  · rename_i id f
    split at h
    · rename_i e cs hb
      obtain ⟨r, hl, hk⟩ := optA_out h
      obtain ⟨v, hσ, hbr, _⟩ := hr.own id _ hb
      simp only [BlkRel] at hbr
      obtain ⟨k, us, rfl, hheap, hrel⟩ := hbr
      simp only [Rel] at hx
      obtain ⟨k', hσ', rfl⟩ := hx
      rw [hσ] at hσ'
      simp only [Option.some.injEq, Value.pointer.injEq, Addr.mk.injEq, true_and, and_true] at hσ'
      subst hσ'
      obtain ⟨v, hv, hrv⟩ := run_loadVar_of (P := P) (ad := ⟨k, 0, none⟩) rfl hrel hl
      refine ⟨v, r, fun W' hg => ?_, hk, hrv⟩
      have := hv W' fun j u hj => by
        rw [add_none, Nat.zero_add, cell_of_row W' k j _ _ _ (hg _ _ hheap)]
        simpa using hj
      rw [add_none, Nat.zero_add] at this
      simpa [Instr.loadAt, Instr.sureAddr] using this
    · exact h.elim
  · rename_i cs
    obtain ⟨r, hl, hk⟩ := optA_out h
    simp only [Rel] at hx
    obtain ⟨ad, rfl, hsp, hcs⟩ := hx
    obtain ⟨us, hrel, hcells⟩ := relCs_out cs 0 hcs
    obtain ⟨v, hv, hrv⟩ := run_loadVar_of (P := P) hsp hrel hl
    refine ⟨v, r, fun W' hg => ?_, hk, Rel.mono (ImLe.refl _) (sg0_le σ) _ _ hrv⟩
    have := hv W' fun j u hj => by
      have h1 := icell_mono (hpAll_grow hg) (icell_mono (hpAll_le hr) (hcells j u hj))
      rw [Nat.zero_add] at h1
      exact h1
    have hz : ad.add 0 = ad := by
      obtain ⟨b, o, sp⟩ := ad
      simp only at hsp
      subst hsp
      rw [add_none]
      rfl
    rw [hz] at this
    simpa [Instr.loadAt, Instr.sureAddr] using this
  · rename_i id sz i f
    split at h
    · rename_i e sz' xs hb
      obtain ⟨rfl, h⟩ := h
      obtain ⟨cs, hc, h⟩ := exSh_out h
      obtain ⟨r, hl, hk⟩ := optA_out h
      obtain ⟨hpos, hlen, v, us, hσ, ho, hrel⟩ := blk_row (n := 0) hr hb
      simp only [Rel] at hx
      obtain ⟨k, n, c, hσ', hi, rfl⟩ := hx
      rw [hσ] at hσ'
      simp only [Option.some.injEq] at hσ'
      obtain ⟨rfl, hcap, hcells⟩ := row_cells ho hσ'
      have hrel' : RelL hp sg0 cs ((us.drop (i * sz')).take sz') := by
        rw [← flat_get hlen hc]
        exact (hrel.drop _).take _
      obtain ⟨v, hv, hrv⟩ := run_loadVar_of (P := P) (ad := ⟨k, i * sz', none⟩) rfl hrel' hl
      refine ⟨v, r, fun W' hg => ?_, hk, Rel.mono (ImLe.refl _) (sg0_le σ) _ _ hrv⟩
      have := hv W' fun j u hj => by
        have hj' : j < sz' := by
          rcases Nat.lt_or_ge j sz' with h' | h'
          · exact h'
          · have := hrel'.length
            have := (hlen cs (List.mem_of_getElem? hc))
            rw [List.getElem?_eq_none (by omega)] at hj
            simp at hj
        rw [List.getElem?_take_of_lt hj', List.getElem?_drop] at hj
        have h1 := hcells _ u hj
        rw [add_none]
        exact icell_mono (hp := hpAll W) (hpAll_grow hg) h1
      rw [add_none] at this
      simpa [Instr.loadAt, Instr.sureAddr] using this
    · exact h.elim
  · exact h.elim
/-! ### Conversions -/
theorem convA_sound {src dst : TypeId} {x : AV} {u : Value} {K : AV → Prop} (hx : Rel (hpAll W) σ x u) (h : convA P src dst x K) : Reads P hp σ W (convert src dst u) K := by
  unfold convA at h
  split at h
  · rename_i k n
    split at h
    · rename_i k1 k2 h1 h2
      simp only [Rel] at hx
      subst hx
      exact ⟨.int k2 (k2.wrap n), _, fun W' _ => by simp [convert, run_underlying h1, run_underlying h2, Conv.intToInt], h, by simp [Rel]⟩
    · exact h.elim
  · rename_i s
    split at h
    · rename_i h1 h2
      simp only [Rel] at hx
      subst hx
      exact ⟨.string s, _, fun W' _ => by simp [convert, run_underlying h1, run_underlying h2], h, by simp [Rel]⟩
    · exact h.elim
  · rename_i sz xs
    split at h
    · rename_i e h1 h2
      split at h
      · rename_i h3
        obtain ⟨s, rfl, hk⟩ := h
        simp only [Rel] at hx
        obtain ⟨A, cap, rfl, hcap, hA⟩ := hx
        refine ⟨.string s, _, fun W' hg => ?_, hk, by simp [Rel]⟩
        by_cases hne : s.data.toList = []
        · have hs : s = ⟨#[]⟩ := by
            obtain ⟨d⟩ := s
            simp at hne
            rw [hne]
          subst hs
          cases A with
          | none =>
            rw [run_convert_bytes_string W' src dst e none _ cap h1 h3 h2]
            rfl
          | some ad => exact run_convert_bytes_back W' src dst e ad cap [] h1 h3 h2 (by simp)
        · obtain ⟨ad, rfl, hsp, hrow⟩ := hA (by simpa using hne)
          have hcell : ∀ j (hj : j < s.data.toList.length), W'.cell? (ad.add j) = some (.int .u8 ((s.data.toList[j]).toNat : Int)) := fun j hj => by
            have hget : (s.data.toList.map (fun b => [AV.v (.int .u8 (b.toNat : Int))]))[j]? = some [AV.v (.int .u8 ((s.data.toList[j]).toNat : Int))] := by
              rw [List.getElem?_map, List.getElem?_eq_getElem hj]
              rfl
            obtain ⟨hl1, hcs⟩ := RelRow.get j 0 _ hrow hget
            simp only [List.length_cons, List.length_nil] at hl1
            subst hl1
            simp only [RelCs, Rel] at hcs
            obtain ⟨⟨u, hu, rfl, _⟩, _⟩ := hcs
            have h4 := icell_mono (hpAll_grow hg) hu
            simp only [Nat.zero_add, Nat.mul_one] at h4
            exact h4
          have := run_convert_bytes_back W' src dst e ad cap s.data.toList h1 h3 h2 hcell
          simpa using this
      · exact h.elim
    · exact h.elim
  · exact h.elim
theorem opF1_sound {C : Cfg} {call : Callee} {o : Oper} {s : St} {a : Act} {K : AV → St → Prop} (hf : isF1 o = true) (hr : HeapRel hp σ s.H W) (hg : ∀ x, Rel hp σ (s.get x) (a.eval x)) (h : opA C call o s K) :
    ∃ v r, (∀ W', Grow W W' → (execOp a.eval o).run C.P W' = .ok (.value v) W') ∧ K r s ∧ Rel hp σ r v := by
  obtain ⟨dst, op, ty, pos, af, g⟩ := o
  cases op
  case load t x =>
    obtain ⟨v, r, h1, h2, h3⟩ := loadA_sound (P := C.P) hr (hg x) h
    exact ⟨v, r, fun W' hw => run_vOf (h1 W' hw), h2, h3⟩
  case convert src dst x =>
    obtain ⟨v, r, h1, h2, h3⟩ := convA_sound (P := C.P) (hp := hp) (σ := σ) (src := src) (dst := dst) (K := (K · s)) (borrow_rel hr (hg x)) h
    exact ⟨v, r, fun W' hw => run_vOf (h1 W' hw), h2, h3⟩
  all_goals simp [isF1] at hf
end
end Go.Ai

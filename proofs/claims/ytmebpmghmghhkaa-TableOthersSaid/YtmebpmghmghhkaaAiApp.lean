/- append, and a slice written out. -/
import Derived.Lib.AppendStr
import Derived.IntWalk
import Derived.Test.YtmebpmghmghhkaaAiMem
set_option linter.unusedVariables false
set_option linter.unusedSimpArgs false
namespace Go.Ai
section
variable {P : Program} {hp hp' : Im} {σ σ' : Sg} {H : Hp} {W W' : World}
theorem relRow_out {hp : Im} {ad : Addr} {sz : Nat} : ∀ (xs : List (List AV)) (k : Nat), RelRow hp ad k sz xs → (∀ x ∈ xs, x.length = sz) ∧ ∃ us : List Value, RelL hp sg0 xs.flatten us ∧ ∀ j u, us[j]? = some u → icell hp (ad.add (k + j)) = some u
  | [], k, _ => ⟨by simp, [], by simp [RelL], by simp⟩
  | x :: xs, k, h => by
    simp only [RelRow] at h
    obtain ⟨h1, h2, h3⟩ := h
    obtain ⟨us, h4, h5⟩ := relCs_out x k h2
    obtain ⟨h6, vs, h7, h8⟩ := relRow_out xs (k + sz) h3
    refine ⟨fun y hy => ?_, us ++ vs, ?_, fun j u hj => ?_⟩
    · rcases List.mem_cons.1 hy with rfl | hy
      · exact h1
      · exact h6 y hy
    · rw [List.flatten_cons]
      exact h4.app h7
    · have hl := h4.length
      rcases Nat.lt_or_ge j us.length with h' | h'
      · rw [List.getElem?_append_left h'] at hj
        exact h5 j u hj
      · rw [List.getElem?_append_right h'] at hj
        have := h8 _ u hj
        have he : k + sz + (j - us.length) = k + j := by omega
        rw [he] at this
        exact this
theorem flat_drop {sz : Nat} : ∀ {n : Nat} {xs : List (List AV)}, (∀ x ∈ xs, x.length = sz) → (xs.drop n).flatten = xs.flatten.drop (n * sz)
  | 0, xs, _ => by simp
  | n + 1, [], _ => by simp
  | n + 1, x :: xs, h => by
    have hx := h x (by simp)
    have he : (n + 1) * sz = x.length + n * sz := by rw [Nat.add_mul, hx]; omega
    rw [List.drop_succ_cons, flat_drop (fun y hy => h y (by simp [hy])), List.flatten_cons, he, List.drop_length_add_append]
theorem flat_take {sz : Nat} : ∀ {n : Nat} {xs : List (List AV)}, (∀ x ∈ xs, x.length = sz) → (xs.take n).flatten = xs.flatten.take (n * sz)
  | 0, xs, _ => by simp
  | n + 1, [], _ => by simp
  | n + 1, x :: xs, h => by
    have hx := h x (by simp)
    have he : (n + 1) * sz = x.length + n * sz := by rw [Nat.add_mul, hx]; omega
    rw [List.take_succ_cons, List.flatten_cons, flat_take (fun y hy => h y (by simp [hy])), List.flatten_cons, he, List.take_length_add_append]
theorem elems_main {id sz off len : Nat} {w : Value} {t : TypeId} {xs ys : List (List AV)} {us : List Value} (hrow : Rowish hp σ W id sz t xs us) (hy : Rel hp σ (.row id sz off len) w) (hle : ∀ k n c, σ id = some (.slice (some ⟨k, 0, none⟩) n c) → off + len ≤ n → off + len ≤ xs.length) (h : (xs.drop off).take len = ys) :
    ∃ A c, w = .slice A ys.length c ∧ (∀ x ∈ ys, x.length = sz) ∧ ∃ us, RelL hp sg0 ys.flatten us ∧ (ys ≠ [] → ∃ ad, A = some ad ∧ ∀ j u, us[j]? = some u → W.cell? (ad.add j) = some u) := by
  obtain ⟨hpos, hlen, hrel, hat⟩ := hrow
  subst h
  have hl' : ∀ x ∈ (xs.drop off).take len, x.length = sz := fun x hx => hlen x (List.mem_of_mem_drop (List.mem_of_mem_take hx))
  simp only [Rel] at hy
  rcases hy with ⟨k, n, c, hσ', hle0, ⟨A, c', rfl, hc'⟩, hA⟩ | ⟨hσ', rfl, rfl, A, rfl⟩
  · obtain ⟨hnx, hcap, _, hcells, _⟩ := hat k n c hσ'
    have hle := hle k n c hσ' hle0
    have hln : ((xs.drop off).take len).length = len := by simp; omega
    refine ⟨A, c', by rw [hln], hl', (us.drop (off * sz)).take (len * sz), ?_, fun hne => ?_⟩
    · rw [flat_take (fun x hx => hlen x (List.mem_of_mem_drop hx)), flat_drop hlen]
      exact (hrel.drop _).take _
    · have hpos' : 0 < len := by
        rcases Nat.eq_zero_or_pos len with h0 | h0
        · subst h0; simp at hne
        · exact h0
      have hy := hA (.inr hpos')
      simp only [Value.slice.injEq] at hy
      obtain ⟨rfl, _, rfl⟩ := hy
      refine ⟨_, rfl, fun j u hj => ?_⟩
      rw [add_none]
      apply hcells
      rcases Nat.lt_or_ge j (len * sz) with h' | h'
      · rw [List.getElem?_take_of_lt h', List.getElem?_drop] at hj
        exact hj
      · rw [List.getElem?_eq_none (by simp; omega)] at hj
        simp at hj
  · exact ⟨A, 0, by simp, by simp, [], by simp [RelL], by simp⟩
/-- The first elements of a slice. -/
theorem firstE_sound {sz n : Nat} {y : AV} {w : Value} {ys : List (List AV)} (hr : HeapRel hp σ H W) (hy : Rel hp σ y w) (hn : n ≤ sliceLen y) (h : firstE H sz n y = some ys) :
    ∃ A c, w = .slice A (sliceLen y) c ∧ ys.length = n ∧ (∀ x ∈ ys, x.length = sz) ∧ ∃ us, RelL hp sg0 ys.flatten us ∧ (ys ≠ [] → ∃ ad, A = some ad ∧ ∀ j u, us[j]? = some u → W.cell? (ad.add j) = some u) := by
  -- the slice cut at n
  have cut : ∀ {id sz off len : Nat}, n ≤ len → Rel hp σ (.row id sz off len) w → ∃ A c, w = .slice A len c ∧ Rel hp σ (.row id sz off n) (.slice A n c) := fun {id sz off len} hle hy => by
    simp only [Rel] at hy
    rcases hy with ⟨k, m, c, h1, h2, ⟨A, c', rfl, h3⟩, h4⟩ | ⟨h1, rfl, rfl, A, rfl⟩
    · refine ⟨A, c', rfl, ?_⟩
      simp only [Rel]
      refine .inl ⟨k, m, c, h1, by omega, ⟨A, c', rfl, by omega⟩, fun h => ?_⟩
      have := h4 (h.imp_right fun h => by omega)
      simp only [Value.slice.injEq] at this ⊢
      exact ⟨this.1, trivial, this.2.2⟩
    · have h0 : n = 0 := by omega
      subst h0
      refine ⟨A, 0, rfl, ?_⟩
      simp only [Rel]
      exact .inr ⟨h1, trivial, trivial, A, rfl⟩
  unfold firstE at h
  split at h
  · rename_i sz' l
    split at h
    · rename_i hs
      subst hs
      simp only [Option.some.injEq] at h
      subst h
      simp only [sliceLen] at hn ⊢
      simp only [Rel] at hy
      obtain ⟨A, cap, rfl, hcap, hA⟩ := hy
      refine ⟨A, cap, rfl, by simp; omega, ?_⟩
      by_cases hne : l = []
      · subst hne
        exact ⟨by simp, [], by simp [RelL], by simp⟩
      · obtain ⟨ad, rfl, hsp, hrow⟩ := hA hne
        obtain ⟨h1, us, h2, h3⟩ := relRow_out l 0 hrow
        refine ⟨fun x hx => h1 x (List.mem_of_mem_take hx), us.take (n * sz), ?_, fun _ => ⟨ad, rfl, fun j u hj => ?_⟩⟩
        · rw [flat_take h1]
          exact h2.take _
        · rcases Nat.lt_or_ge j (n * sz) with h' | h'
          · rw [List.getElem?_take_of_lt h'] at hj
            have := icell_mono (hpAll_le hr) (h3 j u hj)
            rw [Nat.zero_add] at this
            exact this
          · rw [List.getElem?_eq_none (by simp; omega)] at hj
            simp at hj
    · simp at h
  · simp only [Option.some.injEq] at h
    subst h
    simp only [Rel] at hy
    subst hy
    simp only [sliceLen] at hn ⊢
    exact ⟨none, 0, rfl, by simp; omega, by simp, [], by simp [RelL], by simp⟩
  · simp only [Option.some.injEq] at h
    subst h
    simp only [Rel] at hy
    obtain ⟨A, rfl⟩ := hy
    simp only [sliceLen] at hn ⊢
    exact ⟨A, 0, rfl, by simp; omega, by simp, [], by simp [RelL], by simp⟩
  · rename_i id sz' off len
    simp only [sliceLen] at hn ⊢
    split at h
    · rename_i t sz2 xs hb
      split at h
      · rename_i hs
        obtain ⟨rfl, rfl⟩ := hs
        obtain ⟨us, hrow, hnn⟩ := rowish_row hr hb
        obtain ⟨A, c, rfl, hcut⟩ := cut hn hy
        obtain ⟨A', c', he, h1, h2⟩ := elems_main (ys := ys) hrow hcut (fun k m c h1 h2 => by have := hnn k m c h1; omega) (by simpa using h)
        simp only [Value.slice.injEq] at he
        obtain ⟨rfl, hl, rfl⟩ := he
        exact ⟨A, c, rfl, hl.symm, h1, h2⟩
      · simp at h
    · rename_i t sz2 c0 xs hb
      split at h
      · rename_i hs
        obtain ⟨rfl, rfl, hle⟩ := hs
        obtain ⟨us, hrow, _⟩ := rowish_rowc hr hb
        obtain ⟨A, c, rfl, hcut⟩ := cut hn hy
        obtain ⟨A', c', he, h1, h2⟩ := elems_main (ys := ys) hrow hcut (fun _ _ _ _ _ => hle) (by simpa using h)
        simp only [Value.slice.injEq] at he
        obtain ⟨rfl, hl, rfl⟩ := he
        exact ⟨A, c, rfl, hl.symm, h1, h2⟩
      · simp at h
    · simp at h
  · simp at h
theorem elems_sound {sz : Nat} {y : AV} {w : Value} {ys : List (List AV)} (hr : HeapRel hp σ H W) (hy : Rel hp σ y w) (h : elems H sz y = some ys) :
    ∃ A c, w = .slice A ys.length c ∧ (∀ x ∈ ys, x.length = sz) ∧ ∃ us, RelL hp sg0 ys.flatten us ∧ (ys ≠ [] → ∃ ad, A = some ad ∧ ∀ j u, us[j]? = some u → W.cell? (ad.add j) = some u) := by
  unfold elems at h
  split at h
  · rename_i sz' l
    split at h
    · rename_i hs
      subst hs
      simp only [Option.some.injEq] at h
      subst h
      simp only [Rel] at hy
      obtain ⟨A, cap, rfl, hcap, hA⟩ := hy
      by_cases hn : l = []
      · subst hn
        exact ⟨A, cap, rfl, by simp, [], by simp [RelL], by simp⟩
      · obtain ⟨ad, rfl, hsp, hrow⟩ := hA hn
        obtain ⟨h1, us, h2, h3⟩ := relRow_out l 0 hrow
        refine ⟨some ad, cap, rfl, h1, us, h2, fun _ => ⟨ad, rfl, fun j u hj => ?_⟩⟩
        have := icell_mono (hpAll_le hr) (h3 j u hj)
        rw [Nat.zero_add] at this
        exact this
    · simp at h
  · simp only [Option.some.injEq] at h
    subst h
    simp only [Rel] at hy
    subst hy
    exact ⟨none, 0, rfl, by simp, [], by simp [RelL], by simp⟩
  · simp only [Option.some.injEq] at h
    subst h
    simp only [Rel] at hy
    obtain ⟨A, rfl⟩ := hy
    exact ⟨A, 0, rfl, by simp, [], by simp [RelL], by simp⟩
  · rename_i id sz' off len
    split at h
    · rename_i t sz2 xs hb
      split at h
      · rename_i hs
        obtain ⟨rfl, rfl⟩ := hs
        obtain ⟨us, hrow, hn⟩ := rowish_row hr hb
        refine elems_main hrow hy (fun k n c h1 h2 => by have := hn k n c h1; omega) (by simpa using h)
      · simp at h
    · rename_i t sz2 c0 xs hb
      split at h
      · rename_i hs
        obtain ⟨rfl, rfl, hle⟩ := hs
        obtain ⟨us, hrow, _⟩ := rowish_rowc hr hb
        refine elems_main hrow hy (fun _ _ _ _ _ => hle) (by simpa using h)
      · simp at h
    · simp at h
  · simp at h

/-- Nothing is appended. -/
theorem run_append_none {t ty e : TypeId} {B A : Option Addr} {n cap c sz : Nat} (hu : P.underlying t = some (.slice e)) (hs : szO P e = some sz) (h : n ≤ cap) :
    (Builtin.append_ #[t, t] ty #[.slice B n cap, .slice A 0 c]).run P W = .ok (.slice B n cap) W := by
  cases A <;> cases B <;> simp [Builtin.append_, run_underlying hu, run_sizeOf hs, Builtin.lenOf, h, Builtin.firstCells, loadCells, loadCellsFrom, storeCells]
theorem app_of {e : TypeId} (h : appOk P e = true) : ∃ (i : TypeInfo) (z : Value) (us : List Value), P.info? e = some i ∧ i.zero = some z ∧ z.cells = us.toArray ∧ us.length = szOf P e ∧ i.size = szOf P e ∧ i.bytes = byOf P e ∧ 0 < szOf P e ∧ 0 < byOf P e := by
  unfold appOk at h
  split at h
  · rename_i zs hz
    obtain ⟨i, z, us, hi, hzz, hc, rfl, _⟩ := zero_of hz
    simp only [List.length_map, Bool.and_eq_true, beq_iff_eq, decide_eq_true_eq] at h
    exact ⟨i, z, us, hi, hzz, hc, h.1.1, by simp [szOf, hi], by simp [byOf, hi], h.1.2, h.2⟩
  · simp at h
/-- A fresh block takes what was nobody's. -/
theorem run_append_fresh {t ty e : TypeId} {B : Option Addr} {ad : Addr} {m c : Nat} {news : List Value} (hu : P.underlying t = some (.slice e)) (ha : appOk P e = true) (hl : news.length = m * szOf P e)
    (hnews : ∀ j u, news[j]? = some u → W.cell? (ad.add j) = some u) (hm : 0 < m) (hby : m * byOf P e ≤ 140737488355328) :
    ∃ cap cur, (Builtin.append_ #[t, t] ty #[.slice B 0 0, .slice (some ad) m c]).run P W = .ok (.slice (some ⟨W.heap.size, 0, none⟩) m cap) (W.drew.alloc (.cells cur e)) ∧ m ≤ cap ∧ cap ≤ maxLen ∧ cur.size = cap * szOf P e ∧ cur.toList.take (m * szOf P e) = news := by
  obtain ⟨i, z, us, hi, hz, hc, hlen, hsz, hb, hp1, hp2⟩ := app_of ha
  rw [← hsz] at hl ⊢
  rw [← hb] at hby hp2
  have h63 : m ≤ 140737488355328 := Nat.le_trans (Nat.le_mul_of_pos_right _ hp2) hby
  have hmax : m ≤ maxLen := by simp only [maxLen]; omega
  have hge := grownCap_ge W m 0 e
  have hcm := grownCap_le_maxLen W m 0 e hmax
  have hzs : z.cells.size = i.size := by rw [hc]; simp; omega
  refine ⟨grownCap W m 0 e, news.toArray ++ Builtin.zeroCells z.cells (grownCap W m 0 e - m), ?_, hge, hcm, ?_, ?_⟩
  · cases B with
    | none => exact run_append_nil W t ty e i z hu hi hz ad m c news hl hnews hm (by omega) (by omega)
    | some b =>
      have := run_append_grow (P := P) W t ty e i z hu hi hz b 0 0 [] (by simp) (by simp) ad m c news hl hnews (by omega) (by omega) (growslice_fits (by omega) (by simpa using hby))
      simpa using this
  · simp only [Array.size_append, List.size_toArray, size_zeroCells, hzs, hl, ← Nat.add_mul]
    congr 1
    omega
  · simp only [Array.toList_append, ← hl]
    exact List.take_left
theorem drew_heap (W : World) (o : Obj) : (W.drew.alloc o).heap = W.heap.push o := rfl
/-- A new row, and perhaps an old one gone. -/
theorem row_does {s : St} {H0 : Hp} {e : TypeId} {sz n cap : Nat} {xs : List (List AV)} {us : List Value} {cur : Array Value} {x : Result Next} {K : AV → St → Prop} {g : Bool} (hr : HeapRel hp σ s.H W) (hlen : H0.length = s.H.length)
    (hsub : ∀ i b, blk H0 i = some b → blk s.H i = some b) (hW : W'.heap = W.heap.push (.cells cur e)) (ht : W'.tape = W.tape) (ho : W'.os = W.os) (hout : W'.output = W.output) (hpos : 0 < sz) (hxs : ∀ x ∈ xs, x.length = sz)
    (hn : n = xs.length) (hcap : n ≤ cap) (hmax : cap ≤ maxLen) (hcur : cur.size = cap * sz) (htake : cur.toList.take (n * sz) = us) (hrel : RelL hp sg0 xs.flatten us)
    (hx : x = .ok (.value (.slice (some ⟨W.heap.size, 0, none⟩) n cap)) W') (h : K (.row s.H.length sz 0 n) ⟨s.t, H0 ++ [some (.row e sz xs)]⟩) : Does hp σ W s g x K := by
  have hnone : hp W.heap.size = none := by
    cases hh : hp W.heap.size with
    | none => rfl
    | some o =>
      have := (Array.getElem?_eq_some_iff.1 (hr.im _ _ hh)).1
      omega
  have hold : ∀ k, k < W.heap.size → W'.heap[k]? = W.heap[k]? := fun k hk => by
    rw [hW, Array.getElem?_push_lt hk, Array.getElem?_eq_getElem hk]
  have hnew : W'.heap[W.heap.size]? = some (.cells cur e (0, 0)) := by rw [hW]; simp
  have hul : us.length = n * sz := by
    have := hrel.length
    rw [flat_len hxs] at this
    rw [← this, hn]
  refine ⟨_, _, _, _, hp, upd σ s.H.length (.slice (some ⟨W.heap.size, 0, none⟩) n cap), .inl hx, h, rfl, ?_, ?_, upd_le hr.dom _, ?_, fun _ k o hk => ?_⟩
  · refine hr.step hlen hsub (by rw [hW]; simp) (fun j o' hj => hold j (Array.getElem?_eq_some_iff.1 (hr.im _ _ hj)).1) (fun i c w j hc hw hj => ?_) (fun k hk => ?_) ?_
    · have hlt := hr.lt i w j hw hj
      refine ⟨hold j hlt, fun hc' => ?_⟩
      simp only [bn, Option.some.injEq] at hc'
      omega
    · simp only [bn, Option.some.injEq] at hk
      subst hk
      exact ⟨by rw [hW]; simp, hnone⟩
    · simp only [BlkRel]
      refine ⟨hpos, hxs, us, ⟨by rw [hul, hn], .inr ⟨_, cap, cur, by rw [hn], Nat.zero_le _, hnew, by omega, hmax, hcur, by rw [← hn]; exact htake⟩⟩, hrel⟩
  · refine Ev.step (by rw [hW]; simp) ht ho hout (fun k hk _ => hold k hk) (fun k hk => ?_)
    simp only [bn, Option.some.injEq] at hk
    exact .inl (by omega)
  · simp only [Rel]
    refine .inl ⟨_, n, cap, upd_same _ _, by omega, ⟨_, _, rfl, hcap⟩, fun _ => by simp⟩
  · rw [hold k (Array.getElem?_eq_some_iff.1 hk).1]
    exact hk
/-- Nothing, kept as a row. -/
theorem rowNil_does {s : St} {H0 : Hp} {e : TypeId} {sz : Nat} {A : Option Addr} {x : Result Next} {K : AV → St → Prop} {g : Bool} (hr : HeapRel hp σ s.H W) (hlen : H0.length = s.H.length)
    (hsub : ∀ i b, blk H0 i = some b → blk s.H i = some b) (hpos : 0 < sz) (hx : x = .ok (.value (.slice A 0 0)) W) (h : K (.row s.H.length sz 0 0) ⟨s.t, H0 ++ [some (.row e sz [])]⟩) : Does hp σ W s g x K := by
  refine ⟨_, _, _, _, hp, upd σ s.H.length (.slice none 0 0), .inl hx, h, rfl, ?_, ?_, upd_le hr.dom _, ?_, fun _ k o hk => hk⟩
  · refine hr.step hlen hsub (Nat.le_refl _) (fun j o' hj => rfl) (fun i c w j hc hw hj => ⟨rfl, by simp [bn]⟩) (fun k hk => by simp [bn] at hk) ?_
    simp only [BlkRel]
    exact ⟨hpos, by simp, [], ⟨by simp, .inl ⟨rfl, rfl⟩⟩, by simp [RelL]⟩
  · exact Ev.step (Nat.le_refl _) rfl rfl rfl (fun k hk _ => rfl) (fun k hk => by simp [bn] at hk)
  · simp only [Rel]
    exact .inr ⟨upd_same _ _, trivial, trivial, A, rfl⟩
theorem sub_set {H : Hp} (id : Nat) : ∀ i b, blk (H.set id none) i = some b → blk H i = some b := fun i b h => by
  by_cases hi : i = id
  · subst hi
    have hlt := blk_lt h
    rw [blk_set_same _ (by simpa using hlt)] at h
    simp at h
  · rwa [blk_set_other _ hi] at h

theorem run_call_append {t tx ty : TypeId} {a : Act} {x y : Operand} {d : Option Tmp} {pos : String} {af : Array Edge} {g : Option (Nat × Bool)} :
    (execOp a.eval ⟨d, .call { callee := .builtin .append, args := #[x, y], argTypes := #[t, tx] }, ty, pos, af, g⟩) = (do pure (Next.value (← Builtin.append_ #[t, tx] ty #[a.eval x, a.eval y]))) := by
  simp only [execOp, resolve, List.map_toArray, List.map_cons, List.map_nil, invoke, builtin]
  rfl
/-- What append does with its second argument, be it a slice or a string. -/
structure App (P : Program) (W : World) (t tx ty e : TypeId) (w : Value) (n : Nat) (us : List Value) : Prop where
  nought : n = 0 → ∀ B m cap, m ≤ cap → (Builtin.append_ #[t, tx] ty #[.slice B m cap, w]).run P W = .ok (.slice B m cap) W
  fresh : 0 < n → n * byOf P e ≤ 140737488355328 → ∀ B, ∃ cap cur, (Builtin.append_ #[t, tx] ty #[.slice B 0 0, w]).run P W = .ok (.slice (some ⟨W.heap.size, 0, none⟩) n cap) (W.drew.alloc (.cells cur e)) ∧ n ≤ cap ∧ cap ≤ maxLen ∧ cur.size = cap * szOf P e ∧ cur.toList.take (n * szOf P e) = us
  room : 0 < n → ∀ k m cap (cur : Array Value), W.heap[k]? = some (.cells cur e (0, 0)) → m + n ≤ cap → m * szOf P e + us.length ≤ cur.size → (Builtin.append_ #[t, tx] ty #[.slice (some ⟨k, 0, none⟩) m cap, w]).run P W = .ok (.slice (some ⟨k, 0, none⟩) (m + n) cap) (W.setRow k (cur.toList.take (m * szOf P e) ++ us ++ cur.toList.drop (m * szOf P e + us.length)).toArray)
  grow : 0 < n → ∀ (i : TypeInfo) (z : Value), P.info? e = some i → i.zero = some z → ∀ k m cap (us0 : List Value), us0.length = m * szOf P e → (∀ j v, us0[j]? = some v → W.cell? (Addr.add ⟨k, 0, none⟩ j) = some v) → cap < m + n → ((m + n : Nat) : Int) ≤ 9223372036854775807 → Builtin.nextslicecap (m + n) cap * i.bytes ≤ 281474976710656 →
    (Builtin.append_ #[t, tx] ty #[.slice (some ⟨k, 0, none⟩) m cap, w]).run P W = .ok (.slice (some ⟨W.heap.size, 0, none⟩) (m + n) (grownCap W (m + n) cap e)) (W.drew.alloc (.cells (us0.toArray ++ us.toArray ++ Builtin.zeroCells z.cells (grownCap W (m + n) cap e - (m + n))) e))
theorem app_slice {t ty e : TypeId} {A : Option Addr} {n c : Nat} {us : List Value} (hu : P.underlying t = some (.slice e)) (ha : appOk P e = true) (hul : us.length = n * szOf P e) (hone : ∀ v ∈ us, v.oneCell' = true)
    (hA : 0 < n → ∃ ad, A = some ad ∧ ∀ j u, us[j]? = some u → W.cell? (ad.add j) = some u) : App P W t t ty e (.slice A n c) n us := by
  obtain ⟨i, z, zs, hi, hz, hc, hlen, hsz, hb, hp1, hp2⟩ := app_of ha
  have hs : szO P e = some (szOf P e) := szO_ne (by omega)
  constructor
  · rintro rfl B m cap hle
    exact run_append_none hu hs hle
  · intro hm hby B
    obtain ⟨ad, rfl, hcells⟩ := hA hm
    exact run_append_fresh (P := P) (W := W) (t := t) (ty := ty) (B := B) (c := c) hu ha hul hcells hm hby
  · intro hm k m cap cur hheap hroom hfit
    obtain ⟨ad, rfl, hcells⟩ := hA hm
    have hr2 := run_append_room (P := P) W t ty e i hu hi k m cap cur hheap ad n c us (by rw [hsz]; exact hul) hcells hone hroom (by rw [hsz]; exact hfit)
    rw [hsz] at hr2
    exact hr2
  · intro hm i' z' hi' hz' k m cap us0 hul0 hcells0 hg h63 hfit
    obtain ⟨ad, rfl, hcells⟩ := hA hm
    rw [hi] at hi'
    simp only [Option.some.injEq] at hi'
    subst hi'
    exact run_append_grow (P := P) W t ty e i z' hu hi hz' ⟨k, 0, none⟩ m cap us0 (by rw [hsz]; exact hul0) hcells0 ad n c us (by rw [hsz]; exact hul) hcells hg h63 hfit
theorem app_string {t tx ty e : TypeId} {b : ByteArray} (hu : P.underlying t = some (.slice e)) (htx : P.underlying tx = some .string) (ha : appOk P e = true) (h1 : szOf P e = 1) : App P W t tx ty e (.string b) b.size (Lib.strCells b) := by
  obtain ⟨i, z, zs, hi, hz, hc, hlen, hsz, hb, hp1, hp2⟩ := app_of ha
  have hs1 : i.size = 1 := by omega
  have hzs : z.cells.size = 1 := by rw [hc]; simp; omega
  constructor
  · intro h0 B m cap hle
    have hf := Lib.run_firstCells_string (P := P) W 1 b
    rw [h0] at hf
    have he : Lib.strCells b = [] := List.eq_nil_of_length_eq_zero (by rw [Lib.strCells_length]; exact h0)
    cases B <;> simp [Builtin.append_, run_underlying hu, run_underlying htx, sizeOf, typeInfo, hi, hs1, Builtin.lenOf, h0, hle, hf, he, storeCells]
  · intro hm hby B
    have h63 : b.size ≤ 140737488355328 := Nat.le_trans (Nat.le_mul_of_pos_right _ (by omega)) hby
    have hge := grownCap_ge W b.size 0 e
    have hcm := grownCap_le_maxLen W b.size 0 e (by simp only [maxLen]; omega)
    refine ⟨grownCap W b.size 0 e, (Lib.strCells b).toArray ++ Builtin.zeroCells z.cells (grownCap W b.size 0 e - b.size), ?_, hge, hcm, ?_, ?_⟩
    · cases B with
      | none =>
        have h := run_append_nil_string (P := P) W t tx ty e i z hu htx hi hz b hm (by omega) (by rw [← hb] at hby; omega)
        rw [h]
        congr 4
        apply Array.ext'
        simp [Lib.strCells]
      | some q =>
        have h := Lib.run_append_grow_string (P := P) W t tx ty e i z hu htx hi hz q 0 0 [] (by simp) (by simp) b (by omega) (by omega) (growslice_fits (by omega) (by rw [hb]; simpa using hby))
        simpa using h
    · simp only [Array.size_append, List.size_toArray, size_zeroCells, hzs, Lib.strCells_length, h1]
      omega
    · simp only [Array.toList_append]
      have : b.size * szOf P e = (Lib.strCells b).length := by rw [Lib.strCells_length, h1, Nat.mul_one]
      rw [this]
      exact List.take_left
  · intro hm k m cap cur hheap hroom hfit
    rw [h1, Nat.mul_one] at *
    rw [Lib.strCells_length] at *
    exact Lib.run_append_room_string (P := P) W t tx ty e i hu htx hi hs1 k m cap cur hheap b hroom hfit
  · intro hm i' z' hi' hz' k m cap us0 hul0 hcells0 hg h63 hfit
    rw [hi] at hi'
    simp only [Option.some.injEq] at hi'
    subst hi'
    exact Lib.run_append_grow_string (P := P) W t tx ty e i z' hu htx hi hz' ⟨k, 0, none⟩ m cap us0 (by rw [hsz]; exact hul0) hcells0 b hg h63 hfit
theorem zeros_list (us : List Value) (h : 0 < us.length) : ∀ n : Nat, (List.range (n * us.length)).map (fun k => us.toArray[k % us.toArray.size]!) = (List.replicate n us).flatten
  | 0 => by simp
  | n + 1 => by
    have he : (n + 1) * us.length = n * us.length + us.length := by rw [Nat.add_mul]; omega
    rw [he, List.range_add, List.map_append, zeros_list us h n, List.replicate_succ', List.flatten_append]
    congr 1
    simp only [List.map_map, List.flatten_cons, List.flatten_nil, List.append_nil]
    apply List.ext_getElem
    · simp
    · intro j h1 h2
      simp only [List.getElem_map, List.getElem_range, Function.comp, List.size_toArray]
      have : (n * us.length + j) % us.length = j := by
        rw [Nat.add_comm, Nat.add_mul_mod_self_right]
        exact Nat.mod_eq_of_lt h2
      rw [this]
      simp [h2]
/-- Elements that are nothing. -/
theorem zerosA_of {e : TypeId} {n : Nat} {ys : List (List AV)} (h : zerosA P e n = some ys) : ∃ (i : TypeInfo) (z : Value) (zs : List Value), P.info? e = some i ∧ i.zero = some z ∧ z.cells = zs.toArray ∧ zs.length = szOf P e ∧ ys.length = n ∧ (∀ y ∈ ys, y.length = szOf P e) ∧ ∀ hp, RelL hp sg0 ys.flatten (List.replicate n zs).flatten := by
  unfold zerosA at h
  obtain ⟨zc, hz, h⟩ := Option.bind_eq_some_iff.1 h
  split at h
  · rename_i hl
    obtain ⟨z', hn, rfl⟩ := Option.map_eq_some_iff.1 h
    obtain ⟨i, z, us, hi, hzz, hc, rfl, hrel⟩ := zero_of hz
    simp only [List.length_map] at hl
    have hlen : ∀ {sh : List Sh} {cs cs' : List AV}, normL sh cs = some cs' → cs'.length = cs.length := by
      intro sh
      induction sh with
      | nil => intro cs cs' h; cases cs <;> simp [normL] at h; subst h; rfl
      | cons s sh ih =>
        intro cs cs' h
        cases cs with
        | nil => simp [normL] at h
        | cons c cs =>
          simp only [normL] at h
          obtain ⟨c1, _, h⟩ := Option.bind_eq_some_iff.1 h
          obtain ⟨cs1, h2, rfl⟩ := Option.map_eq_some_iff.1 h
          simp [ih h2]
    have hl' := hlen hn
    simp only [List.length_map] at hl'
    refine ⟨i, z, us, hi, hzz, hc, hl, by simp, fun y hy => by rw [List.eq_of_mem_replicate hy]; omega, fun hp => ?_⟩
    have hrel0 : RelL hp sg0 z' us := normL_sound hn (hrel hp sg0)
    have key : ∀ n : Nat, RelL hp sg0 (List.replicate n z').flatten (List.replicate n us).flatten := fun n => by
      induction n with
      | zero => simp [RelL]
      | succ n ih =>
        rw [List.replicate_succ, List.replicate_succ, List.flatten_cons, List.flatten_cons]
        exact hrel0.app ih
    exact key n
  · simp at h
theorem zeros_listI (us : List Value) (h : 0 < us.length) : ∀ n : Nat, (Builtin.zeroCells us.toArray n) = (List.replicate n us).flatten.toArray := fun n => by
  apply Array.ext'
  unfold Builtin.zeroCells
  rw [Array.toList_map, Array.toList_range]
  have := zeros_list us h n
  simpa using this
theorem app_zeros {t tx ty e : TypeId} {n : Int} {zs : List Value} {i : TypeInfo} {z : Value} (hu : P.underlying t = some (.slice e)) (htx : P.underlying tx = some (.int .i64)) (ha : appOk P e = true) (hi : P.info? e = some i) (hz : i.zero = some z) (hzc : z.cells = zs.toArray) (hzl : zs.length = szOf P e) (h0 : 0 ≤ n) (hby : n * (byOf P e : Int) ≤ 140737488355328) :
    App P W t tx ty e (.int .i64 n) n.toNat (List.replicate n.toNat zs).flatten := by
  obtain ⟨i', z', zs', hi', hz', hc', hlen, hsz, hb, hp1, hp2⟩ := app_of ha
  rw [hi] at hi'
  simp only [Option.some.injEq] at hi'
  subst hi'
  rw [hz] at hz'
  simp only [Option.some.injEq] at hz'
  subst hz'
  have hone : ∀ v ∈ zs, v.oneCell' = true := by
    obtain ⟨k, rfl⟩ : ∃ k : Nat, n = k := ⟨n.toNat, by omega⟩
    have hzz : zeroC P e = some (zs.map .v) := by
      unfold appOk at ha
      split at ha
      · rename_i zl hzl
        obtain ⟨i2, z2, us2, h1, h2, h3, rfl, _⟩ := zero_of hzl
        rw [hi] at h1
        simp only [Option.some.injEq] at h1
        subst h1
        rw [hz] at h2
        simp only [Option.some.injEq] at h2
        subst h2
        rw [hzc] at h3
        have : zs = us2 := by simpa using congrArg Array.toList h3
        rw [this]
        exact hzl
      · simp at ha
    obtain ⟨i2, z2, us2, h1, h2, h3, h4, h5⟩ := zero_of hzz
    have : zs = us2 := by
      have hm := h4
      have hinj : Function.Injective AV.v := fun a b h => by injection h
      exact (List.map_inj_right (fun a b h => hinj h)).1 hm
    rw [this]
    exact (h5 (fun _ => none) sg0).one
  obtain ⟨k, rfl⟩ : ∃ k : Nat, n = k := ⟨n.toNat, by omega⟩
  simp only [Int.toNat_natCast]
  have hbyI : ((k * byOf P e : Nat) : Int) ≤ 140737488355328 := by
    rw [Int.natCast_mul]
    exact hby
  have hby' : k * byOf P e ≤ 140737488355328 := by omega
  have hk : k ≤ 140737488355328 := Nat.le_trans (Nat.le_mul_of_pos_right _ hp2) hby'
  have hw : IntKind.i64.wrap (k : Int) = k := IntWalk.i64_in _ ⟨by omega, by omega⟩
  have hz1 : Builtin.zeroCells z.cells k = (List.replicate k zs).flatten.toArray := by rw [hzc]; exact zeros_listI zs (by omega) k
  have hnl : ¬ ((k : Int) < 0) := by omega
  have hm48 : ¬ (281474976710656 < (k : Int) * (i.bytes : Int)) := by
    rw [hb, ← Int.natCast_mul]
    omega
  have hfl : (List.replicate k zs).flatten.length = k * szOf P e := by simp [hzl]
  have hsz1 : zs.length = i.size := by omega
  constructor
  · rintro rfl B m cap hle
    have hw0 : IntKind.i64.wrap 0 = 0 := IntWalk.i64_in _ ⟨by omega, by omega⟩
    cases B <;> simp [Builtin.append_, run_underlying hu, run_underlying htx, hw0, sizeOf, typeInfo, hi, asInt, asIntOf, Builtin.lenOf, hle, hw, storeCells]
  · intro hm hby2 B
    have hge := grownCap_ge W k 0 e
    have hcm := grownCap_le_maxLen W k 0 e (by simp only [maxLen]; omega)
    have hfit := growslice_fits (old := 0) (need := k) (bytes := i.bytes) (by omega) (by rw [hb]; exact hby')
    have h48' : ¬ (281474976710656 < Builtin.nextslicecap k 0 * i.bytes) := by omega
    have hks : ¬ (k * i.size = 0) := by
      rw [hsz]
      exact Nat.ne_of_gt (Nat.mul_pos hm hp1)
    have hzs : z.cells.size = i.size := by rw [hzc]; simp; omega
    refine ⟨grownCap W k 0 e, (List.replicate k zs).flatten.toArray ++ Builtin.zeroCells z.cells (grownCap W k 0 e - k), ?_, hge, hcm, ?_, ?_⟩
    · have hn : ¬ (k ≤ 0) := by omega
      have hk0 : ¬ (k = 0) := by omega
      have h63' : ¬ (9223372036854775807 < (k : Int)) := by omega
      have hl0 : ∀ a : Addr, (loadCells a 0).run P W.drew = .ok #[] W.drew := fun a => run_loadCells_list (P := P) W.drew a [] (by simp)
      cases B with
      | none => simp [Builtin.append_, run_underlying hu, run_underlying htx, sizeOf, typeInfo, zeroValue, hi, hz, asInt, asIntOf, hw, hnl, hm48, hn, h63', h48', Question.forced, hks, hk0, hz1, newRow, grownCap, Builtin.firstCells]
      | some b => simp [Builtin.append_, run_underlying hu, run_underlying htx, sizeOf, typeInfo, zeroValue, hi, hz, asInt, asIntOf, hw, hnl, hm48, hn, h63', h48', Question.forced, hks, hk0, hz1, newRow, grownCap, Builtin.firstCells, hl0]
    · simp only [Array.size_append, List.size_toArray, size_zeroCells, hzs, hfl, hsz, ← Nat.add_mul]
      congr 1
      omega
    · simp only [Array.toList_append, ← hfl]
      exact List.take_left
  · intro hm l m cap cur hheap hroom hfit
    have hst := run_storeCells_at P l (m * i.size) e (List.replicate k zs).flatten 0 cur W hheap (by rw [hsz]; omega) (fun v hv => by
      obtain ⟨y, hy, hv⟩ := List.mem_flatten.1 hv
      rw [List.eq_of_mem_replicate hy] at hv
      exact hone v hv)
    have hks : ¬ (k * i.size = 0) := by
      rw [hsz]
      exact Nat.ne_of_gt (Nat.mul_pos hm hp1)
    simp only [Nat.add_zero, hsz] at hst
    have hk0 : ¬ (k = 0) := by omega
    have hs0 : ¬ (szOf P e = 0) := by omega
    simp [hk0, hs0, Builtin.append_, run_underlying hu, run_underlying htx, sizeOf, typeInfo, zeroValue, hi, hz, asInt, asIntOf, hw, hnl, hm48, hks, hz1, hroom, hsz, Addr.add_lit, hst]
    intro hh
    rw [hsz] at hks
    exact absurd hh hks
  · intro hm i2 z2 hi2 hz2 l m cap us0 hul0 hcells0 hg h63 hfit
    rw [hi] at hi2
    simp only [Option.some.injEq] at hi2
    subst hi2
    rw [hz] at hz2
    simp only [Option.some.injEq] at hz2
    subst hz2
    have hks : ¬ (k * i.size = 0) := by
      rw [hsz]
      exact Nat.ne_of_gt (Nat.mul_pos hm hp1)
    have hk0 : ¬ (k = 0) := by omega
    have hs0 : ¬ (i.size = 0) := by omega
    have hn : ¬ (m + k ≤ cap) := by omega
    have h63' : ¬ (9223372036854775807 < ((m : Int) + (k : Int))) := by omega
    have h48' : ¬ (281474976710656 < Builtin.nextslicecap (m + k) cap * i.bytes) := by omega
    have hfo := run_firstCells_some (P := P) W.drew i.size m ⟨l, 0, none⟩ m cap us0 (by rw [hsz]; exact hul0) (by simpa using hcells0)
    simp [hk0, hs0, Builtin.append_, run_underlying hu, run_underlying htx, sizeOf, typeInfo, zeroValue, hi, hz, asInt, asIntOf, hw, hnl, hm48, hn, h63', h48', Question.forced, hks, hz1, hfo, newRow, grownCap]
    congr 2
    apply Array.ext'
    simp [List.append_assoc]
theorem bytesA_rel (hp : Im) (b : ByteArray) : RelL hp sg0 (bytesA b).flatten (Lib.strCells b) := by
  unfold bytesA Lib.strCells
  induction b.data.toList with
  | nil => simp [RelL]
  | cons x l ih => simpa [RelL, Rel, Value.oneCell'] using ih
theorem put_len {xs ys : List (List AV)} {o : Nat} (ho : o ≤ xs.length) : (putRow xs o ys).length = max xs.length (o + ys.length) := by
  unfold putRow
  simp
  omega
theorem put_facts {hp : Im} {sz o : Nat} {xs ys : List (List AV)} {us us' : List Value} (hlx : ∀ x ∈ xs, x.length = sz) (hys : ∀ y ∈ ys, y.length = sz) (hrel0 : RelL hp sg0 xs.flatten us) (hrel : RelL hp sg0 ys.flatten us') (ho : o ≤ xs.length) :
    (∀ x ∈ putRow xs o ys, x.length = sz) ∧ RelL hp sg0 (putRow xs o ys).flatten (us.take (o * sz) ++ us' ++ us.drop (o * sz + us'.length)) ∧ True := by
  have hul : us'.length = ys.length * sz := by rw [← hrel.length, flat_len hys]
  refine ⟨fun x hx => ?_, ?_, trivial⟩
  · unfold putRow at hx
    rcases List.mem_append.1 hx with hx | hx
    · rcases List.mem_append.1 hx with hx | hx
      · exact hlx x (List.mem_of_mem_take hx)
      · exact hys x hx
    · exact hlx x (List.mem_of_mem_drop hx)
  · unfold putRow
    rw [List.flatten_append, List.flatten_append, flat_take hlx, flat_drop hlx, Nat.add_mul, ← hul]
    exact ((hrel0.take _).app hrel).app (hrel0.drop _)
theorem put_take {sz o : Nat} {xs ys : List (List AV)} {us us' : List Value} {cur : Array Value} (hul : us'.length = ys.length * sz) (ho : o ≤ xs.length) (hul0 : us.length = xs.length * sz) (htk : cur.toList.take (xs.length * sz) = us) (hin : o * sz + us'.length ≤ cur.size) :
    (cur.toList.take (o * sz) ++ us' ++ cur.toList.drop (o * sz + us'.length)).toArray.toList.take ((putRow xs o ys).length * sz) = us.take (o * sz) ++ us' ++ us.drop (o * sz + us'.length) := by
  rw [put_len ho]
  simp only [List.toList_toArray]
  have hm0 : o * sz ≤ xs.length * sz := Nat.mul_le_mul_right _ ho
  have hsz : xs.length * sz ≤ cur.size := by
    have := congrArg List.length htk
    simp only [List.length_take, Array.length_toList] at this
    omega
  rcases Nat.le_total (o + ys.length) xs.length with h | h
  · rw [Nat.max_eq_left h, ← htk]
    refine take_put ?_ (by simpa using hsz)
    rw [hul, ← Nat.add_mul]
    exact Nat.mul_le_mul_right _ h
  · rw [Nat.max_eq_right h, Nat.add_mul, ← hul]
    have h1 : us.drop (o * sz + us'.length) = [] := List.drop_eq_nil_of_le (by
      rw [hul, hul0, ← Nat.add_mul]
      exact Nat.mul_le_mul_right _ h)
    have h2 : (cur.toList.take (o * sz) ++ us').length = o * sz + us'.length := by
      simp
      omega
    rw [h1, List.append_nil, ← h2, List.take_left, ← htk, List.take_take, Nat.min_eq_left hm0]
theorem set_same {H : Hp} {id : Nat} {b : Blk} (h : blk H id = some b) : H.set id (some b) = H := by
  apply List.ext_getElem?
  intro j
  by_cases hj : id = j
  · subst hj
    rw [List.getElem?_set_self (blk_lt h)]
    unfold blk at h
    cases hH : H[id]? with
    | none => rw [hH] at h; simp at h
    | some o => rw [hH] at h; simp at h; rw [h]
  · rw [List.getElem?_set_ne hj]
theorem append_sound {t tx ty : TypeId} {x y : AV} {u w : Value} {s : St} {K : AV → St → Prop} (hr : HeapRel hp σ s.H W) (hx : Rel hp σ x u) (hy : Rel hp σ y w) (h : appendA P t tx x y s K) :
    Does hp σ W s false ((do pure (Next.value (← Builtin.append_ #[t, tx] ty #[u, w])) : Sem Next).run P W) K := by
  unfold appendA at h
  split at h
  · exact h.elim
  rename_i e he
  have hu := elem_eq he
  obtain ⟨ha, h0⟩ := h
  obtain ⟨i, z, zs, hi, hz, hc, hlen, hsz, hb, hp1, hp2⟩ := app_of ha
  have hs : szO P e = some (szOf P e) := szO_ne (by omega)
  obtain ⟨yo, h, hyo⟩ : ∃ yo, appendB P e x yo s K ∧ ∀ ys, yo = some ys → (∀ x ∈ ys, x.length = szOf P e) ∧ ∃ us, RelL hp sg0 ys.flatten us ∧ App P W t tx ty e w ys.length us := by
    split at h0
    · rename_i b
      obtain ⟨htx, h1, h0⟩ := h0
      simp only [Rel] at hy
      subst hy
      refine ⟨_, h0, fun ys hys => ?_⟩
      simp only [Option.some.injEq] at hys
      subst hys
      refine ⟨fun x hx => ?_, _, bytesA_rel hp b, ?_⟩
      · rw [h1]
        unfold bytesA at hx
        obtain ⟨_, _, rfl⟩ := List.mem_map.1 hx
        rfl
      · have hl : (bytesA b).length = b.size := by unfold bytesA; rw [List.length_map, Array.length_toList]; rfl
        rw [hl]
        exact app_string hu htx ha h1
    · rename_i k n
      obtain ⟨htx, rfl, h0n, hby, h0⟩ := h0
      simp only [Rel] at hy
      subst hy
      refine ⟨_, h0, fun ys hys => ?_⟩
      obtain ⟨i', z', zs', hi', hz', hzc', hzl', hlen', hall, hrel⟩ := zerosA_of hys
      refine ⟨hall, _, hrel hp, ?_⟩
      rw [hlen']
      exact app_zeros hu htx ha hi' hz' hzc' hzl' h0n hby
    · obtain ⟨rfl, h0⟩ := h0
      refine ⟨_, h0, fun ys hys => ?_⟩
      obtain ⟨A, c, rfl, hys, us, hrel, hA⟩ := elems_sound hr hy hys
      refine ⟨hys, us, hrel, app_slice hu ha (by rw [← hrel.length, flat_len hys]) hrel.one fun hn => hA (fun he => by subst he; simp at hn)⟩
  clear hy h0
  have fresh : ∀ (B : Option Addr) (H0 : Hp) (ys : List (List AV)), u = .slice B 0 0 → H0.length = s.H.length → (∀ i b, blk H0 i = some b → blk s.H i = some b) → yo = some ys → ys.length * byOf P e ≤ 140737488355328 →
      K (.row s.H.length (szOf P e) 0 ys.length) ⟨s.t, H0 ++ [some (.row e (szOf P e) ys)]⟩ → Does hp σ W s false ((do pure (Next.value (← Builtin.append_ #[t, tx] ty #[u, w])) : Sem Next).run P W) K := by
    intro B H0 ys hu0 hl0 hs0 hel hby hk
    subst hu0
    obtain ⟨hys, us, hrel, hA⟩ := hyo _ hel
    by_cases hn : ys = []
    · subst hn
      exact rowNil_does (A := B) hr hl0 hs0 hp1 (run_vOf (hA.nought rfl B 0 0 (Nat.le_refl 0))) hk
    · have hul : us.length = ys.length * szOf P e := by rw [← hrel.length, flat_len hys]
      have hm : 0 < ys.length := List.length_pos_iff.2 hn
      obtain ⟨cap, cur, hrun, h1, h2, h3, h4⟩ := hA.fresh hm hby B
      exact row_does hr hl0 hs0 (drew_heap W _) rfl rfl rfl hp1 hys rfl h1 h2 h3 h4 hrel (run_vOf hrun) hk
  unfold appendB at h
  split at h
  · rename_i ys
    simp only [Rel] at hx
    exact fresh none s.H ys hx rfl (fun _ _ h => h) rfl h.1 h.2
  · rename_i ys
    simp only [Rel] at hx
    obtain ⟨B, hx⟩ := hx
    exact fresh B s.H ys hx rfl (fun _ _ h => h) rfl h.1 h.2
  · rename_i id sz off len ys
    split at h
    · rename_i e' sz' xs hbk
      obtain ⟨rfl, rfl, rfl, rfl, h⟩ := h
      unfold IF at h
      split at h
      · rename_i hlenx
        obtain rfl : len = xs.length := of_decide_eq_true hlenx
        obtain ⟨hby, hk⟩ := h
        simp only [Rel] at hx
        rcases hx with ⟨k, n, cap, hσ, hle, _, hA⟩ | ⟨hσ, _, h0, B, hx⟩
        · have hx := hA (.inl trivial)
          simp only [Nat.zero_mul, Nat.sub_zero] at hx
          subst hx
          obtain ⟨hpos, hlx, v, us0, hσ', ho, hrel0⟩ := blk_row (n := 0) hr hbk
          rw [hσ] at hσ'
          simp only [Option.some.injEq] at hσ'
          obtain ⟨rfl, hcap, hcells0⟩ := row_cells ho hσ'.symm
          obtain ⟨hys, us, hrel, hAy⟩ := hyo _ rfl
          subst hσ'
          rcases ho.2 with ⟨hv, _⟩ | ⟨g, cap', cur, hv, _, hheap, h5, h6, h7, h8⟩
          · simp at hv
          simp only [Value.slice.injEq, Option.some.injEq, Addr.mk.injEq, true_and, and_true] at hv
          obtain ⟨rfl, rfl⟩ := hv
          have hul : us.length = ys.length * szOf P e' := by rw [← hrel.length, flat_len hys]
          have hul0 : us0.length = xs.length * szOf P e' := ho.1
          have hxy : ∀ x ∈ xs ++ ys, x.length = szOf P e' := fun x hx => by
            rcases List.mem_append.1 hx with h | h
            · exact hlx x h
            · exact hys x h
          have hrel2 : RelL hp sg0 (xs ++ ys).flatten (us0 ++ us) := by
            rw [List.flatten_append]
            exact hrel0.app hrel
          have hlt := blk_lt hbk
          -- the block stays, or a fresh one takes all
          by_cases hroom : xs.length + ys.length ≤ cap
          · have hfit : xs.length * szOf P e' + us.length ≤ cur.size := by
              rw [h7, hul, ← Nat.add_mul]
              exact Nat.mul_le_mul_right _ hroom
            have hrun : ∃ cs', cs'.size = cur.size ∧ cs'.toList.take ((xs.length + ys.length) * szOf P e') = us0 ++ us ∧ (Builtin.append_ #[t, tx] ty #[.slice (some ⟨k, 0, none⟩) xs.length cap, w]).run P W = .ok (.slice (some ⟨k, 0, none⟩) (xs.length + ys.length) cap) (W.setRow k cs') := by
              by_cases hn : ys = []
              · subst hn
                have hus : us = [] := List.eq_nil_of_length_eq_zero (by simpa using hul)
                subst hus
                refine ⟨cur, rfl, by simpa using h8, ?_⟩
                rw [setRow_self W k cur e' (0, 0) hheap]
                exact hAy.nought rfl _ _ _ (by simpa using hroom)
              · have hr2 := hAy.room (List.length_pos_iff.2 hn) k xs.length cap cur hheap hroom hfit
                refine ⟨_, ?_, ?_, hr2⟩
                · simp
                  omega
                · have : (xs.length + ys.length) * szOf P e' = (us0 ++ us).length := by rw [List.length_append, hul, hul0, Nat.add_mul]
                  simp only [List.toList_toArray]
                  rw [h8, this]
                  exact List.take_left
            obtain ⟨cs', hsz', htk, hrun⟩ := hrun
            refine ⟨_, _, _, _, hp, upd σ s.H.length (.slice (some ⟨k, 0, none⟩) (xs.length + ys.length) cap), .inl (run_vOf hrun), hk, rfl, ?_, ?_, upd_le hr.dom _, ?_, by simp⟩
            · have hne : ∀ i c w j, blk (s.H.set id none) i = some c → σ i = some w → bn w = some j → j ≠ k := fun i c w j hc hw hj he => by
                subst he
                have hi' : i ≠ id := fun he => by
                  subst he
                  rw [blk_set_same _ hlt] at hc
                  simp at hc
                exact hi' (hr.apart i id c _ w _ j (sub_set id i c hc) hbk hw hσ hj rfl)
              obtain ⟨v0, hv0, _, hv1⟩ := hr.own id _ hbk
              rw [hσ] at hv0
              simp only [Option.some.injEq] at hv0
              subst hv0
              have hkn := hv1 k rfl
              refine hr.step (by simp) (sub_set id) (by simp) (fun j o' hj => setRow_other W k j _ (fun he => by subst he; rw [hkn] at hj; simp at hj)) (fun i c w j hc hw hj => ⟨setRow_other W k j _ (hne i c w j hc hw hj), fun he => ?_⟩) (fun j hj => ?_) ?_
              · simp only [bn, Option.some.injEq] at he
                exact hne i c w j hc hw hj he.symm
              · simp only [bn, Option.some.injEq] at hj
                subst hj
                exact ⟨by simpa using (Array.getElem?_eq_some_iff.1 hheap).1, hkn⟩
              · simp only [BlkRel]
                refine ⟨hpos, hxy, us0 ++ us, ⟨by rw [List.length_append, hul, hul0, List.length_append, Nat.add_mul], .inr ⟨k, cap, cs', by simp, Nat.zero_le _, setRow_heap W k _ _ e' _ hheap, by simpa using hroom, h6, by rw [hsz', h7], by rw [List.length_append]; exact htk⟩⟩, hrel2⟩
            · refine Ev.step (by simp) rfl rfl rfl (fun j hj ho' => setRow_other W k j _ (fun he => ho' ⟨id, _, hσ, by rw [he]; rfl⟩)) (fun j hj => .inr ⟨id, _, hσ, ?_⟩)
              simpa [bn] using hj
            · simp only [Rel]
              refine .inl ⟨k, _, cap, upd_same _ _, by omega, ⟨_, _, rfl, hroom⟩, fun _ => by simp⟩
          · have hn : ys ≠ [] := fun he => by subst he; simp at hroom; omega
            have hby1 : xs.length + ys.length ≤ 140737488355328 := Nat.le_trans (Nat.le_mul_of_pos_right _ hp2) hby
            have hr2 := hAy.grow (List.length_pos_iff.2 hn) i z hi hz k xs.length cap us0 hul0 (fun j v hj => by rw [add_none, Nat.zero_add]; exact hcells0 j v hj) (by omega) (by omega) (growslice_fits (by omega) (by rw [hb]; exact hby))
            have hge := grownCap_ge W (xs.length + ys.length) cap e'
            have hcm := grownCap_le_maxLen W (xs.length + ys.length) cap e' (by simp only [maxLen]; omega)
            have hzs : z.cells.size = szOf P e' := by rw [hc]; simpa using hlen
            have hll : (us0 ++ us).length = (xs.length + ys.length) * szOf P e' := by rw [List.length_append, hul, hul0, Nat.add_mul]
            refine row_does hr (by simp) (sub_set id) (drew_heap W _) rfl rfl rfl hpos hxy (by simp) hge hcm ?_ ?_ hrel2 (run_vOf hr2) hk
            · simp only [Array.size_append, List.size_toArray, size_zeroCells, hzs, hul, hul0, ← Nat.add_mul]
              congr 1
              omega
            · simp only [Array.toList_append, List.append_assoc]
              rw [← List.append_assoc, ← hll]
              exact List.take_left
        · have hx0 : xs = [] := List.eq_nil_of_length_eq_zero h0
          subst hx0
          simp only [List.length_nil, Nat.zero_add, List.nil_append] at hby hk
          exact fresh B (s.H.set id none) ys hx (by simp) (sub_set id) rfl hby hk
      · -- within the row
        rename_i hlenx
        have hlenx : ¬ len = xs.length := by simpa using hlenx
        obtain ⟨hfit0, hk⟩ := h
        simp only [Rel] at hx
        rcases hx with ⟨k, n, cap, hσ, hle, _, hA⟩ | ⟨hσ, _, h0, B, hx⟩
        · have hx := hA (.inl trivial)
          simp only [Nat.zero_mul, Nat.sub_zero] at hx
          subst hx
          obtain ⟨hpos, hlx, v, us0, hσ', ho, hrel0⟩ := blk_row (n := 0) hr hbk
          rw [hσ] at hσ'
          simp only [Option.some.injEq] at hσ'
          obtain ⟨rfl, hcap, hcells0⟩ := row_cells ho hσ'.symm
          obtain ⟨hys, us, hrel, hAy⟩ := hyo _ rfl
          subst hσ'
          rcases ho.2 with ⟨hv, _⟩ | ⟨g, cap', cur, hv, _, hheap, h5, h6, h7, h8⟩
          · simp at hv
          simp only [Value.slice.injEq, Option.some.injEq, Addr.mk.injEq, true_and, and_true] at hv
          obtain ⟨rfl, rfl⟩ := hv
          have hul : us.length = ys.length * szOf P e' := by rw [← hrel.length, flat_len hys]
          have hul0 : us0.length = xs.length * szOf P e' := ho.1
          have hlex : len ≤ xs.length := by omega
          have hroom : len + ys.length ≤ cap := by omega
          have hm1 : len * szOf P e' + us.length ≤ cur.size := by
            rw [hul, h7, ← Nat.add_mul]
            exact Nat.mul_le_mul_right _ hroom
          have hrun : (Builtin.append_ #[t, tx] ty #[.slice (some ⟨k, 0, none⟩) len cap, w]).run P W = .ok (.slice (some ⟨k, 0, none⟩) (len + ys.length) cap) (W.setRow k (cur.toList.take (len * szOf P e') ++ us ++ cur.toList.drop (len * szOf P e' + us.length)).toArray) := by
            by_cases hn : ys = []
            · subst hn
              have hus : us = [] := List.eq_nil_of_length_eq_zero (by simpa using hul)
              subst hus
              have he : (cur.toList.take (len * szOf P e') ++ [] ++ cur.toList.drop (len * szOf P e' + ([] : List Value).length)).toArray = cur := by
                apply Array.ext'
                simp
              rw [he, setRow_self W k cur e' (0, 0) hheap]
              exact hAy.nought rfl _ _ _ (by simpa using hroom)
            · exact hAy.room (List.length_pos_iff.2 hn) k len cap cur hheap hroom hm1
          obtain ⟨hput1, hput2, hput3⟩ := put_facts (o := len) hlx hys hrel0 hrel hlex
          have hpl : (putRow xs len ys).length = xs.length := by
            rw [put_len hlex]
            omega
          refine ⟨_, _, _, _, hp, σ, .inl (run_vOf hrun), hk, rfl, ?_, ?_, SgLe.refl _, ?_, by simp⟩
          · refine hr.write hbk hσ rfl (by simp) (fun j hj => setRow_other W k j _ hj) ?_
            simp only [BlkRel]
            refine ⟨hpos, hput1, _, ⟨?_, .inr ⟨k, cap, _, by rw [hpl], Nat.zero_le _, setRow_heap W k _ _ e' _ hheap, by rw [hpl]; exact h5, h6, ?_, put_take hul hlex hul0 h8 hm1⟩⟩, hput2⟩
            · have hm2 : len * szOf P e' + us.length ≤ us0.length := by
                rw [hul, hul0, ← Nat.add_mul]
                exact Nat.mul_le_mul_right _ hfit0
              rw [hpl, ← hul0]
              simp only [List.length_append, List.length_take, List.length_drop]
              omega
            · rw [← h7]
              simp
              omega
          · exact Ev.write hσ rfl (by simp) rfl rfl rfl (fun j hj => setRow_other W k j _ hj)
          · simp only [Rel]
            exact .inl ⟨k, _, _, hσ, by omega, ⟨_, _, rfl, hroom⟩, fun _ => by simp⟩
        · obtain ⟨hpos, hlx, v, us0, hσ', ho, hrel0⟩ := blk_row (n := 0) hr hbk
          rw [hσ] at hσ'
          simp only [Option.some.injEq] at hσ'
          subst hσ'
          rcases ho.2 with ⟨hv, hn0⟩ | ⟨g, cap', cur, hv, _⟩
          · exact absurd (h0.trans hn0.symm) hlenx
          · simp at hv
    · -- all that there is room for is told
      rename_i e' sz' c0 xs hbk
      obtain ⟨rfl, rfl, rfl, rfl, hlex, h⟩ := h
      obtain ⟨us0, ⟨hpos, hlx, hrel0, hat⟩, hcapeq⟩ := rowish_rowc hr hbk
      obtain ⟨hys, us, hrel, hAy⟩ := hyo _ rfl
      have hul : us.length = ys.length * szOf P e' := by rw [← hrel.length, flat_len hys]
      have hul0 : us0.length = xs.length * szOf P e' := by rw [← hrel0.length, flat_len hlx]
      simp only [Rel] at hx
      rcases hx with ⟨k, n, cap, hσ, hle, _, hA⟩ | ⟨hσ, _, h0, B, hx⟩
      · have hx := hA (.inl trivial)
        simp only [Nat.zero_mul, Nat.sub_zero] at hx
        subst hx
        obtain ⟨hn, _, hmax, hcells, cur, hheap, hcs, htk⟩ := hat k n cap hσ
        obtain ⟨rfl, rfl⟩ := hcapeq k n cap hσ
        have hm0 : len * szOf P e' ≤ xs.length * szOf P e' := Nat.mul_le_mul_right _ hlex
        have hmc : xs.length * szOf P e' ≤ cap * szOf P e' := Nat.mul_le_mul_right _ hn
        have htk0 : cur.toList.take (len * szOf P e') = us0.take (len * szOf P e') := by
          rw [← htk, List.take_take, Nat.min_eq_left hm0]
        unfold IF at h
        split at h
        · rename_i hroom
          have hroom : len + ys.length ≤ cap := of_decide_eq_true hroom
          have hm1 : len * szOf P e' + us.length ≤ cur.size := by
            rw [hul, hcs, ← Nat.add_mul]
            exact Nat.mul_le_mul_right _ hroom
          have hrun : (Builtin.append_ #[t, tx] ty #[.slice (some ⟨k, 0, none⟩) len cap, w]).run P W = .ok (.slice (some ⟨k, 0, none⟩) (len + ys.length) cap) (W.setRow k (cur.toList.take (len * szOf P e') ++ us ++ cur.toList.drop (len * szOf P e' + us.length)).toArray) := by
            by_cases hn : ys = []
            · subst hn
              have hus : us = [] := List.eq_nil_of_length_eq_zero (by simpa using hul)
              subst hus
              have he : (cur.toList.take (len * szOf P e') ++ [] ++ cur.toList.drop (len * szOf P e' + ([] : List Value).length)).toArray = cur := by
                apply Array.ext'
                simp
              rw [he, setRow_self W k cur e' (0, 0) hheap]
              exact hAy.nought rfl _ _ _ (by simpa using hroom)
            · exact hAy.room (List.length_pos_iff.2 hn) k len cap cur hheap hroom hm1
          obtain ⟨hput1, hput2, hput3⟩ := put_facts (o := len) hlx hys hrel0 hrel hlex
          refine ⟨_, _, _, _, hp, σ, .inl (run_vOf hrun), h, rfl, ?_, ?_, SgLe.refl _, ?_, by simp⟩
          · refine hr.write hbk hσ rfl (by simp) (fun j hj => setRow_other W k j _ hj) ?_
            simp only [BlkRel]
            refine ⟨hpos, hput1, _, hput2, .inr ⟨k, _, rfl, ?_, hmax, setRow_heap W k _ _ e' _ hheap, ?_, ?_⟩⟩
            · rw [put_len hlex]
              omega
            · rw [← hcs]
              simp
              omega
            · exact put_take hul hlex hul0 htk hm1
          · exact Ev.write hσ rfl (by simp) rfl rfl rfl (fun j hj => setRow_other W k j _ hj)
          · simp only [Rel]
            exact .inl ⟨k, _, _, hσ, by omega, ⟨_, _, rfl, hroom⟩, fun _ => by simp⟩
        · rename_i hroom
          have hroom : ¬ (len + ys.length ≤ cap) := by simpa using hroom
          obtain ⟨hby, hk⟩ := h
          have hn' : ys ≠ [] := fun he => by subst he; simp at hroom; omega
          have hby1 : len + ys.length ≤ 140737488355328 := Nat.le_trans (Nat.le_mul_of_pos_right _ hp2) hby
          have hult : (us0.take (len * szOf P e')).length = len * szOf P e' := by simp; omega
          have hr2 := hAy.grow (List.length_pos_iff.2 hn') i z hi hz k len cap (us0.take (len * szOf P e')) hult (fun j v hj => by
            rw [add_none, Nat.zero_add]
            refine hcells j v ?_
            rcases Nat.lt_or_ge j (len * szOf P e') with h' | h'
            · rwa [List.getElem?_take_of_lt h'] at hj
            · rw [List.getElem?_eq_none (by omega)] at hj
              simp at hj) (by omega) (by omega) (growslice_fits (by omega) (by rw [hb]; exact hby))
          have hge := grownCap_ge W (len + ys.length) cap e'
          have hcm := grownCap_le_maxLen W (len + ys.length) cap e' (by simp only [maxLen]; omega)
          have hzs : z.cells.size = szOf P e' := by rw [hc]; simpa using hlen
          have hll : (us0.take (len * szOf P e') ++ us).length = (len + ys.length) * szOf P e' := by rw [List.length_append, hul, hult, Nat.add_mul]
          refine row_does (us := us0.take (len * szOf P e') ++ us) hr rfl (fun _ _ h => h) (drew_heap W _) rfl rfl rfl hpos (fun x hx => ?_) (by simp; omega) hge hcm ?_ ?_ ?_ (run_vOf hr2) hk
          · rcases List.mem_append.1 hx with hx | hx
            · exact hlx x (List.mem_of_mem_take hx)
            · exact hys x hx
          · simp only [Array.size_append, List.size_toArray, size_zeroCells, hzs, hul, hult, ← Nat.add_mul]
            congr 1
            omega
          · simp only [Array.toList_append, List.append_assoc]
            rw [← List.append_assoc, ← hll]
            exact List.take_left
          · rw [List.flatten_append, flat_take hlx]
            exact (hrel0.take _).app hrel
      · subst h0
        have hx0 : xs = [] ∧ c0 = 0 := by
          obtain ⟨v, hv, hbr, _⟩ := hr.own id _ hbk
          rw [hσ] at hv
          simp only [Option.some.injEq] at hv
          subst hv
          simp only [BlkRel] at hbr
          obtain ⟨_, _, _, _, hd⟩ := hbr
          rcases hd with ⟨_, h⟩ | ⟨_, _, h, _⟩
          · exact h
          · simp at h
        obtain ⟨rfl, rfl⟩ := hx0
        unfold IF at h
        split at h
        · rename_i hroom
          have hroom : 0 + ys.length ≤ 0 := of_decide_eq_true hroom
          have hy0 : ys = [] := List.eq_nil_of_length_eq_zero (by simpa using hroom)
          subst hy0
          subst hx
          have hp0 : putRow [] 0 [] = [] := rfl
          rw [hp0, set_same hbk] at h
          refine ⟨_, _, _, _, hp, σ, .inl (run_vOf (hAy.nought rfl B 0 0 (Nat.le_refl 0))), h, rfl, hr, Ev.refl _ _ _ _, SgLe.refl _, ?_, by simp⟩
          simp only [Rel]
          exact .inr ⟨hσ, trivial, rfl, B, rfl⟩
        · obtain ⟨hby, hk⟩ := h
          simp only [List.take_nil, List.nil_append, Nat.zero_add] at hby hk
          exact fresh B s.H ys hx rfl (fun _ _ h => h) rfl hby hk
    · exact h.elim
  · exact h.elim
/-! ### Elements written over others -/
theorem over_heap {s : St} {id sz off len : Nat} {u : Value} {e : TypeId} {xs ys : List (List AV)} {us us' : List Value} {mkb : List (List AV) → Blk} (hr : HeapRel hp σ s.H W) (hx : Rel hp σ (.row id sz off len) u) (hb : blk s.H id = some (mkb xs)) (hrow : Rowish hp σ W id sz e xs us)
    (hmk : ∀ k n c xs' us2 cur' W', σ id = some (.slice (some ⟨k, 0, none⟩) n c) → (∀ x ∈ xs', x.length = sz) → RelL hp sg0 xs'.flatten us2 → W'.heap[k]? = some (.cells cur' e (0, 0)) → cur'.size = c * sz → cur'.toList.take (xs'.length * sz) = us2 → xs'.length ≤ n → (xs'.length = xs.length ∨ off + len ≤ xs'.length ∨ True) → (off + ys.length ≤ xs.length → xs'.length = xs.length) → BlkRel hp σ W' (mkb xs') (.slice (some ⟨k, 0, none⟩) n c))
    (hoff : ∀ k n c, σ id = some (.slice (some ⟨k, 0, none⟩) n c) → off + len ≤ n → off ≤ xs.length)
    (hys : ∀ y ∈ ys, y.length = sz) (hle : ys.length ≤ len) (hrel : RelL hp sg0 ys.flatten us') :
    ∃ A c, u = .slice A len c ∧ len ≤ c ∧ ∃ W', ((ys = [] ∧ W' = W) ∨ ∃ a, A = some a ∧ ys ≠ [] ∧ ∀ P : Program, (storeCells a us').run P W = .ok () W') ∧ HeapRel hp σ (s.H.set id (some (mkb (putRow xs off ys)))) W' ∧ Ev ⟨hp, σ, W, 0⟩ hp σ W' := by
  obtain ⟨hpos, hlx, hrel0, hat⟩ := hrow
  have hxx : ∃ A c', u = .slice A len c' ∧ len ≤ c' := by
    simp only [Rel] at hx
    rcases hx with ⟨_, _, _, _, _, h, _⟩ | ⟨_, _, rfl, A, rfl⟩
    · exact h
    · exact ⟨A, 0, rfl, Nat.le_refl _⟩
  by_cases hy0 : ys = []
  · subst hy0
    obtain ⟨A, c, hu, hc⟩ := hxx
    refine ⟨A, c, hu, hc, W, .inl ⟨rfl, rfl⟩, ?_, Ev.refl _ _ _ _⟩
    have he : putRow xs off [] = xs := by simp [putRow]
    rw [he, set_same hb]
    exact hr
  · have hlp : 0 < len := by
      have := List.length_pos_iff.2 hy0
      omega
    simp only [Rel] at hx
    rcases hx with ⟨k, n, c, hσ, hle2, _, hA⟩ | ⟨_, _, h0, _⟩
    · have hu := hA (.inr hlp)
      subst hu
      obtain ⟨hn, hnc, hmax, hcells, cur, hheap, hcs, htk⟩ := hat k n c hσ
      have ho := hoff k n c hσ hle2
      have hul : us'.length = ys.length * sz := by rw [← hrel.length, flat_len hys]
      have hul0 : us.length = xs.length * sz := by rw [← hrel0.length, flat_len hlx]
      have hin : off * sz + us'.length ≤ cur.size := by
        rw [hul, hcs, ← Nat.add_mul]
        exact Nat.mul_le_mul_right _ (by omega)
      have hst : ∀ P : Program, (storeCells ⟨k, off * sz, none⟩ us').run P W = .ok () (W.setRow k (cur.toList.take (off * sz) ++ us' ++ cur.toList.drop (off * sz + us'.length)).toArray) := fun P => by
        have := run_storeCells_at P k (off * sz) e us' 0 cur W hheap (by omega) hrel.one
        simpa using this
      refine ⟨_, _, rfl, by omega, _, .inr ⟨_, rfl, hy0, hst⟩, ?_, Ev.write hσ rfl (by simp) rfl rfl rfl (fun j hj => setRow_other W k j _ hj)⟩
      obtain ⟨hput1, hput2, _⟩ := put_facts (o := off) hlx hys hrel0 hrel ho
      refine hr.write hb hσ rfl (by simp) (fun j hj => setRow_other W k j _ hj) ?_
      refine hmk k n c _ _ _ _ hσ hput1 hput2 (setRow_heap W k _ _ e _ hheap) ?_ (put_take hul ho hul0 htk hin) ?_ (.inr (.inr trivial)) (fun h => ?_)
      · rw [← hcs]
        simp
        omega
      · rw [put_len ho]
        omega
      · rw [put_len ho]
        omega
    · omega
theorem elemOf_run {t e : TypeId} (h : elemOfS P t = some e) (W : World) : (underlying t).run P W = .ok (.slice e) W := run_underlying (elem_eq h) W
theorem over_does {t : TypeId} {x r : AV} {u rv : Value} {ys : Option (List (List AV))} {us' : List Value} {s : St} {K : AV → St → Prop} {m : Sem Value} (hr : HeapRel hp σ s.H W) (hx : Rel hp σ x u) (h : overA P t x ys r s K)
    (hy : ∀ yl, ys = some yl → (∀ y ∈ yl, y.length = szOf P ((elemOfS P t).getD 0)) ∧ RelL hp sg0 yl.flatten us') (hrr : Rel hp σ r rv)
    (hrun : ∀ yl A len c W', (∀ e, elemOfS P t = some e → szO P e = some (szOf P e)) → ys = some yl → rowLen x = len → u = .slice A len c → len ≤ c → yl.length ≤ len → ((yl = [] ∧ W' = W) ∨ ∃ a, A = some a ∧ yl ≠ [] ∧ (storeCells a us').run P W = .ok () W') → m.run P W = .ok rv W') : Does hp σ W s false ((do pure (Next.value (← m)) : Sem Next).run P W) K := by
  unfold overA at h
  split at h
  · rename_i id sz off len yl
    obtain ⟨hy1, hy2⟩ := hy _ rfl
    have fin : ∀ {e : TypeId} {xs : List (List AV)} {us : List Value} {mkb : List (List AV) → Blk}, elemOfS P t = some e → sz = szOf P e → Rowish hp σ W id sz e xs us →
        (∃ A c, u = .slice A len c ∧ len ≤ c ∧ ∃ W', ((yl = [] ∧ W' = W) ∨ ∃ a, A = some a ∧ yl ≠ [] ∧ ∀ P : Program, (storeCells a us').run P W = .ok () W') ∧ HeapRel hp σ (s.H.set id (some (mkb (putRow xs off yl)))) W' ∧ Ev ⟨hp, σ, W, 0⟩ hp σ W') →
        yl.length ≤ len → K r ⟨s.t, s.H.set id (some (mkb (putRow xs off yl)))⟩ → Does hp σ W s false ((do pure (Next.value (← m)) : Sem Next).run P W) K := fun {e xs us mkb} he hsz hrow ho hle hk => by
      obtain ⟨A, c, hu, hc, W', hW, hh, hev⟩ := ho
      have hsz : ∀ e', elemOfS P t = some e' → szO P e' = some (szOf P e') := fun e' he' => by
        rw [he] at he'
        simp only [Option.some.injEq] at he'
        subst he'
        exact szO_ne (by have := hrow.pos; omega)
      exact ⟨_, _, _, _, hp, σ, .inl (run_vOf (hrun _ A len c W' hsz rfl rfl hu hc hle (hW.imp_right fun ⟨a, h1, h2, h3⟩ => ⟨a, h1, h2, h3 P⟩))), hk, rfl, hh, hev, SgLe.refl _, hrr, by simp⟩
    split at h
    · rename_i e sz' xs hb
      obtain ⟨he, rfl, rfl, hle, hk⟩ := h
      rw [he] at hy1
      obtain ⟨us, hrow, hnn⟩ := rowish_row hr hb
      refine fin (mkb := Blk.row e (szOf P e)) he rfl hrow (over_heap (mkb := Blk.row e (szOf P e)) hr hx hb hrow (fun k n c xs' us2 cur' W' hσ h1 h2 h3 h4 h5 h6 _ h7 => ?_) (fun k n c hσ h1 => by have := hnn k n c hσ; omega) hy1 hle hy2) hle hk
      have hn := hnn k n c hσ
      obtain ⟨_, hnc, hmax, _⟩ := hrow.at_ k n c hσ
      have hl : xs'.length = xs.length := by
        simp only [Rel] at hx
        rcases hx with ⟨k', n', c', hσ', hle2, _⟩ | ⟨hσ', _⟩
        · rw [hσ] at hσ'
          simp only [Option.some.injEq, Value.slice.injEq] at hσ'
          obtain ⟨_, rfl, _⟩ := hσ'
          exact h7 (by omega)
        · rw [hσ] at hσ'
          simp at hσ'
      simp only [BlkRel]
      refine ⟨hrow.pos, h1, us2, ⟨?_, .inr ⟨k, c, cur', by rw [hl, hn], Nat.zero_le _, h3, by omega, hmax, h4, h5⟩⟩, h2⟩
      rw [← h2.length, flat_len h1]
    · rename_i e sz' c0 xs hb
      obtain ⟨he, rfl, rfl, hle, hoff, hk⟩ := h
      rw [he] at hy1
      obtain ⟨us, hrow, hcc⟩ := rowish_rowc hr hb
      refine fin (mkb := Blk.rowc e (szOf P e) c0) he rfl hrow (over_heap (mkb := Blk.rowc e (szOf P e) c0) hr hx hb hrow (fun k n c xs' us2 cur' W' hσ h1 h2 h3 h4 h5 h6 _ h7 => ?_) (fun _ _ _ _ _ => hoff) hy1 hle hy2) hle hk
      obtain ⟨rfl, rfl⟩ := hcc k n c hσ
      obtain ⟨_, hnc, hmax, _⟩ := hrow.at_ k _ _ hσ
      simp only [BlkRel]
      exact ⟨hrow.pos, h1, us2, h2, .inr ⟨k, cur', rfl, h6, hmax, h3, h4, h5⟩⟩
    · exact h.elim
  · exact h.elim
theorem copy_sound {t tx ty : TypeId} {x y : AV} {u w : Value} {s : St} {K : AV → St → Prop} (hr : HeapRel hp σ s.H W) (hx : Rel hp σ x u) (hy : Rel hp σ y w) (h : copyA P t x y s K) :
    Does hp σ W s false ((do pure (Next.value (← Builtin.copy_ #[t, tx] ty #[u, w])) : Sem Next).run P W) K := by
  unfold copyA at h
  split at h
  · rename_i e he
    have hu := elem_eq he
    generalize hnn : min (sliceLen y) (rowLen x) = n at h
    cases hf : firstE s.H (szOf P e) n y with
    | none =>
      rw [hf] at h
      unfold overA at h
      split at h
      · rename_i h0; simp at h0
      · exact h.elim
    | some ys =>
      rw [hf] at h
      obtain ⟨B, c, rfl, hyn, hyl, us, hrel, hB⟩ := firstE_sound hr hy (by omega) hf
      have hul : us.length = n * szOf P e := by rw [← hrel.length, flat_len hyl, hyn]
      refine over_does (rv := .int .i64 (n : Int)) (ys := some ys) (us' := us) hr hx h (fun yl hl => ?_) (by simp only [Rel]) (fun yl A len c' W' hse hl hlen hux hc hle hW => ?_)
      · simp only [Option.some.injEq] at hl
        subst hl
        rw [he]
        exact ⟨hyl, hrel⟩
      · simp only [Option.some.injEq] at hl
        subst hl hux
        have hs : szO P e = some (szOf P e) := hse e he
        rw [hlen] at hnn
        have hml : Nat.min (sliceLen y) len = n := hnn
        have hcells : (Builtin.firstCells (szOf P e) n (.slice B (sliceLen y) c)).run P W = .ok us.toArray W := by
          by_cases hy0 : ys = []
          · subst hy0
            have hn0 : n = 0 := by rw [← hyn]; rfl
            subst hn0
            have hus : us = [] := List.eq_nil_of_length_eq_zero (by simpa using hul)
            subst hus
            cases B with
            | none => simp [Builtin.firstCells]
            | some b =>
              have := run_loadCells_list (P := P) W b [] (by simp)
              simpa [Builtin.firstCells] using this
          · obtain ⟨ad, rfl, h2⟩ := hB hy0
            have := run_loadCells_list (P := P) W ad us h2
            rw [hul] at this
            simpa [Builtin.firstCells] using this
        rcases hW with ⟨hy0, rfl⟩ | ⟨a, rfl, _, hst⟩
        · have hus : us = [] := by
            have hn0 : n = 0 := by rw [← hyn, hy0]; rfl
            exact List.eq_nil_of_length_eq_zero (by rw [hul, hn0]; simp)
          subst hus
          cases A <;> simp [Builtin.copy_, run_underlying hu, Builtin.lenOf, run_sizeOf hs, hml, hcells, storeCells, goInt]
        · simp [Builtin.copy_, run_underlying hu, Builtin.lenOf, run_sizeOf hs, hml, hcells, hst, goInt]
  · exact h.elim
theorem clear_sound {t ty : TypeId} {x : AV} {u : Value} {s : St} {K : AV → St → Prop} (hr : HeapRel hp σ s.H W) (hx : Rel hp σ x u) (h : clearA P t x s K) :
    Does hp σ W s false ((do pure (Next.value (← Builtin.clear_ #[t] ty #[u])) : Sem Next).run P W) K := by
  unfold clearA at h
  split at h
  · rename_i e he
    have hu := elem_eq he
    cases hz : zerosA P e (rowLen x) with
    | none =>
      rw [hz] at h
      unfold overA at h
      split at h
      · rename_i h0; simp at h0
      · exact h.elim
    | some zl =>
      rw [hz] at h
      obtain ⟨i, z, zs, hi, hzz, hzc, hzs, hzn, hzall, hzrel⟩ := zerosA_of hz
      refine over_does (rv := .tuple #[]) (ys := some zl) (us' := (List.replicate (rowLen x) zs).flatten) hr hx h (fun yl hl => ?_) (by simp only [Rel]) (fun yl A len c' W' hse hl hlen hux hc hle hW => ?_)
      · simp only [Option.some.injEq] at hl
        subst hl
        rw [he]
        exact ⟨hzall, hzrel hp⟩
      · simp only [Option.some.injEq] at hl
        subst hl hux
        rw [hlen] at hW hzn
        rcases hW with ⟨hy0, rfl⟩ | ⟨a, rfl, hne, hst⟩
        · have hl0 : len = 0 := by rw [← hzn, hy0]; rfl
          subst hl0
          cases A <;> simp [Builtin.clear_, run_underlying hu]
        · have hl0 : 0 < len := by
            rw [← hzn]
            exact List.length_pos_iff.2 hne
          obtain ⟨l, rfl⟩ : ∃ l, len = l + 1 := ⟨len - 1, by omega⟩
          by_cases hs0 : zs.length = 0
          · have hz0 : zs = [] := List.eq_nil_of_length_eq_zero hs0
            subst hz0
            have hz1 : Builtin.zeroCells z.cells (l + 1) = #[] := by rw [hzc]; simp [Builtin.zeroCells]
            have hz2 : (List.replicate (l + 1) ([] : List Value)).flatten = [] := by simp
            rw [hz2] at hst
            simp [Builtin.clear_, run_underlying hu, zeroValue, typeInfo, hi, hzz, hz1, hst]
          · have hz1 : Builtin.zeroCells z.cells (l + 1) = (List.replicate (l + 1) zs).flatten.toArray := by rw [hzc]; exact zeros_listI zs (by omega) _
            simp [Builtin.clear_, run_underlying hu, zeroValue, typeInfo, hi, hzz, hz1, hst]
  · exact h.elim
theorem make_sound {t : TypeId} {n m : AV} {u v : Value} {s : St} {K : AV → St → Prop} {g : Bool} (hr : HeapRel hp σ s.H W) (hn : Rel hp σ n u) (hm : Rel hp σ m v) (h : makeA P t n m s K) :
    Does hp σ W s g ((do pure (Next.value (← Instr.makeSlice t u v)) : Sem Next).run P W) K := by
  unfold makeA at h
  split at h
  · rename_i e k n k' m he
    obtain ⟨rfl, h0, h1, ha, hb1, h⟩ := h
    simp only [Rel] at hn hm
    subst hn hm
    obtain ⟨l, rfl⟩ : ∃ l : Nat, n = l := ⟨n.toNat, by omega⟩
    simp only [Int.toNat_natCast] at h
    unfold makeB at h
    split at h
    · rename_i xs hxs
      obtain ⟨i, z, zs, hi, hz, hzc, hzs, hxl, hxall, hxrel⟩ := zerosA_of hxs
      obtain ⟨i2, z2, zs2, hi2, hz2, hzc2, hl2, hsz, hby, hp1, hp2⟩ := app_of ha
      rw [hi] at hi2
      simp only [Option.some.injEq] at hi2
      subst hi2
      have hu := elem_eq he
      have hw : IntKind.i64.wrap (l : Int) = l := IntWalk.i64_in _ ⟨by omega, by omega⟩
      have hbl : l * i.bytes ≤ 1000000 * 1000000 := Nat.mul_le_mul (by omega) (by rw [hby]; exact hb1)
      have hmx : ¬ (281474976710656 < (i.bytes : Int) * (l : Int)) := by
        rw [Int.mul_comm, ← Int.natCast_mul]
        omega
      have hnl : ¬ ((l : Int) < 0) := by omega
      refine row_does (W' := W.alloc (.cells (List.replicate l zs).flatten.toArray e)) (cur := (List.replicate l zs).flatten.toArray) (us := (List.replicate l zs).flatten) (cap := l) hr rfl (fun _ _ h => h) rfl rfl rfl rfl hp1 hxall rfl (by omega) (by simp only [maxLen]; omega) ?_ ?_ (hxrel hp) ?_ h
      · simp [hzs]
      · rw [hxl]
        have : l * szOf P e = (List.replicate l zs).flatten.length := by simp [hzs]
        rw [this]
        exact List.take_length
      · rw [hxl]
        refine run_vOf ?_
        by_cases hl0 : l = 0
        · subst hl0
          have hw0 : IntKind.i64.wrap 0 = 0 := IntWalk.i64_in _ ⟨by omega, by omega⟩
          simp [Instr.makeSlice, run_underlying hu, asInt, asIntOf, typeInfo, sizeOf, hi, hw0, newRow]
          have h00 : Array.range 0 = #[] := rfl
          rw [h00]
          simp
        · have hn0 : ¬ (l * i.size = 0) := by
            rw [hsz]
            exact Nat.ne_of_gt (Nat.mul_pos (by omega) hp1)
          have hz1 := zeros_listI zs (by omega) l
          unfold Builtin.zeroCells at hz1
          rw [← hzc] at hz1
          simp [Instr.makeSlice, run_underlying hu, asInt, asIntOf, typeInfo, sizeOf, zeroValue, hi, hz, hw, hmx, hnl, hn0, hz1, newRow]
          have hzi : i.size = z.cells.size := by rw [hzc]; simp; omega
          rw [hzi, hz1]
    · exact h.elim
  · exact h.elim
/-! ### A slice written out -/
theorem normL_len : ∀ {sh : List Sh} {cs cs' : List AV}, normL sh cs = some cs' → cs.length = sh.length ∧ cs'.length = sh.length
  | [], [], cs', h => by simp [normL] at h; subst h; simp
  | s :: ss, c :: cs, cs', h => by
    simp only [normL] at h
    obtain ⟨c1, h1, h⟩ := Option.bind_eq_some_iff.1 h
    obtain ⟨cs1, h2, rfl⟩ := Option.map_eq_some_iff.1 h
    have := normL_len h2
    simp [this.1, this.2]
  | [], _ :: _, _, h => by simp [normL] at h
  | _ :: _, [], _, h => by simp [normL] at h
theorem elemsA_sound (a : Act) (get : Operand → AV) {sh : List Sh} {sz : Nat} (hsh : sh.length = sz) : ∀ (l : List (Nat × Operand)), (∀ p ∈ l, Rel hp σ (get p.2) (a.eval p.2)) → ∀ (xs xs' : List (List AV)) (us : List Value), (∀ x ∈ xs, x.length = sz) → RelL hp sg0 xs.flatten us →
    elemsA sh (l.map fun p => (p.1, get p.2)) xs = some xs' → ∃ us' : List Value, Instr.fill (fun i => some (i * sz, sz)) us.toArray (l.map fun p => (p.1, a.eval p.2)) = some us'.toArray ∧ RelL hp sg0 xs'.flatten us' ∧ (∀ x ∈ xs', x.length = sz) ∧ xs'.length = xs.length
  | [], _, xs, xs', us, hl, hr, h => by
    simp [elemsA] at h
    subst h
    exact ⟨us, by simp [Instr.fill], hr, hl, rfl⟩
  | (i, x) :: l, hg, xs, xs', us, hl, hr, h => by
    simp only [List.map_cons, elemsA] at h
    split at h
    · rename_i c hc
      obtain ⟨c', hn, h⟩ := Option.bind_eq_some_iff.1 h
      split at h
      · rename_i hi
        obtain ⟨ws, hw, hrw⟩ := rel_cells (hg (i, x) (by simp)) hc
        obtain ⟨h1, h2⟩ := normL_len hn
        have hrel' := normL_sound hn hrw
        have hlw := hrw.length
        have hul : us.length = xs.length * sz := by rw [← hr.length, flat_len hl]
        have hfit : i * sz + ws.length ≤ us.length := by
          have : (i + 1) * sz ≤ xs.length * sz := Nat.mul_le_mul_right _ hi
          rw [Nat.add_mul] at this
          omega
        have hflat : (xs.set i c').flatten = xs.flatten.take (i * sz) ++ c' ++ xs.flatten.drop (i * sz + c'.length) := by
          have := flat_put (f := 0) (c := c') hl (List.getElem?_eq_getElem hi) (by omega)
          rw [← Nat.add_zero (i * sz), ← this]
          congr 1
          have hci := hl _ (List.getElem_mem hi)
          rw [List.drop_eq_nil_of_le (by omega)]
          simp
        have hr1 : RelL hp sg0 (xs.set i c').flatten (us.take (i * sz) ++ ws ++ us.drop (i * sz + ws.length)) := by
          rw [hflat, h2, ← h1, hlw]
          exact ((hr.take _).app hrel').app (hr.drop _)
        obtain ⟨us', h5, h6, h7, h8⟩ := elemsA_sound a get hsh l (fun p hp => hg p (by simp [hp])) (xs.set i c') xs' _ (fun y hy => by
          rcases List.mem_or_eq_of_mem_set hy with h9 | h9
          · exact hl y h9
          · subst h9; omega) hr1 h
        refine ⟨us', ?_, h6, h7, by rw [h8]; simp⟩
        simp only [List.map_cons, Instr.fill]
        have hsz : (a.eval x).cells.size = sz := by rw [hw]; simp; omega
        have hcc : ((a.eval x).cells.size ≠ sz || decide (i * sz + (a.eval x).cells.size > us.toArray.size)) = false := by
          simp [hsz]
          omega
        rw [if_neg (by rw [hcc]; simp)]
        rw [← h5]
        congr 1
        rw [← Array.foldl_toList, Array.toList_zipIdx, hw]
        exact list_put (i * sz) ws us hfit
      · simp at h
    · simp at h
theorem buildSlice_sound {a : Act} {s : St} {get : Operand → AV} {t : TypeId} {len : Nat} {l : List (Nat × Operand)} {K : AV → St → Prop} {g : Bool} (hr : HeapRel hp σ s.H W) (hg : ∀ p ∈ l, Rel hp σ (get p.2) (a.eval p.2)) (h : newRowA P (buildSliceA P t len (l.map fun p => (p.1, get p.2))) s K) :
    Does hp σ W s g ((do pure (Next.value (← Instr.buildSlice t len ((l.toArray).map fun (i, x) => (i, a.eval x)))) : Sem Next).run P W) K := by
  unfold newRowA at h
  split at h
  · rename_i e xs hb
    unfold buildSliceA at hb
    obtain ⟨e', he, hb⟩ := Option.bind_eq_some_iff.1 hb
    obtain ⟨zs, hz, hb⟩ := Option.bind_eq_some_iff.1 hb
    split at hb
    · rename_i hcond
      obtain ⟨hc1, hc2, hc3⟩ := hcond
      obtain ⟨z', hn, hb⟩ := Option.bind_eq_some_iff.1 hb
      obtain ⟨xs', hxs, hb⟩ := Option.map_eq_some_iff.1 hb
      simp only [Prod.mk.injEq] at hb
      obtain ⟨rfl, rfl⟩ := hb
      obtain ⟨i, z, us0, hi, hzz, hzc, rfl, hrel⟩ := zero_of hz
      simp only [List.length_map] at hc1
      obtain ⟨hn1, hn2⟩ := normL_len hn
      simp only [List.length_map] at hn1
      have hrel0 : RelL hp sg0 z' us0 := normL_sound hn (hrel hp σ)
      have hrep : ∀ n : Nat, RelL hp sg0 (List.replicate n z').flatten (List.replicate n us0).flatten := fun n => by
        induction n with
        | zero => simp [RelL]
        | succ n ih =>
          rw [List.replicate_succ, List.replicate_succ, List.flatten_cons, List.flatten_cons]
          exact hrel0.app ih
      obtain ⟨us', hf, h2, h3, h4⟩ := elemsA_sound a get (sz := szOf P e') (by omega) l hg (List.replicate len z') xs' (List.replicate len us0).flatten (fun y hy => by rw [List.eq_of_mem_replicate hy]; omega) (hrep len) hxs
      have hlen : xs'.length = len := by rw [h4]; simp
      have hsz : i.size = szOf P e' := by simp [szOf, hi]
      have hul : us'.length = len * szOf P e' := by rw [← h2.length, flat_len h3, hlen]
      have hmax : len ≤ maxLen := by
        have : len ≤ len * szOf P e' := Nat.le_mul_of_pos_right _ hc2
        simp only [maxLen]
        omega
      have hrun : (Instr.buildSlice t len ((l.toArray).map fun (i, x) => (i, a.eval x))).run P W = .ok (.slice (some ⟨W.heap.size, 0, none⟩) len len) (W.alloc (.cells us'.toArray e')) := by
        have hparts : ((l.toArray).map fun (i, x) => (i, a.eval x)).toList = l.map fun p => (p.1, a.eval p.2) := by simp
        by_cases h0 : len * i.size = 0
        · have hl0 : len = 0 := by
            rcases Nat.mul_eq_zero.1 h0 with h | h
            · exact h
            · omega
          subst hl0
          have hl0 : l = [] := by
            cases l with
            | nil => rfl
            | cons p l =>
              obtain ⟨j, x⟩ := p
              simp only [List.replicate_zero, List.map_cons, elemsA] at hxs
              split at hxs
              · obtain ⟨c', _, hxs⟩ := Option.bind_eq_some_iff.1 hxs
                simp at hxs
              · simp at hxs
          subst hl0
          have hnil : us' = [] := List.eq_nil_of_length_eq_zero (by simpa using hul)
          subst hnil
          simp [Instr.buildSlice, run_underlying (elem_eq he), sizeOf, typeInfo, hi, Instr.fill, newRow]
          have he0 : ∀ v : Value, Array.map (fun _ => v) (Array.range 0) = #[] := fun v => by
            apply Array.ext'
            simp
          rw [he0]
        · refine run_buildSlice W t e' len _ us'.toArray i z (elem_eq he) hi hzz (by rw [hsz]; omega) h0 ?_
          rw [hparts, hsz, ← hf]
          congr 1
          apply Array.ext'
          rw [Array.toList_map, Array.toList_range, hzc]
          rw [← hc1]
          exact zeros_list us0 (by omega) len
      refine row_does (W' := W.alloc (.cells us'.toArray e')) hr rfl (fun _ _ h => h) rfl rfl rfl rfl hc2 h3 rfl (Nat.le_refl _) (by omega) (by simp [hul, hlen]) ?_ h2 ?_ h
      · rw [hlen, ← hul]
        simp
      · rw [hlen]
        exact run_vOf hrun
    · simp at hb
  · exact h.elim
end
end Go.Ai

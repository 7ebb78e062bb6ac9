/- Operations that look at no memory, on slices, strings, structs and addresses. -/
import Derived.Test.YtlpjaehliaeifaaAiVal
set_option linter.unusedVariables false
set_option linter.unusedSimpArgs false
namespace Go.Ai
section
variable {P : Program} {hp : Im} {σ : Sg}

theorem add_spot {ad : Addr} (h : ad.spot = none) (j : Nat) : (ad.add j).spot = none := by
  obtain ⟨b, o, s⟩ := ad
  simp only at h
  subst h
  rw [add_none]
theorem RelCs.shift {ad : Addr} (h : ad.spot = none) (j : Nat) : ∀ (k : Nat) (cs : List AV), RelCs hp ad (j + k) cs → RelCs hp (ad.add j) k cs
  | _, [], _ => by simp [RelCs]
  | k, c :: cs, hr => by
    simp only [RelCs] at hr ⊢
    rw [add_add h]
    exact ⟨hr.1, RelCs.shift h j (k + 1) cs hr.2⟩
theorem RelRow.shift {ad : Addr} (h : ad.spot = none) (j : Nat) : ∀ (k sz : Nat) (xs : List (List AV)), RelRow hp ad (j + k) sz xs → RelRow hp (ad.add j) k sz xs
  | _, _, [], _ => by simp [RelRow]
  | k, sz, x :: xs, hr => by
    simp only [RelRow] at hr ⊢
    refine ⟨hr.1, RelCs.shift h j k x hr.2.1, RelRow.shift h j (k + sz) sz xs ?_⟩
    rw [← Nat.add_assoc]
    exact hr.2.2
theorem RelRow.take {ad : Addr} (sz : Nat) : ∀ (n k : Nat) (xs : List (List AV)), RelRow hp ad k sz xs → RelRow hp ad k sz (xs.take n)
  | 0, _, _, _ => by simp [RelRow]
  | _ + 1, _, [], _ => by simp [RelRow]
  | n + 1, k, x :: xs, hr => by
    simp only [RelRow, List.take_succ_cons] at hr ⊢
    exact ⟨hr.1, hr.2.1, RelRow.take sz n _ xs hr.2.2⟩
theorem RelRow.drop {ad : Addr} (sz : Nat) : ∀ (n k : Nat) (xs : List (List AV)), RelRow hp ad k sz xs → RelRow hp ad (k + n * sz) sz (xs.drop n)
  | 0, k, xs, hr => by simpa using hr
  | n + 1, k, [], hr => by simp [RelRow]
  | n + 1, k, x :: xs, hr => by
    simp only [RelRow] at hr
    have := RelRow.drop sz n (k + sz) xs hr.2.2
    have he : k + sz + n * sz = k + (n + 1) * sz := by rw [Nat.add_mul]; omega
    rw [he] at this
    simpa using this
theorem RelRow.get {ad : Addr} {sz : Nat} : ∀ (i k : Nat) (xs : List (List AV)), RelRow hp ad k sz xs → ∀ {cs}, xs[i]? = some cs → cs.length = sz ∧ RelCs hp ad (k + i * sz) cs
  | _, _, [], _, _, h => by simp at h
  | 0, k, x :: xs, hr, cs, h => by
    simp only [RelRow] at hr
    simp at h
    subst h
    simpa using ⟨hr.1, hr.2.1⟩
  | i + 1, k, x :: xs, hr, cs, h => by
    simp only [RelRow] at hr
    simp at h
    have := RelRow.get i (k + sz) xs hr.2.2 h
    have he : k + sz + i * sz = k + (i + 1) * sz := by rw [Nat.add_mul]; omega
    rw [he] at this
    exact this
theorem RelCs.drop {ad : Addr} : ∀ (n k : Nat) (cs : List AV), RelCs hp ad k cs → RelCs hp ad (k + n) (cs.drop n)
  | 0, k, cs, hr => by simpa using hr
  | n + 1, k, [], hr => by simp [RelCs]
  | n + 1, k, c :: cs, hr => by
    simp only [RelCs] at hr
    have := RelCs.drop n (k + 1) cs hr.2
    have he : k + 1 + n = k + (n + 1) := by omega
    rw [he] at this
    simpa using this

/-- A value comes of it whatever the memory. -/
def Yld (P : Program) (hp : Im) (σ : Sg) (m : Sem Value) (K : AV → Prop) : Prop := ∃ z r, (∀ W, m.run P W = .ok z W) ∧ K r ∧ Rel hp σ r z
theorem Yld.v {m : Sem Value} {z : Value} {K : AV → Prop} (hz : ∀ W, m.run P W = .ok z W) (h : K (.v z)) : Yld P hp σ m K := ⟨z, .v z, hz, h, by simp [Rel]⟩

def RelO (hp : Im) (σ : Sg) : Option AV → Option Value → Prop
  | none, none => True
  | some x, some u => Rel hp σ x u
  | _, _ => False
theorem sliceL_sound {b : Bool} {size cap : Nat} (hcap : size ≤ cap) {lo hi : Option AV} {ulo uhi : Option Value} {K : Nat → Nat → Prop} (hl : RelO hp σ lo ulo) (hh : RelO hp σ hi uhi) (h : sliceL size lo hi K) :
    ∃ l u, K l u ∧ l ≤ u ∧ u ≤ size ∧ ∀ W, (Instr.sliceBounds b size cap ulo uhi none).run P W = .ok (l, u, cap) W := by
  unfold sliceL at h
  split at h
  · cases ulo <;> simp [RelO] at hl
    cases uhi <;> simp [RelO] at hh
    exact ⟨0, size, h, Nat.zero_le _, Nat.le_refl _, fun W => by simp [Instr.sliceBounds]⟩
  · rename_i k l
    obtain ⟨h0, h1, h⟩ := h
    cases ulo <;> simp [RelO, Rel] at hl
    cases uhi <;> simp [RelO] at hh
    subst hl
    exact ⟨_, _, h, by omega, Nat.le_refl _, fun W => by simp [Instr.sliceBounds, run_sliceBound W k l _ _ h0 h1]⟩
  · rename_i k n
    obtain ⟨h0, h1, h⟩ := h
    cases ulo <;> simp [RelO, Rel] at hl
    cases uhi <;> simp [RelO, Rel] at hh
    subst hh
    exact ⟨_, _, h, by omega, by omega, fun W => by simp [Instr.sliceBounds, run_sliceBound W k n cap _ h0 (by omega)]⟩
  · rename_i k n k' l
    obtain ⟨h0, h1, h2, h3, h⟩ := h
    cases ulo <;> simp [RelO, Rel] at hl
    cases uhi <;> simp [RelO, Rel] at hh
    subst hl hh
    exact ⟨_, _, h, by omega, by omega, fun W => by simp [Instr.sliceBounds, run_sliceBound W k n cap _ h0 (by omega), run_sliceBound W k' l n.toNat _ h2 (by omega)]⟩
  · exact h.elim
theorem sized_of {t : TypeId} {sz : Nat} (h : sizedS P t sz) : ∃ e, P.underlying t = some (.slice e) ∧ szO P e = some sz := by
  unfold sizedS at h
  split at h
  · rename_i e he
    exact ⟨e, elem_eq he, h⟩
  · exact h.elim
theorem run_sliceAt_of {W : World} {t e : TypeId} {A : Option Addr} {len cap sz l h m : Nat} {lo hi mx : Option Value} (hu : P.underlying t = some (.slice e)) (hs : szO P e = some sz)
    (hb : (Instr.sliceBounds true len cap lo hi mx).run P W = .ok (l, h, m) W) :
    (Instr.sliceAt t (.slice A len cap) lo hi mx).run P W = .ok (.slice (if m = l then A else A.map (·.add (l * sz))) (h - l) (m - l)) W := by
  simp only [Instr.sliceAt, Sem.run_bind, run_underlying hu, Result.andThen_ok, Instr.slice, hb, run_sizeOf hs, Sem.run_pure]
/-- What is told of the room that a row has. -/
def RoomOk (σ : Sg) (x : AV) (u : Value) (rm : Option Nat) : Prop := ∀ r, rm = some r → ∃ id sz len, x = .row id sz 0 len ∧
  ((∃ k, σ id = some (.slice (some ⟨k, 0, none⟩) r r) ∧ u = .slice (some ⟨k, 0, none⟩) len r ∧ len ≤ r) ∨ (r = 0 ∧ len = 0 ∧ σ id = some (.slice none 0 0) ∧ ∃ A, u = .slice A 0 0))
theorem sliceL_hi {size len cap : Nat} (hcap : size ≤ cap) {lo : Option AV} {hi : AV} {ulo : Option Value} {uhi : Value} {K : Nat → Nat → Prop} (hl : RelO hp σ lo ulo) (hh : Rel hp σ hi uhi) (h : sliceL size lo (some hi) K) :
    ∃ l u, K l u ∧ l ≤ u ∧ u ≤ size ∧ ∀ W, (Instr.sliceBounds true len cap ulo (some uhi) none).run P W = .ok (l, u, cap) W := by
  unfold sliceL at h
  split at h
  · simp_all
  · simp_all
  · rename_i k n h0
    obtain ⟨h1, h2, h⟩ := h
    simp only [Option.some.injEq] at h0
    subst h0
    cases ulo <;> simp [RelO, Rel] at hl
    simp only [Rel] at hh
    subst hh
    exact ⟨_, _, h, by omega, by omega, fun W => by simp [Instr.sliceBounds, run_sliceBound W k n cap _ h1 (by omega)]⟩
  · rename_i k n k' l h0
    obtain ⟨h1, h2, h3, h4, h⟩ := h
    simp only [Option.some.injEq] at h0
    subst h0
    cases ulo <;> simp [RelO, Rel] at hl
    simp only [Rel] at hh
    subst hl hh
    exact ⟨_, _, h, by omega, by omega, fun W => by simp [Instr.sliceBounds, run_sliceBound W k n cap _ h1 (by omega), run_sliceBound W k' l n.toNat _ h3 (by omega)]⟩
  · exact h.elim
theorem sliceA_sound {t : TypeId} {x : AV} {u : Value} {lo hi mx : Option AV} {rm : Option Nat} {ulo uhi umx : Option Value} {K : AV → Prop} (hrm : RoomOk σ x u rm) (hx : Rel hp σ x u) (hl : RelO hp σ lo ulo) (hh : RelO hp σ hi uhi) (hm : RelO hp σ mx umx)
    (h : sliceA P t x lo hi mx rm K) : Yld P hp σ (Instr.sliceAt t u ulo uhi umx) K := by
  unfold sliceA at h
  split at h
  · rename_i km m
    split at h
    · rename_i sz xs kh n
      obtain ⟨rfl, rfl, hs, h⟩ := h
      obtain ⟨e, he, hsz⟩ := sized_of hs
      cases ulo <;> simp [RelO] at hl
      cases uhi <;> simp [RelO, Rel] at hh
      cases umx <;> simp [RelO, Rel] at hm
      subst hh hm
      simp only [Rel] at hx
      obtain ⟨A, cap, rfl, _, _⟩ := hx
      refine ⟨_, .nl, fun W => run_sliceAt_of (l := 0) (h := 0) (m := 0) he hsz ?_, h, by simp [Rel]⟩
      simp [Instr.sliceBounds, run_sliceBound W km 0 cap _ (by omega) (by omega), run_sliceBound W kh 0 0 _ (by omega) (by omega)]
    · rename_i id sz off len kl l kh n
      obtain ⟨h0, h1, h2, h3, hs, h⟩ := h
      obtain ⟨e, he, hsz⟩ := sized_of hs
      cases ulo <;> simp [RelO, Rel] at hl
      cases uhi <;> simp [RelO, Rel] at hh
      cases umx <;> simp [RelO, Rel] at hm
      subst hl hh hm
      have hxx : ∃ A c', u = .slice A len c' ∧ len ≤ c' := by
        simp only [Rel] at hx
        rcases hx with ⟨_, _, _, _, _, h, _⟩ | ⟨_, _, rfl, A, rfl⟩
        · exact h
        · exact ⟨A, 0, rfl, Nat.le_refl _⟩
      obtain ⟨A, c', rfl, hc'⟩ := hxx
      refine ⟨_, .junk, fun W => run_sliceAt_of (l := l.toNat) (h := n.toNat) (m := m.toNat) he hsz ?_, h, by simp [Rel]⟩
      simp [Instr.sliceBounds, run_sliceBound W km m c' _ (by omega) (by omega), run_sliceBound W kh n m.toNat _ (by omega) (by omega), run_sliceBound W kl l n.toNat _ (by omega) (by omega)]
    · exact h.elim
  · exact h.elim
  · cases umx <;> simp [RelO] at hm
    split at h
    · rename_i s
      obtain ⟨ht, h⟩ := h
      simp only [Rel] at hx
      subst hx
      obtain ⟨l, n, hk, _, _, hb⟩ := sliceL_sound (P := P) (b := false) (Nat.le_refl s.size) hl hh h
      exact .v (fun W => by simp [Instr.sliceAt, run_underlying ht, Instr.slice, hb]) hk
    · rename_i sz xs
      obtain ⟨hs, h⟩ := h
      obtain ⟨e, he, hsz⟩ := sized_of hs
      simp only [Rel] at hx
      obtain ⟨A, cap, rfl, hcap, hA⟩ := hx
      obtain ⟨l, n, hk, hln, hn, hb⟩ := sliceL_sound (P := P) (b := true) hcap hl hh h
      refine ⟨_, _, fun W => run_sliceAt_of he hsz (hb W), hk, ?_⟩
      simp only [Rel]
      have hlen : ((xs.take n).drop l).length = n - l := by simp; omega
      refine ⟨_, _, by rw [hlen], by omega, fun hne => ?_⟩
      have hlt : l < n := by
        rcases Nat.lt_or_ge l n with h' | h'
        · exact h'
        · exact absurd (List.eq_nil_of_length_eq_zero (by omega)) hne
      obtain ⟨ad, rfl, hsp, hr⟩ := hA (by intro hc; simp [hc] at hne)
      refine ⟨ad.add (l * sz), by rw [if_neg (by omega)]; rfl, add_spot hsp _, RelRow.shift hsp _ _ _ _ ?_⟩
      have := RelRow.drop sz l 0 _ (RelRow.take sz n 0 xs hr)
      rw [Nat.zero_add] at this
      exact this
    · rename_i id sz off len
      obtain ⟨hs, h⟩ := h
      obtain ⟨e, he, hsz⟩ := sized_of hs
      simp only [Rel] at hx
      -- where the room is told
      by_cases hwide : ∃ r hv, rm = some r ∧ hi = some hv
      · obtain ⟨r, hv, rfl, rfl⟩ := hwide
        simp only [sliceW] at h
        cases uhi with
        | none => simp [RelO] at hh
        | some uhi =>
        simp only [RelO] at hh
        obtain ⟨id', sz', len', hxe, hroom⟩ := hrm r rfl
        simp only [AV.row.injEq] at hxe
        obtain ⟨rfl, rfl, rfl, rfl⟩ := hxe
        rcases hroom with ⟨k, hσ, rfl, hle⟩ | ⟨rfl, rfl, hσ, A, rfl⟩
        · obtain ⟨l, n, hk, hln, hn, hb⟩ := sliceL_hi (P := P) (len := len) (Nat.le_refl r) hl hh h
          refine ⟨_, _, fun W => run_sliceAt_of he hsz (hb W), hk, ?_⟩
          simp only [Rel]
          refine .inl ⟨k, r, r, hσ, by omega, ⟨_, _, rfl, by omega⟩, fun hc => ?_⟩
          rcases hc with hc | hc
          · have h1 : l = 0 := by omega
            subst h1
            simp [add_none]
          · rw [if_neg (by omega)]
            simp [add_none]
        · obtain ⟨l, n, hk, hln, hn, hb⟩ := sliceL_hi (P := P) (len := 0) (Nat.le_refl 0) hl hh h
          have h0 : n = 0 := by omega
          have h1 : l = 0 := by omega
          subst h0 h1
          refine ⟨_, _, fun W => run_sliceAt_of he hsz (hb W), hk, ?_⟩
          simp only [Rel]
          exact .inr ⟨hσ, by simp, by simp, A, by simp⟩
      have h : sliceL len lo hi fun l h => K (.row id sz (off + l) (h - l)) := by
        cases rm with
        | none => exact h
        | some r =>
          cases hi with
          | none => exact h
          | some hv => exact absurd ⟨r, hv, rfl, rfl⟩ hwide
      rcases hx with ⟨k, n0, c, hσ, hle, ⟨A, c', rfl, hc'⟩, hA⟩ | ⟨hσ, rfl, rfl, A, rfl⟩
      · obtain ⟨l, n, hk, hln, hn, hb⟩ := sliceL_sound (P := P) (b := true) hc' hl hh h
        refine ⟨_, _, fun W => run_sliceAt_of he hsz (hb W), hk, ?_⟩
        simp only [Rel]
        refine .inl ⟨k, n0, c, hσ, by omega, ⟨_, _, rfl, by omega⟩, fun hc => ?_⟩
        rcases hc with hc | hc
        · have h0 : off = 0 := by omega
          have h1 : l = 0 := by omega
          subst h0 h1
          have hy := hA (.inl rfl)
          simp only [Value.slice.injEq] at hy
          obtain ⟨rfl, _, rfl⟩ := hy
          simp [add_none]
        · have hy := hA (.inr (by omega))
          simp only [Value.slice.injEq] at hy
          obtain ⟨rfl, _, rfl⟩ := hy
          rw [if_neg (by omega)]
          simp [add_none, Nat.add_mul, Nat.sub_sub]
      · obtain ⟨l, n, hk, hln, hn, hb⟩ := sliceL_sound (P := P) (b := true) (Nat.le_refl 0) hl hh h
        have h0 : n = 0 := by omega
        have h1 : l = 0 := by omega
        subst h0 h1
        refine ⟨_, _, fun W => run_sliceAt_of he hsz (hb W), hk, ?_⟩
        simp only [Rel]
        exact .inr ⟨hσ, by simp, by simp, A, by simp⟩
    · obtain ⟨hs, h⟩ := h
      unfold sizedA at hs
      split at hs
      · rename_i e he
        obtain ⟨sz, hsz⟩ := Option.isSome_iff_exists.1 hs
        simp only [Rel] at hx
        subst hx
        obtain ⟨l, n, hk, hln, hn, hb⟩ := sliceL_sound (P := P) (b := true) (Nat.le_refl 0) hl hh h
        have h0 : n = 0 := by omega
        have h1 : l = 0 := by omega
        subst h0 h1
        refine .v (fun W => ?_) hk
        rw [run_sliceAt_of (elem_eq he) hsz (hb W)]
        simp
      · exact hs.elim
    · exact h.elim

theorem struct_of {t : TypeId} {i off : Nat} {ft : TypeId} (h : fieldOf P t i = some (off, ft)) : ∃ fs f, P.underlying t = some (.struct fs) ∧ fs[i]? = some f ∧ f.offset = off ∧ f.type = ft := by
  unfold fieldOf at h
  split at h
  · rename_i fs hf
    cases hi : fs[i]? with
    | none => simp [hi] at h
    | some f => simp [hi] at h; exact ⟨fs, f, hf, hi, h.1, h.2⟩
  · simp at h
/-- An address moved on. -/
theorem moveA_sound {x : AV} {u : Value} {n : Nat} {K : AV → Prop} (hx : Rel hp σ x u) (h : moveA x n K) : ∃ ad r, u = .pointer (some ad) ∧ K r ∧ Rel hp σ r (.pointer (some (ad.add n))) := by
  cases x with
  | ptr id f =>
    simp only [Rel] at hx
    obtain ⟨k, h1, rfl⟩ := hx
    exact ⟨_, _, rfl, h, by simp only [Rel]; exact ⟨k, h1, by rw [add_none]⟩⟩
  | rptr id sz i f =>
    simp only [Rel] at hx
    obtain ⟨k, m, c, h1, h2, rfl⟩ := hx
    exact ⟨_, _, rfl, h, by simp only [Rel]; exact ⟨k, m, c, h1, h2, by rw [add_none, Nat.add_assoc]⟩⟩
  | eptr cs =>
    simp only [Rel] at hx
    obtain ⟨ad, rfl, hs, hr⟩ := hx
    refine ⟨_, _, rfl, h, ?_⟩
    simp only [Rel]
    refine ⟨_, rfl, add_spot hs n, RelCs.shift hs n 0 _ ?_⟩
    have := RelCs.drop n 0 cs hr
    rw [Nat.zero_add] at this
    exact this
  | _ => exact h.elim
theorem szO_ne {t : TypeId} (h : szOf P t ≠ 0) : szO P t = some (szOf P t) := by
  unfold szOf szO at *
  cases hi : P.info? t with
  | none => simp [hi] at h
  | some i => simp
theorem fieldAddrA_sound {t : TypeId} {x : AV} {u : Value} {i : Nat} {K : AV → Prop} (hx : Rel hp σ x u) (h : fieldAddrA P t x i K) : Yld P hp σ (Instr.fieldAt t u i) K := by
  unfold fieldAddrA at h
  split at h
  · rename_i off ft hf
    obtain ⟨h0, h⟩ := h
    obtain ⟨fs, f, hu, hfi, rfl, rfl⟩ := struct_of hf
    obtain ⟨ad, r, rfl, hk, hr⟩ := moveA_sound hx h
    refine ⟨_, r, fun W => ?_, hk, hr⟩
    simp [Instr.fieldAt, run_underlying hu, hfi, Instr.sureAddr, fieldPlace, run_sizeOf (szO_ne h0), h0]
  · exact h.elim
theorem run_part {W : World} {t : TypeId} {xs : List Value} {cs : List AV} {k : Nat} {r : AV} (hr : RelL hp σ cs xs) (h : ldv P t cs k = some r) : ∃ z, (∀ W, (part t xs.toArray k).run P W = .ok z W) ∧ Rel hp σ r z := by
  unfold ldv at h
  split at h
  · rename_i hag
    split at h
    · simp only [Option.some.injEq] at h
      subst h
      have hu : ∃ d, P.underlying t = some d := by
        unfold isAg at hag
        cases hu : P.underlying t with
        | none => simp [hu] at hag
        | some d => exact ⟨d, rfl⟩
      obtain ⟨d, hu⟩ := hu
      refine ⟨.agg ((xs.drop k).take (szOf P t)).toArray, fun W => ?_, ?_⟩
      · unfold part
        rw [Sem.run_bind, run_isAgg hag W]
        simp only [Result.andThen_ok, if_true, Sem.run_bind, run_sizeOf (szO_of_under hu) W, Sem.run_pure, List.extract_toArray, List.extract_eq_take_drop]
        rw [Nat.add_sub_cancel_left]
      · simp only [Rel]
        exact ⟨_, rfl, (hr.drop k).take _⟩
    · simp at h
  · rename_i hag
    obtain ⟨u, hu, hru, _⟩ := hr.get k h
    exact ⟨u, fun W => run_part_one hag hu, hru⟩
  · simp at h
theorem fieldA_sound {t : TypeId} {x r : AV} {u : Value} {i : Nat} (hx : Rel hp σ x u) (h : fieldA P t x i = some r) : ∃ z, (∀ W, (Instr.field t u i).run P W = .ok z W) ∧ Rel hp σ r z := by
  unfold fieldA fieldB at h
  split at h
  · rename_i cs off ft hf
    obtain ⟨fs, f, hu, hfi, rfl, rfl⟩ := struct_of hf
    simp only [Rel] at hx
    obtain ⟨vs, rfl, hv⟩ := hx
    obtain ⟨z, hz, hr⟩ := run_part (W := default) hv h
    exact ⟨z, fun W => by simp [Instr.field, run_underlying hu, hfi, asAgg, hz], hr⟩
  · simp at h
theorem arr_of {t : TypeId} {n : Nat} {e : TypeId} (h : arrOf P t = some (n, e)) : P.underlying t = some (.array n e) := by
  unfold arrOf at h
  split at h
  · rename_i n' e' he
    simp at h
    obtain ⟨rfl, rfl⟩ := h
    exact he
  · simp at h
end
end Go.Ai

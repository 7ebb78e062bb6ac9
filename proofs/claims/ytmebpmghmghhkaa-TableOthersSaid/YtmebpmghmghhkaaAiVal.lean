/- Operations that look at no memory: what the abstract machine says of one, the model's operation does. -/
import Derived.Test.YtmebpmghmghhkaaAiBin
import Derived.Laws.Small
import Derived.Laws.Pointers
import Derived.Laws.Slices
import Derived.Great.FillDense
set_option linter.unusedVariables false
set_option linter.unusedSimpArgs false
namespace Go.Ai
section
variable {P : Program} {hp : Im} {σ : Sg}

theorem elem_of {t : TypeId} (h : (elemOfS P t).isSome = true) : ∃ e, P.underlying t = some (.slice e) := by
  unfold elemOfS at h
  split at h
  · rename_i e he
    exact ⟨e, he⟩
  · simp at h
theorem elem_eq {t e : TypeId} (h : elemOfS P t = some e) : P.underlying t = some (.slice e) := by
  unfold elemOfS at h
  split at h
  · rename_i e' he
    simp at h
    subst h
    exact he
  · simp at h
theorem ptr_of {t : TypeId} (h : (ptrOf P t).isSome = true) : P.underlying t = some (.pointer (P.pointee t)) := by
  unfold ptrOf at h
  split at h
  · rename_i e he
    rw [he]
    simp [Program.pointee, he]
  · simp at h
theorem eqlSliceNil (W : World) (t e : TypeId) (a : Option Addr) (n c n' c' : Nat) (h : P.underlying t = some (.slice e)) :
    (binOp .eql t (.slice a n c) (.slice none n' c')).run P W = .ok (.bool a.isNone) W := by
  have h1 : ∀ d, (Op.equalIn (d + 1) t (.slice a n c) (.slice none n' c')).run P W = .ok a.isNone W := fun d => by
    cases a <;> simp [Op.equalIn, run_underlying h]
  simp only [binOp]
  simp [Op.equal, Op.maxDepth, h1 9999]
theorem neqSliceNil (W : World) (t e : TypeId) (a : Option Addr) (n c n' c' : Nat) (h : P.underlying t = some (.slice e)) :
    (binOp .neq t (.slice a n c) (.slice none n' c')).run P W = .ok (.bool (!a.isNone)) W := by
  have h1 : ∀ d, (Op.equalIn (d + 1) t (.slice a n c) (.slice none n' c')).run P W = .ok a.isNone W := fun d => by
    cases a <;> simp [Op.equalIn, run_underlying h]
  simp only [binOp]
  simp [Op.equal, Op.maxDepth, h1 9999]

/-- What an operation on two values comes to. -/
def Bin2 (P : Program) (hp : Im) (σ : Sg) (op : BinOp) (t : TypeId) (u v : Value) (K : AV → Prop) : Prop :=
  ∃ z r, (∀ W o1 o2, (eqGuard op t o1 o2 u v).run P W = .ok () W) ∧ (∀ W, (binOp op t u v).run P W = .ok z W) ∧ K r ∧ Rel hp σ r z
theorem Bin2.of {op : BinOp} {t : TypeId} {u v z : Value} {K : AV → Prop} (h1 : ∀ c d, ¬ (u = .agg c ∧ v = .agg d)) (h2 : ¬ (u = .nilIface ∧ v = .nilIface)) (hz : ∀ W, (binOp op t u v).run P W = .ok z W) (h : K (.v z)) :
    Bin2 P hp σ op t u v K := ⟨z, .v z, fun W o1 o2 => eqGuard_ok h1 h2, hz, h, by simp [Rel]⟩
theorem flat_struct {t : TypeId} {sh : List Sh} (h : flatSh P t = some sh) : P.underlying t = some (.struct (P.fieldsOf t)) ∧ P.stoodInHeld t = false ∧ P.eqGuardType P.depth t = false ∧ flatFs P 0 (P.fieldsOf t).toList = some sh := by
  unfold flatSh at h
  split at h
  · rename_i fs hf
    split at h
    · rename_i hc
      have : P.fieldsOf t = fs := by simp [Program.fieldsOf, hf]
      rw [this]
      exact ⟨hf, hc.1, hc.2, h⟩
    · simp at h
  · simp at h
theorem binA_sound {op : BinOp} {t : TypeId} {x y : AV} {u v : Value} {K : AV → Prop} (hx : Rel hp σ x u) (hy : Rel hp σ y v) (h : binA P op t x y K) : Bin2 P hp σ op t u v K := by
  unfold binA at h
  split at h
  · -- numbers
    rename_i k a k' b
    simp only [Rel] at hx hy
    subst hx hy
    split at h
    · obtain ⟨h0, h⟩ := h
      refine Bin2.of (by simp) (by simp) (fun W => ?_) h
      simp [binOp, Op.shift, Int.not_lt.2 h0]
    · obtain ⟨h0, h⟩ := h
      refine Bin2.of (by simp) (by simp) (fun W => ?_) h
      simp [binOp, Op.shift, Int.not_lt.2 h0]
    · obtain ⟨rfl, h⟩ := h
      obtain ⟨z, hz, hk⟩ := intA_sound (P := P) (t := t) h
      exact Bin2.of (by simp) (by simp) hz hk
  · simp only [Rel] at hx hy
    subst hx hy
    obtain ⟨z, hz, hk⟩ := strA_sound (P := P) (t := t) h
    exact Bin2.of (by simp) (by simp) hz hk
  · simp only [Rel] at hx hy
    subst hx hy
    split at h
    · exact Bin2.of (by simp) (by simp) (fun W => run_eql_bool W t _ _ h.1) h.2
    · exact Bin2.of (by simp) (by simp) (fun W => run_neq_bool W t _ _ h.1) h.2
    · exact h.elim
  · rename_i xs ys
    simp only [Rel] at hx hy
    obtain ⟨us, rfl, hx⟩ := hx
    obtain ⟨vs, rfl, hy⟩ := hy
    cases hf : flatSh P t with
    | none => rw [hf] at h; cases op <;> exact h.elim
    | some sh =>
      rw [hf, Option.bind_some] at h
      obtain ⟨hu, hs, hg, hfl⟩ := flat_struct hf
      cases he : eqSh sh xs ys with
      | none => rw [he] at h; cases op <;> exact h.elim
      | some b =>
        rw [he] at h
        have hrun : ∀ W : World, (Op.equalIn 10000 t (.agg us.toArray) (.agg vs.toArray)).run P W = .ok b W := fun W => by
          rw [run_equalIn_struct W 9999 t _ _ hu hs]
          exact eqSh_sound 9998 hp σ xs ys us vs hx hy _ 0 sh b hfl (by simpa using he)
        cases op
        case eql => exact ⟨.bool b, _, fun W o1 o2 => run_eqGuard_agg W .eql t o1 o2 _ _ hg, fun W => by rw [run_eql_struct, hrun]; rfl, h, by simp [Rel]⟩
        case neq => exact ⟨.bool !b, _, fun W o1 o2 => run_eqGuard_agg W .neq t o1 o2 _ _ hg, fun W => by rw [run_neq_struct, hrun]; rfl, h, by simp [Rel]⟩
        all_goals exact h.elim
  · simp only [Rel] at hx hy
    subst hx hy
    split at h
    · obtain ⟨e, he⟩ := elem_of h.1
      exact Bin2.of (by simp) (by simp) (fun W => eqlSliceNil W t e none 0 0 0 0 he) h.2
    · obtain ⟨e, he⟩ := elem_of h.1
      exact Bin2.of (by simp) (by simp) (fun W => neqSliceNil W t e none 0 0 0 0 he) h.2
    · exact h.elim
  · rename_i sz xs
    simp only [Rel] at hx hy
    obtain ⟨A, cap, rfl, _, hA⟩ := hx
    subst hy
    have hne : A.isNone = true → xs = [] := fun hn => Decidable.byContradiction fun hc => by
      obtain ⟨ad, rfl, _⟩ := hA (by simpa using hc)
      simp at hn
    split at h
    · obtain ⟨e, he⟩ := elem_of h.1
      exact Bin2.of (by simp) (by simp) (fun W => eqlSliceNil W t e A _ _ 0 0 he) (h.2 _ hne)
    · obtain ⟨e, he⟩ := elem_of h.1
      exact Bin2.of (by simp) (by simp) (fun W => neqSliceNil W t e A _ _ 0 0 he) (h.2 _ hne)
    · exact h.elim
  · simp only [Rel] at hx hy
    subst hx hy
    split at h
    · exact Bin2.of (by simp) (by simp) (fun W => run_eql_pointer_nil W t none (ptr_of h.1)) h.2
    · exact Bin2.of (by simp) (by simp) (fun W => run_neq_pointer_nil W t none (ptr_of h.1)) h.2
    · exact h.elim
  · simp only [Rel] at hx hy
    obtain ⟨k, _, rfl⟩ := hx
    subst hy
    split at h
    · exact Bin2.of (by simp) (by simp) (fun W => run_eql_pointer_nil W t (some _) (ptr_of h.1)) h.2
    · exact Bin2.of (by simp) (by simp) (fun W => run_neq_pointer_nil W t (some _) (ptr_of h.1)) h.2
    · exact h.elim
  · exact h.elim
end
end Go.Ai
set_option linter.unusedVariables false
set_option linter.unusedSimpArgs false
namespace Go.Ai
section
variable {P : Program} {hp : Im} {σ : Sg}

theorem add_spot {ad : Addr} (h : ad.spot = none) (j : Nat) : (ad.add j).spot = none := by
  obtain ⟨b, o, s⟩ := ad
  simp only at h
  subst h
  rw [add_none]
theorem RelCs.shift {ad : Addr} (h : ad.spot = none) (j : Nat) : ∀ (k : Nat) (cs : List AV), RelCs hp ad (j + k) cs → RelCs hp (ad.add j) k cs
  | _, [], _ => by simp [RelCs]
  | k, c :: cs, hr => by
    simp only [RelCs] at hr ⊢
    rw [add_add h]
    exact ⟨hr.1, RelCs.shift h j (k + 1) cs hr.2⟩
theorem RelRow.shift {ad : Addr} (h : ad.spot = none) (j : Nat) : ∀ (k sz : Nat) (xs : List (List AV)), RelRow hp ad (j + k) sz xs → RelRow hp (ad.add j) k sz xs
  | _, _, [], _ => by simp [RelRow]
  | k, sz, x :: xs, hr => by
    simp only [RelRow] at hr ⊢
    refine ⟨hr.1, RelCs.shift h j k x hr.2.1, RelRow.shift h j (k + sz) sz xs ?_⟩
    rw [← Nat.add_assoc]
    exact hr.2.2
theorem RelRow.take {ad : Addr} (sz : Nat) : ∀ (n k : Nat) (xs : List (List AV)), RelRow hp ad k sz xs → RelRow hp ad k sz (xs.take n)
  | 0, _, _, _ => by simp [RelRow]
  | _ + 1, _, [], _ => by simp [RelRow]
  | n + 1, k, x :: xs, hr => by
    simp only [RelRow, List.take_succ_cons] at hr ⊢
    exact ⟨hr.1, hr.2.1, RelRow.take sz n _ xs hr.2.2⟩
theorem RelRow.drop {ad : Addr} (sz : Nat) : ∀ (n k : Nat) (xs : List (List AV)), RelRow hp ad k sz xs → RelRow hp ad (k + n * sz) sz (xs.drop n)
  | 0, k, xs, hr => by simpa using hr
  | n + 1, k, [], hr => by simp [RelRow]
  | n + 1, k, x :: xs, hr => by
    simp only [RelRow] at hr
    have := RelRow.drop sz n (k + sz) xs hr.2.2
    have he : k + sz + n * sz = k + (n + 1) * sz := by rw [Nat.add_mul]; omega
    rw [he] at this
    simpa using this
theorem RelRow.get {ad : Addr} {sz : Nat} : ∀ (i k : Nat) (xs : List (List AV)), RelRow hp ad k sz xs → ∀ {cs}, xs[i]? = some cs → cs.length = sz ∧ RelCs hp ad (k + i * sz) cs
  | _, _, [], _, _, h => by simp at h
  | 0, k, x :: xs, hr, cs, h => by
    simp only [RelRow] at hr
    simp at h
    subst h
    simpa using ⟨hr.1, hr.2.1⟩
  | i + 1, k, x :: xs, hr, cs, h => by
    simp only [RelRow] at hr
    simp at h
    have := RelRow.get i (k + sz) xs hr.2.2 h
    have he : k + sz + i * sz = k + (i + 1) * sz := by rw [Nat.add_mul]; omega
    rw [he] at this
    exact this
theorem RelCs.drop {ad : Addr} : ∀ (n k : Nat) (cs : List AV), RelCs hp ad k cs → RelCs hp ad (k + n) (cs.drop n)
  | 0, k, cs, hr => by simpa using hr
  | n + 1, k, [], hr => by simp [RelCs]
  | n + 1, k, c :: cs, hr => by
    simp only [RelCs] at hr
    have := RelCs.drop n (k + 1) cs hr.2
    have he : k + 1 + n = k + (n + 1) := by omega
    rw [he] at this
    simpa using this

/-- A value comes of it whatever the memory. -/
def Yld (P : Program) (hp : Im) (σ : Sg) (m : Sem Value) (K : AV → Prop) : Prop := ∃ z r, (∀ W, m.run P W = .ok z W) ∧ K r ∧ Rel hp σ r z
theorem Yld.v {m : Sem Value} {z : Value} {K : AV → Prop} (hz : ∀ W, m.run P W = .ok z W) (h : K (.v z)) : Yld P hp σ m K := ⟨z, .v z, hz, h, by simp [Rel]⟩

def RelO (hp : Im) (σ : Sg) : Option AV → Option Value → Prop
  | none, none => True
  | some x, some u => Rel hp σ x u
  | _, _ => False
theorem sliceL_sound {b : Bool} {size cap : Nat} (hcap : size ≤ cap) {lo hi : Option AV} {ulo uhi : Option Value} {K : Nat → Nat → Prop} (hl : RelO hp σ lo ulo) (hh : RelO hp σ hi uhi) (h : sliceL size lo hi K) :
    ∃ l u, K l u ∧ l ≤ u ∧ u ≤ size ∧ ∀ W, (Instr.sliceBounds b size cap ulo uhi none).run P W = .ok (l, u, cap) W := by
  unfold sliceL at h
  split at h
  · cases ulo <;> simp [RelO] at hl
    cases uhi <;> simp [RelO] at hh
    exact ⟨0, size, h, Nat.zero_le _, Nat.le_refl _, fun W => by simp [Instr.sliceBounds]⟩
  · rename_i k l
    obtain ⟨h0, h1, h⟩ := h
    cases ulo <;> simp [RelO, Rel] at hl
    cases uhi <;> simp [RelO] at hh
    subst hl
    exact ⟨_, _, h, by omega, Nat.le_refl _, fun W => by simp [Instr.sliceBounds, run_sliceBound W k l _ _ h0 h1]⟩
  · rename_i k n
    obtain ⟨h0, h1, h⟩ := h
    cases ulo <;> simp [RelO, Rel] at hl
    cases uhi <;> simp [RelO, Rel] at hh
    subst hh
    exact ⟨_, _, h, by omega, by omega, fun W => by simp [Instr.sliceBounds, run_sliceBound W k n cap _ h0 (by omega)]⟩
  · rename_i k n k' l
    obtain ⟨h0, h1, h2, h3, h⟩ := h
    cases ulo <;> simp [RelO, Rel] at hl
    cases uhi <;> simp [RelO, Rel] at hh
    subst hl hh
    exact ⟨_, _, h, by omega, by omega, fun W => by simp [Instr.sliceBounds, run_sliceBound W k n cap _ h0 (by omega), run_sliceBound W k' l n.toNat _ h2 (by omega)]⟩
  · exact h.elim
theorem sized_of {t : TypeId} {sz : Nat} (h : sizedS P t sz) : ∃ e, P.underlying t = some (.slice e) ∧ szO P e = some sz := by
  unfold sizedS at h
  split at h
  · rename_i e he
    exact ⟨e, elem_eq he, h⟩
  · exact h.elim
theorem run_sliceAt_of {W : World} {t e : TypeId} {A : Option Addr} {len cap sz l h m : Nat} {lo hi mx : Option Value} (hu : P.underlying t = some (.slice e)) (hs : szO P e = some sz)
    (hb : (Instr.sliceBounds true len cap lo hi mx).run P W = .ok (l, h, m) W) :
    (Instr.sliceAt t (.slice A len cap) lo hi mx).run P W = .ok (.slice (if m = l then A else A.map (·.add (l * sz))) (h - l) (m - l)) W := by
  simp only [Instr.sliceAt, Sem.run_bind, run_underlying hu, Result.andThen_ok, Instr.slice, hb, run_sizeOf hs, Sem.run_pure]
/-- What is told of the room that a row has. -/
def RoomOk (σ : Sg) (x : AV) (u : Value) (rm : Option Nat) : Prop := ∀ r, rm = some r → ∃ id sz len, x = .row id sz 0 len ∧
  ((∃ k, σ id = some (.slice (some ⟨k, 0, none⟩) r r) ∧ u = .slice (some ⟨k, 0, none⟩) len r ∧ len ≤ r) ∨ (r = 0 ∧ len = 0 ∧ σ id = some (.slice none 0 0) ∧ ∃ A, u = .slice A 0 0))
theorem sliceL_hi {size len cap : Nat} (hcap : size ≤ cap) {lo : Option AV} {hi : AV} {ulo : Option Value} {uhi : Value} {K : Nat → Nat → Prop} (hl : RelO hp σ lo ulo) (hh : Rel hp σ hi uhi) (h : sliceL size lo (some hi) K) :
    ∃ l u, K l u ∧ l ≤ u ∧ u ≤ size ∧ ∀ W, (Instr.sliceBounds true len cap ulo (some uhi) none).run P W = .ok (l, u, cap) W := by
  unfold sliceL at h
  split at h
  · simp_all
  · simp_all
  · rename_i k n h0
    obtain ⟨h1, h2, h⟩ := h
    simp only [Option.some.injEq] at h0
    subst h0
    cases ulo <;> simp [RelO, Rel] at hl
    simp only [Rel] at hh
    subst hh
    exact ⟨_, _, h, by omega, by omega, fun W => by simp [Instr.sliceBounds, run_sliceBound W k n cap _ h1 (by omega)]⟩
  · rename_i k n k' l h0
    obtain ⟨h1, h2, h3, h4, h⟩ := h
    simp only [Option.some.injEq] at h0
    subst h0
    cases ulo <;> simp [RelO, Rel] at hl
    simp only [Rel] at hh
    subst hl hh
    exact ⟨_, _, h, by omega, by omega, fun W => by simp [Instr.sliceBounds, run_sliceBound W k n cap _ h1 (by omega), run_sliceBound W k' l n.toNat _ h3 (by omega)]⟩
  · exact h.elim
theorem sliceA_sound {t : TypeId} {x : AV} {u : Value} {lo hi mx : Option AV} {rm : Option Nat} {ulo uhi umx : Option Value} {K : AV → Prop} (hrm : RoomOk σ x u rm) (hx : Rel hp σ x u) (hl : RelO hp σ lo ulo) (hh : RelO hp σ hi uhi) (hm : RelO hp σ mx umx)
    (h : sliceA P t x lo hi mx rm K) : Yld P hp σ (Instr.sliceAt t u ulo uhi umx) K := by
  unfold sliceA at h
  split at h
  · rename_i km m
    split at h
    · rename_i sz xs kh n
      obtain ⟨rfl, rfl, hs, h⟩ := h
      obtain ⟨e, he, hsz⟩ := sized_of hs
      cases ulo <;> simp [RelO] at hl
      cases uhi <;> simp [RelO, Rel] at hh
      cases umx <;> simp [RelO, Rel] at hm
      subst hh hm
      simp only [Rel] at hx
      obtain ⟨A, cap, rfl, _, _⟩ := hx
      refine ⟨_, .nl, fun W => run_sliceAt_of (l := 0) (h := 0) (m := 0) he hsz ?_, h, by simp [Rel]⟩
      simp [Instr.sliceBounds, run_sliceBound W km 0 cap _ (by omega) (by omega), run_sliceBound W kh 0 0 _ (by omega) (by omega)]
    · rename_i id sz off len kl l kh n
      obtain ⟨h0, h1, h2, h3, hs, h⟩ := h
      obtain ⟨e, he, hsz⟩ := sized_of hs
      cases ulo <;> simp [RelO, Rel] at hl
      cases uhi <;> simp [RelO, Rel] at hh
      cases umx <;> simp [RelO, Rel] at hm
      subst hl hh hm
      have hxx : ∃ A c', u = .slice A len c' ∧ len ≤ c' := by
        simp only [Rel] at hx
        rcases hx with ⟨_, _, _, _, _, h, _⟩ | ⟨_, _, rfl, A, rfl⟩
        · exact h
        · exact ⟨A, 0, rfl, Nat.le_refl _⟩
      obtain ⟨A, c', rfl, hc'⟩ := hxx
      refine ⟨_, .junk, fun W => run_sliceAt_of (l := l.toNat) (h := n.toNat) (m := m.toNat) he hsz ?_, h, by simp [Rel]⟩
      simp [Instr.sliceBounds, run_sliceBound W km m c' _ (by omega) (by omega), run_sliceBound W kh n m.toNat _ (by omega) (by omega), run_sliceBound W kl l n.toNat _ (by omega) (by omega)]
    · exact h.elim
  · exact h.elim
  · cases umx <;> simp [RelO] at hm
    split at h
    · rename_i s
      obtain ⟨ht, h⟩ := h
      simp only [Rel] at hx
      subst hx
      obtain ⟨l, n, hk, _, _, hb⟩ := sliceL_sound (P := P) (b := false) (Nat.le_refl s.size) hl hh h
      exact .v (fun W => by simp [Instr.sliceAt, run_underlying ht, Instr.slice, hb]) hk
    · rename_i sz xs
      obtain ⟨hs, h⟩ := h
      obtain ⟨e, he, hsz⟩ := sized_of hs
      simp only [Rel] at hx
      obtain ⟨A, cap, rfl, hcap, hA⟩ := hx
      obtain ⟨l, n, hk, hln, hn, hb⟩ := sliceL_sound (P := P) (b := true) hcap hl hh h
      refine ⟨_, _, fun W => run_sliceAt_of he hsz (hb W), hk, ?_⟩
      simp only [Rel]
      have hlen : ((xs.take n).drop l).length = n - l := by simp; omega
      refine ⟨_, _, by rw [hlen], by omega, fun hne => ?_⟩
      have hlt : l < n := by
        rcases Nat.lt_or_ge l n with h' | h'
        · exact h'
        · exact absurd (List.eq_nil_of_length_eq_zero (by omega)) hne
      obtain ⟨ad, rfl, hsp, hr⟩ := hA (by intro hc; simp [hc] at hne)
      refine ⟨ad.add (l * sz), by rw [if_neg (by omega)]; rfl, add_spot hsp _, RelRow.shift hsp _ _ _ _ ?_⟩
      have := RelRow.drop sz l 0 _ (RelRow.take sz n 0 xs hr)
      rw [Nat.zero_add] at this
      exact this
    · rename_i id sz off len
      obtain ⟨hs, h⟩ := h
      obtain ⟨e, he, hsz⟩ := sized_of hs
      simp only [Rel] at hx
      -- where the room is told
      by_cases hwide : ∃ r hv, rm = some r ∧ hi = some hv
      · obtain ⟨r, hv, rfl, rfl⟩ := hwide
        simp only [sliceW] at h
        cases uhi with
        | none => simp [RelO] at hh
        | some uhi =>
        simp only [RelO] at hh
        obtain ⟨id', sz', len', hxe, hroom⟩ := hrm r rfl
        simp only [AV.row.injEq] at hxe
        obtain ⟨rfl, rfl, rfl, rfl⟩ := hxe
        rcases hroom with ⟨k, hσ, rfl, hle⟩ | ⟨rfl, rfl, hσ, A, rfl⟩
        · obtain ⟨l, n, hk, hln, hn, hb⟩ := sliceL_hi (P := P) (len := len) (Nat.le_refl r) hl hh h
          refine ⟨_, _, fun W => run_sliceAt_of he hsz (hb W), hk, ?_⟩
          simp only [Rel]
          refine .inl ⟨k, r, r, hσ, by omega, ⟨_, _, rfl, by omega⟩, fun hc => ?_⟩
          rcases hc with hc | hc
          · have h1 : l = 0 := by omega
            subst h1
            simp [add_none]
          · rw [if_neg (by omega)]
            simp [add_none]
        · obtain ⟨l, n, hk, hln, hn, hb⟩ := sliceL_hi (P := P) (len := 0) (Nat.le_refl 0) hl hh h
          have h0 : n = 0 := by omega
          have h1 : l = 0 := by omega
          subst h0 h1
          refine ⟨_, _, fun W => run_sliceAt_of he hsz (hb W), hk, ?_⟩
          simp only [Rel]
          exact .inr ⟨hσ, by simp, by simp, A, by simp⟩
      have h : sliceL len lo hi fun l h => K (.row id sz (off + l) (h - l)) := by
        cases rm with
        | none => exact h
        | some r =>
          cases hi with
          | none => exact h
          | some hv => exact absurd ⟨r, hv, rfl, rfl⟩ hwide
      rcases hx with ⟨k, n0, c, hσ, hle, ⟨A, c', rfl, hc'⟩, hA⟩ | ⟨hσ, rfl, rfl, A, rfl⟩
      · obtain ⟨l, n, hk, hln, hn, hb⟩ := sliceL_sound (P := P) (b := true) hc' hl hh h
        refine ⟨_, _, fun W => run_sliceAt_of he hsz (hb W), hk, ?_⟩
        simp only [Rel]
        refine .inl ⟨k, n0, c, hσ, by omega, ⟨_, _, rfl, by omega⟩, fun hc => ?_⟩
        rcases hc with hc | hc
        · have h0 : off = 0 := by omega
          have h1 : l = 0 := by omega
          subst h0 h1
          have hy := hA (.inl rfl)
          simp only [Value.slice.injEq] at hy
          obtain ⟨rfl, _, rfl⟩ := hy
          simp [add_none]
        · have hy := hA (.inr (by omega))
          simp only [Value.slice.injEq] at hy
          obtain ⟨rfl, _, rfl⟩ := hy
          rw [if_neg (by omega)]
          simp [add_none, Nat.add_mul, Nat.sub_sub]
      · obtain ⟨l, n, hk, hln, hn, hb⟩ := sliceL_sound (P := P) (b := true) (Nat.le_refl 0) hl hh h
        have h0 : n = 0 := by omega
        have h1 : l = 0 := by omega
        subst h0 h1
        refine ⟨_, _, fun W => run_sliceAt_of he hsz (hb W), hk, ?_⟩
        simp only [Rel]
        exact .inr ⟨hσ, by simp, by simp, A, by simp⟩
    · obtain ⟨hs, h⟩ := h
      unfold sizedA at hs
      split at hs
      · rename_i e he
        obtain ⟨sz, hsz⟩ := Option.isSome_iff_exists.1 hs
        simp only [Rel] at hx
        subst hx
        obtain ⟨l, n, hk, hln, hn, hb⟩ := sliceL_sound (P := P) (b := true) (Nat.le_refl 0) hl hh h
        have h0 : n = 0 := by omega
        have h1 : l = 0 := by omega
        subst h0 h1
        refine .v (fun W => ?_) hk
        rw [run_sliceAt_of (elem_eq he) hsz (hb W)]
        simp
      · exact hs.elim
    · exact h.elim

theorem struct_of {t : TypeId} {i off : Nat} {ft : TypeId} (h : fieldOf P t i = some (off, ft)) : ∃ fs f, P.underlying t = some (.struct fs) ∧ fs[i]? = some f ∧ f.offset = off ∧ f.type = ft := by
  unfold fieldOf at h
  split at h
  · rename_i fs hf
    cases hi : fs[i]? with
    | none => simp [hi] at h
    | some f => simp [hi] at h; exact ⟨fs, f, hf, hi, h.1, h.2⟩
  · simp at h
/-- An address moved on. -/
theorem moveA_sound {x : AV} {u : Value} {n : Nat} {K : AV → Prop} (hx : Rel hp σ x u) (h : moveA x n K) : ∃ ad r, u = .pointer (some ad) ∧ K r ∧ Rel hp σ r (.pointer (some (ad.add n))) := by
  cases x with
  | ptr id f =>
    simp only [Rel] at hx
    obtain ⟨k, h1, rfl⟩ := hx
    exact ⟨_, _, rfl, h, by simp only [Rel]; exact ⟨k, h1, by rw [add_none]⟩⟩
  | rptr id sz i f =>
    simp only [Rel] at hx
    obtain ⟨k, m, c, h1, h2, rfl⟩ := hx
    exact ⟨_, _, rfl, h, by simp only [Rel]; exact ⟨k, m, c, h1, h2, by rw [add_none, Nat.add_assoc]⟩⟩
  | eptr cs =>
    simp only [Rel] at hx
    obtain ⟨ad, rfl, hs, hr⟩ := hx
    refine ⟨_, _, rfl, h, ?_⟩
    simp only [Rel]
    refine ⟨_, rfl, add_spot hs n, RelCs.shift hs n 0 _ ?_⟩
    have := RelCs.drop n 0 cs hr
    rw [Nat.zero_add] at this
    exact this
  | _ => exact h.elim
theorem szO_ne {t : TypeId} (h : szOf P t ≠ 0) : szO P t = some (szOf P t) := by
  unfold szOf szO at *
  cases hi : P.info? t with
  | none => simp [hi] at h
  | some i => simp
theorem fieldAddrA_sound {t : TypeId} {x : AV} {u : Value} {i : Nat} {K : AV → Prop} (hx : Rel hp σ x u) (h : fieldAddrA P t x i K) : Yld P hp σ (Instr.fieldAt t u i) K := by
  unfold fieldAddrA at h
  split at h
  · rename_i off ft hf
    obtain ⟨h0, h⟩ := h
    obtain ⟨fs, f, hu, hfi, rfl, rfl⟩ := struct_of hf
    obtain ⟨ad, r, rfl, hk, hr⟩ := moveA_sound hx h
    refine ⟨_, r, fun W => ?_, hk, hr⟩
    simp [Instr.fieldAt, run_underlying hu, hfi, Instr.sureAddr, fieldPlace, run_sizeOf (szO_ne h0), h0]
  · exact h.elim
theorem run_part {W : World} {t : TypeId} {xs : List Value} {cs : List AV} {k : Nat} {r : AV} (hr : RelL hp σ cs xs) (h : ldv P t cs k = some r) : ∃ z, (∀ W, (part t xs.toArray k).run P W = .ok z W) ∧ Rel hp σ r z := by
  unfold ldv at h
  split at h
  · rename_i hag
    split at h
    · simp only [Option.some.injEq] at h
      subst h
      have hu : ∃ d, P.underlying t = some d := by
        unfold isAg at hag
        cases hu : P.underlying t with
        | none => simp [hu] at hag
        | some d => exact ⟨d, rfl⟩
      obtain ⟨d, hu⟩ := hu
      refine ⟨.agg ((xs.drop k).take (szOf P t)).toArray, fun W => ?_, ?_⟩
      · unfold part
        rw [Sem.run_bind, run_isAgg hag W]
        simp only [Result.andThen_ok, if_true, Sem.run_bind, run_sizeOf (szO_of_under hu) W, Sem.run_pure, List.extract_toArray, List.extract_eq_take_drop]
        rw [Nat.add_sub_cancel_left]
      · simp only [Rel]
        exact ⟨_, rfl, (hr.drop k).take _⟩
    · simp at h
  · rename_i hag
    obtain ⟨u, hu, hru, _⟩ := hr.get k h
    exact ⟨u, fun W => run_part_one hag hu, hru⟩
  · simp at h
theorem fieldA_sound {t : TypeId} {x r : AV} {u : Value} {i : Nat} (hx : Rel hp σ x u) (h : fieldA P t x i = some r) : ∃ z, (∀ W, (Instr.field t u i).run P W = .ok z W) ∧ Rel hp σ r z := by
  unfold fieldA fieldB at h
  split at h
  · rename_i cs off ft hf
    obtain ⟨fs, f, hu, hfi, rfl, rfl⟩ := struct_of hf
    simp only [Rel] at hx
    obtain ⟨vs, rfl, hv⟩ := hx
    obtain ⟨z, hz, hr⟩ := run_part (W := default) hv h
    exact ⟨z, fun W => by simp [Instr.field, run_underlying hu, hfi, asAgg, hz], hr⟩
  · simp at h
theorem arr_of {t : TypeId} {n : Nat} {e : TypeId} (h : arrOf P t = some (n, e)) : P.underlying t = some (.array n e) := by
  unfold arrOf at h
  split at h
  · rename_i n' e' he
    simp at h
    obtain ⟨rfl, rfl⟩ := h
    exact he
  · simp at h
end
end Go.Ai
set_option linter.unusedVariables false
set_option linter.unusedSimpArgs false
namespace Go.Ai
section
variable {P : Program} {hp : Im} {σ : Sg}

theorem exSh_out : ∀ {sh : List Sh} {K : List AV → Prop}, exSh sh K → ∃ cs, K cs
  | [], K, h => ⟨[], h⟩
  | .int k :: r, K, ⟨n, h⟩ => let ⟨cs, h⟩ := exSh_out h; ⟨_, h⟩
  | .bool :: r, K, ⟨n, h⟩ => let ⟨cs, h⟩ := exSh_out h; ⟨_, h⟩
  | .str :: r, K, ⟨n, h⟩ => let ⟨cs, h⟩ := exSh_out h; ⟨_, h⟩
  | .sl sz :: r, K, ⟨n, h⟩ => let ⟨cs, h⟩ := exSh_out h; ⟨_, h⟩
  | .other :: r, K, ⟨n, h⟩ => let ⟨cs, h⟩ := exSh_out h; ⟨_, h⟩
theorem run_indexAt_slice {W : World} {t e : TypeId} {ad : Addr} {k : IntKind} {len cap sz : Nat} {i : Int} (hu : P.underlying t = some (.slice e)) (hs : szO P e = some sz) (h0 : 0 ≤ i) (h1 : i < (len : Int)) :
    (Instr.indexAt t (.slice (some ad) len cap) (.int k i)).run P W = .ok (.pointer (some (ad.add (i.toNat * sz)))) W := by
  simp [Instr.indexAt, asIntOf, run_underlying hu, h0, h1, run_sizeOf hs]
theorem indexAddrA_sound {t : TypeId} {x y : AV} {u v : Value} {K : AV → Prop} (hx : Rel hp σ x u) (hy : Rel hp σ y v) (h : indexAddrA P t x y K) : Yld P hp σ (Instr.indexAt t u v) K := by
  unfold indexAddrA at h
  split at h
  · rename_i k i
    simp only [Rel] at hy
    subst hy
    split at h
    · rename_i sz xs
      split at h
      · rename_i e he
        obtain ⟨hs, h0, h⟩ := h
        obtain ⟨cs, hc, h⟩ := exSh_out h
        simp only [Rel] at hx
        obtain ⟨A, cap, rfl, hcap, hA⟩ := hx
        have hlt : i.toNat < xs.length := (List.getElem?_eq_some_iff.1 hc).1
        obtain ⟨ad, rfl, hsp, hr⟩ := hA (by intro hc'; simp [hc'] at hlt)
        obtain ⟨_, hcs⟩ := RelRow.get i.toNat 0 xs hr hc
        refine ⟨_, _, fun W => run_indexAt_slice (elem_eq he) hs h0 (by omega), h, ?_⟩
        simp only [Rel]
        refine ⟨_, rfl, add_spot hsp _, RelCs.shift hsp _ 0 _ ?_⟩
        rw [Nat.zero_add] at hcs
        exact hcs
      · exact h.elim
    · rename_i id sz off len
      split at h
      · rename_i e he
        obtain ⟨hs, h0, h1, h⟩ := h
        simp only [Rel] at hx
        rcases hx with ⟨k', n, c, hσ, hle, _, hA⟩ | ⟨_, _, rfl, _⟩
        · have hy := hA (.inr (by omega))
          subst hy
          refine ⟨_, _, fun W => run_indexAt_slice (elem_eq he) hs h0 h1, h, ?_⟩
          simp only [Rel]
          refine ⟨k', n, c, hσ, by omega, ?_⟩
          rw [add_none, Nat.add_mul, Nat.add_zero]
        · omega
      · exact h.elim
    · split at h
      · rename_i n e he
        split at h
        · rename_i sz hs
          obtain ⟨h0, h1, h⟩ := h
          obtain ⟨ad, r, rfl, hk, hr⟩ := moveA_sound hx h
          refine ⟨_, r, fun W => ?_, hk, hr⟩
          simp [Instr.indexAt, asIntOf, run_underlying (arr_of he), Instr.sureAddr, h0, h1, run_sizeOf hs]
        · exact h.elim
      · exact h.elim
  · exact h.elim
theorem indexA_sound {t : TypeId} {x y : AV} {u v : Value} {K : AV → Prop} (hx : Rel hp σ x u) (hy : Rel hp σ y v) (h : indexA P t x y K) : Yld P hp σ (Instr.index t u v) K := by
  unfold indexA at h
  split at h
  · rename_i k i
    simp only [Rel] at hy
    subst hy
    split at h
    · rename_i s
      obtain ⟨ht, h0, h1, h⟩ := h
      simp only [Rel] at hx
      subst hx
      refine .v (fun W => ?_) h
      have hlt : i.toNat < s.size := by omega
      have hb : s[i.toNat]? = some (s.data.getD i.toNat 0) := by
        have hs : s.size = s.data.size := rfl
        rw [getElem?_pos s i.toNat hlt]
        simp [ByteArray.getElem_eq_getElem_data, Array.getD, ← hs, hlt]
      simp [Instr.index, asIntOf, run_underlying ht, h0, hb]
    · rename_i cs
      split at h
      · rename_i n e he
        split at h
        · rename_i sz hs
          obtain ⟨h0, h1, h⟩ := h
          simp only [Rel] at hx
          obtain ⟨vs, rfl, hv⟩ := hx
          cases hl : ldv P e cs (i.toNat * sz) with
          | none => rw [hl] at h; exact h.elim
          | some r =>
            rw [hl] at h
            obtain ⟨z, hz, hr⟩ := run_part (W := default) hv hl
            refine ⟨z, r, fun W => ?_, h, hr⟩
            simp [Instr.index, asIntOf, run_underlying (arr_of he), h0, h1, run_sizeOf hs, hz]
        · exact h.elim
      · exact h.elim
    · exact h.elim
  · exact h.elim
theorem lenA_sound {t : TypeId} {x : AV} {u : Value} {K : AV → Prop} {ts : List TypeId} {ty : TypeId} (hx : Rel hp σ x u) (h : lenA P t x K) : Yld P hp σ (Builtin.len_ (t :: ts).toArray ty #[u]) K := by
  unfold lenA at h
  split at h
  · simp only [Rel] at hx
    subst hx
    exact .v (fun W => by simp [Builtin.len_, run_underlying h.1, goInt]) h.2
  · obtain ⟨e, he⟩ := elem_of h.1
    simp only [Rel] at hx
    subst hx
    exact .v (fun W => by simp [Builtin.len_, run_underlying he, goInt]) h.2
  · obtain ⟨e, he⟩ := elem_of h.1
    simp only [Rel] at hx
    obtain ⟨A, rfl⟩ := hx
    exact .v (fun W => by simp [Builtin.len_, run_underlying he, goInt]) h.2
  · obtain ⟨e, he⟩ := elem_of h.1
    simp only [Rel] at hx
    obtain ⟨A, cap, rfl, _⟩ := hx
    exact .v (fun W => by simp [Builtin.len_, run_underlying he, goInt]) h.2
  · obtain ⟨e, he⟩ := elem_of h.1
    simp only [Rel] at hx
    rcases hx with ⟨_, _, _, _, _, ⟨A, c', rfl, _⟩, _⟩ | ⟨_, _, rfl, A, rfl⟩
    · exact .v (fun W => by simp [Builtin.len_, run_underlying he, goInt]) h.2
    · exact .v (fun W => by simp [Builtin.len_, run_underlying he, goInt]) h.2
  · exact h.elim
theorem minA_sound {xs : List AV} {us : List Value} {r : AV} {ts : Array TypeId} {ty : TypeId} (hx : RelT hp σ xs us) (h : minA xs = some r) : ∃ z, (∀ W, (Builtin.min_ ts ty us.toArray).run P W = .ok z W) ∧ Rel hp σ r z := by
  unfold minA at h
  split at h
  · rename_i k x k' y
    simp only [Option.some.injEq] at h
    subst h
    match us, hx with
    | [u, v], hx =>
      simp only [RelT, Rel] at hx
      obtain ⟨rfl, rfl, _⟩ := hx
      exact ⟨.int k (if y < x then y else x), fun W => by simp [Builtin.min_, Builtin.min2], by simp [Rel]⟩
    | [], hx => simp [RelT] at hx
    | [_], hx => simp [RelT] at hx
    | _ :: _ :: _ :: _, hx => simp [RelT] at hx
  · simp at h
theorem unA_sound {op : UnOp} {x : AV} {u : Value} {s : St} {K : AV → St → Prop} (hx : Rel hp σ x u) (h : unA op x s K) : Yld P hp σ (Op.unary op u) (K · s) := by
  unfold unA at h
  split at h
  · simp only [Rel] at hx
    subst hx
    exact .v (fun W => by simp [Op.unary]) h
  · simp only [Rel] at hx
    subst hx
    exact .v (fun W => by simp [Op.unary, Op.intArith]) h
  · exact h.elim
theorem extractA_sound {x r : AV} {u : Value} {j : Nat} (hx : Rel hp σ x u) (h : extractA x j = some r) : ∃ z, (∀ W, (Instr.extract u j).run P W = .ok z W) ∧ Rel hp σ r z := by
  unfold extractA at h
  split at h
  · rename_i vs
    simp only [Rel] at hx
    obtain ⟨us, rfl, hv⟩ := hx
    obtain ⟨z, hz, hr⟩ := hv.get j h
    exact ⟨z, fun W => by simp [Instr.extract, hz], hr⟩
  · simp at h
theorem ifcA_sound {t : TypeId} {x : AV} {u : Value} {s : St} {K : AV → St → Prop} (hx : Rel hp σ x u) (h : ifcA P t x s K) : Yld P hp σ (Instr.makeInterface t u) (K · s) := by
  unfold ifcA at h
  split at h
  · rename_i hi
    unfold isIface at hi
    split at hi
    · simp at hi
    · rename_i d hne hd
      refine ⟨.iface t u, _, fun W => ?_, h, by simp only [Rel]; exact ⟨u, rfl, hx⟩⟩
      unfold Instr.makeInterface
      rw [Sem.run_bind, run_underlying hd W]
      cases d <;> first | rfl | exact absurd rfl (hne _)
    · simp at hi
  · exact h.elim
end
end Go.Ai
set_option linter.unusedVariables false
set_option linter.unusedSimpArgs false
namespace Go.Ai
section
variable {P : Program} {hp : Im} {σ : Sg}

theorem list_put (off : Nat) (l : List Value) (cs : List Value) (h : off + l.length ≤ cs.length) :
    (l.zipIdx 0).foldl (fun cs (x : Value × Nat) => cs.setIfInBounds (off + x.2) x.1) cs.toArray = (cs.take off ++ l ++ cs.drop (off + l.length)).toArray := by
  obtain ⟨h1, h2⟩ := Great.foldl_set off l 0 cs.toArray
  apply Array.ext'
  apply List.ext_getElem?
  intro k
  have h3 := h2 k
  rw [← Array.getElem?_toList] at h3
  rw [h3]
  simp only [Nat.add_zero, List.size_toArray, List.getElem?_toArray]
  by_cases hk : off ≤ k ∧ k < off + l.length ∧ k < cs.length
  · rw [if_pos hk, List.getElem?_append_left (by simp; omega), List.getElem?_append_right (by simp; omega)]
    congr 1
    simp
    omega
  · rw [if_neg hk]
    rcases Nat.lt_or_ge k off with hlt | hge
    · rw [List.getElem?_append_left (by simp; omega), List.getElem?_append_left (by simp; omega), List.getElem?_take_of_lt hlt]
    · rw [List.getElem?_append_right (by simp; omega), List.getElem?_drop]
      congr 1
      simp
      omega
theorem fillA_sound {cs cs' : List AV} {us : List Value} {off size : Nat} {x : AV} {v : Value} (hr : RelL hp σ cs us) (hx : Rel hp σ x v) (h : fillA cs off size x = some cs') :
    v.cells.size = size ∧ off + size ≤ us.length ∧ ∃ us', (v.cells.zipIdx.foldl (fun cs (c, j) => cs.setIfInBounds (off + j) c) us.toArray) = us'.toArray ∧ RelL hp σ cs' us' := by
  unfold fillA at h
  split at h
  · rename_i c hc
    split at h
    · rename_i hcond
      simp only [Option.some.injEq] at h
      subst h
      obtain ⟨ws, hw, hrw⟩ := rel_cells hx hc
      have hl := hrw.length
      have hl2 := hr.length
      have hsz : v.cells.size = size := by rw [hw]; simp; omega
      refine ⟨hsz, by omega, us.take off ++ ws ++ us.drop (off + ws.length), ?_, ?_⟩
      · rw [← Array.foldl_toList, Array.toList_zipIdx, hw]
        exact list_put off ws us (by omega)
      · rw [← hl, hcond.1]
        exact ((hr.take off).app hrw).app (hr.drop _)
    · simp at h
  · simp at h
theorem fillsA_sound (a : Act) (s : St) (hg : ∀ x, Rel hp σ (s.get x) (a.eval x)) (pl : Nat → Option (Nat × Nat)) : ∀ (l : List (Nat × Operand)) (cs cs' : List AV) (us : List Value), RelL hp σ cs us →
    fillsA pl cs (l.map fun p => (p.1, s.get p.2)) = some cs' → ∃ us' : List Value, Instr.fill pl us.toArray (l.map fun p => (p.1, a.eval p.2)) = some us'.toArray ∧ RelL hp σ cs' us'
  | [], cs, cs', us, hr, h => by
    simp [fillsA] at h
    subst h
    exact ⟨us, by simp [Instr.fill], hr⟩
  | (i, x) :: l, cs, cs', us, hr, h => by
    simp only [List.map_cons, fillsA] at h
    split at h
    · rename_i off size hp'
      cases hf : fillA cs off size (s.get x) with
      | none => rw [hf] at h; simp at h
      | some c1 =>
        rw [hf, Option.bind_some] at h
        obtain ⟨h1, h2, us1, h3, h4⟩ := fillA_sound hr (hg x) hf
        obtain ⟨us', h5, h6⟩ := fillsA_sound a s hg pl l c1 cs' us1 h4 h
        refine ⟨us', ?_, h6⟩
        simp only [List.map_cons, Instr.fill, hp']
        have hc : ((a.eval x).cells.size ≠ size || decide (off + (a.eval x).cells.size > us.toArray.size)) = false := by
          simp [h1]
          omega
        rw [if_neg (by rw [hc]; simp)]
        rw [h3]
        exact h5
    · simp at h
theorem zero_of {t : TypeId} {zs : List AV} (h : zeroC P t = some zs) : ∃ i z us, P.info? t = some i ∧ i.zero = some z ∧ z.cells = us.toArray ∧ zs = us.map .v ∧ ∀ hp σ, RelL hp σ zs us := by
  unfold zeroC at h
  cases hi : P.info? t with
  | none => simp [hi] at h
  | some i =>
    cases hz : i.zero with
    | none => simp [hi, hz] at h
    | some z =>
      simp only [hi, hz, Option.bind_some] at h
      split at h
      · rename_i ha
        simp only [Option.some.injEq] at h
        refine ⟨i, z, z.cells.toList, rfl, hz, by simp, h.symm, fun hp σ => ?_⟩
        rw [← h]
        exact RelL.vs _ fun u hu => by rw [← oneV_eq]; exact (List.all_eq_true.1 ha) u hu
      · simp at h
theorem buildA_sound {a : Act} {s : St} (hg : ∀ x, Rel hp σ (s.get x) (a.eval x)) {t : TypeId} {l : List (Nat × Operand)} {r : AV} (h : buildA P t (l.map fun p => (p.1, s.get p.2)) = some r) :
    ∃ z, (∀ W, (Instr.build t ((l.toArray).map fun (i, x) => (i, a.eval x))).run P W = .ok z W) ∧ Rel hp σ r z := by
  unfold buildA at h
  split at h
  case isFalse => simp at h
  rename_i hplaced
  cases hz : zeroC P t with
  | none => rw [hz] at h; simp at h
  | some zs =>
    rw [hz, Option.bind_some] at h
    obtain ⟨i, z, us, hi, hzz, hc, rfl, hrel⟩ := zero_of hz
    cases hf : fillsA (placesA P t) (us.map .v) (l.map fun p => (p.1, s.get p.2)) with
    | none => rw [hf] at h; simp at h
    | some cs =>
      rw [hf] at h
      simp only [Option.map_some, Option.some.injEq] at h
      subst h
      obtain ⟨us', h1, h2⟩ := fillsA_sound a s hg _ l _ _ us (hrel hp σ) hf
      refine ⟨.agg us'.toArray, fun W => run_build W t _ us'.toArray ?_, by simp only [Rel]; exact ⟨us', rfl, h2⟩⟩
      have hpl : ((l.toArray).map fun (i, x) => (i, a.eval x)).toList = l.map fun p => (p.1, a.eval p.2) := by simp
      rw [hpl]
      unfold Program.built
      unfold placesA at h1
      unfold placed at hplaced
      cases hu : P.underlying t with
      | none => rw [hu] at hplaced; simp at hplaced
      | some d =>
        rw [hu] at hplaced h1
        cases d
        case struct fs =>
          obtain ⟨ps, hps⟩ := Option.isSome_iff_exists.1 hplaced
          simp only [hps] at h1
          simp only [hi, hzz, hps, hc]
          exact h1
        case array n e =>
          obtain ⟨ie, hie⟩ := Option.isSome_iff_exists.1 hplaced
          simp only [hie] at h1
          simp only [hi, hzz, hie, hc]
          exact h1
        all_goals simp at hplaced
theorem assertA_sound {x r : AV} {u : Value} {xt t : TypeId} {ok : Bool} (hx : Rel hp σ x u) (h : assertA P x t ok = some r) : ∃ z, (∀ W, (Instr.typeAssert u xt t ok).run P W = .ok z W) ∧ Rel hp σ r z := by
  unfold assertA at h
  have hif : ∀ {W : World} {d : TypeDesc}, P.underlying t = some d → (∀ ms, d ≠ .interface ms) → ∀ (t' : TypeId) (v : Value), (Instr.typeAssert (.iface t' v) xt t ok).run P W = (if t' = t then (pure (if ok then .tuple #[v, .bool true] else v) : Sem Value) else
      (if ok then (do pure (.tuple #[← zeroValue t, .bool false])) else runtimePanic (.typeAssertion (some xt) (some t') t ""))).run P W := by
    intro W d hd hne t' v
    unfold Instr.typeAssert
    rw [Sem.run_bind, run_underlying hd W]
    cases d <;> first | (exact absurd rfl (hne _)) | (by_cases ht : t' = t <;> simp [ht]) 
  have hd : isIface P t = some false → ∃ d, P.underlying t = some d ∧ ∀ ms, d ≠ .interface ms := by
    intro hi
    unfold isIface at hi
    split at hi
    · simp at hi
    · rename_i d hne hd
      exact ⟨d, hd, fun ms hc => hne ms hc⟩
    · simp at hi
  unfold assertB at h
  split at h
  · rename_i t' y hi
    obtain ⟨d, hd1, hd2⟩ := hd hi
    simp only [Rel] at hx
    obtain ⟨v, rfl, hv⟩ := hx
    split at h
    · rename_i ht
      simp only [Option.some.injEq] at h
      subst h
      refine ⟨.tuple #[v, .bool true], fun W => by rw [hif hd1 hd2, if_pos ht.symm]; rfl, ?_⟩
      simp only [Rel]
      exact ⟨[v, .bool true], rfl, by simp only [RelT, Rel]; exact ⟨hv, trivial, trivial⟩⟩
    · rename_i ht
      unfold zeroV at h
      cases hii : P.info? t with
      | none => simp [hii] at h
      | some i =>
        cases hz : i.zero with
        | none => simp [hii, hz] at h
        | some z =>
          simp only [hii, hz, Option.bind_some, Option.map_some, Option.some.injEq] at h
          subst h
          refine ⟨.tuple #[z, .bool false], fun W => ?_, ?_⟩
          · rw [hif hd1 hd2, if_neg (fun hc => ht hc.symm)]
            simp [zeroValue, typeInfo, hii, hz]
          · simp only [Rel]
            exact ⟨[z, .bool false], rfl, by simp only [RelT, Rel]; exact ⟨rel_av _ _ z, trivial, trivial⟩⟩
  · rename_i t' y hi
    obtain ⟨d, hd1, hd2⟩ := hd hi
    simp only [Rel] at hx
    obtain ⟨v, rfl, hv⟩ := hx
    split at h
    · rename_i ht
      simp only [Option.some.injEq] at h
      subst h
      exact ⟨v, fun W => by rw [hif hd1 hd2, if_pos ht.symm]; rfl, hv⟩
    · simp at h
  · simp at h
end
end Go.Ai

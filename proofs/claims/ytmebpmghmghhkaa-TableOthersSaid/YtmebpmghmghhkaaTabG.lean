/- Tables: what is put is got; marks; plain laws. -/
import Derived.Test.YtmebpmghmghhkaaTabR
import Derived.Test.YtmebpmghmghhkaaTab15
set_option linter.unusedVariables false
set_option linter.unusedSimpArgs false
set_option maxRecDepth 100000
namespace Go.Ai
theorem check_of {o : Opr} (k1 : 1 ≤ o.kind) (k2 : o.kind ≤ 6) (h1 : 1 ≤ o.key.length) (h2 : o.key.length ≤ 16) (h3 : o.to.length ≤ 16) (h4 : o.value.length ≤ 200) (h5 : o.note.length ≤ 40) (h6 : numP o.rev) (h7 : numP o.life) : checkS 2 o = 0 := by
  unfold checkS
  rw [if_neg, if_neg, if_neg]
  · simp
  · rintro (h | h | h | h | h | h)
    · omega
    · omega
    · omega
    · omega
    · exact h h6
    · exact h h7
  · rintro (h | h | h | ⟨h, _⟩)
    · exact h (.inr rfl)
    · omega
    · omega
    · rw [h] at h1
      simp at h1
theorem num0 : numP 0 := ⟨by decide, by decide⟩
/-- A key that may be. -/
def okK (k : List UInt8) : Prop := 1 ≤ k.length ∧ k.length ≤ 5
theorem ck_put {k v : List UInt8} (hk : okK k) (hv : v.length ≤ 200) : checkS 2 (opPut k v) = 0 := check_of (by simp [opPut]) (by simp [opPut]) hk.1 (by have := hk.2; simp only [opPut]; omega) (by simp [opPut]) hv (by simp [opPut]) num0 num0
theorem ck_get {k : List UInt8} (hk : okK k) : checkS 2 (opGet k) = 0 := check_of (by simp [opGet]) (by simp [opGet]) hk.1 (by have := hk.2; simp only [opGet]; omega) (by simp [opGet]) (by simp [opGet]) (by simp [opGet]) num0 num0
theorem ck_del {k : List UInt8} (hk : okK k) : checkS 2 (opDel k) = 0 := check_of (by simp [opDel]) (by simp [opDel]) hk.1 (by have := hk.2; simp only [opDel]; omega) (by simp [opDel]) (by simp [opDel]) (by simp [opDel]) num0 num0
theorem ck_cas {k v : List UInt8} {n : Int} (hk : okK k) (hv : v.length ≤ 200) (hn : numP n) : checkS 2 (opCas k v n) = 0 := check_of (by simp only [opCas]; omega) (by simp only [opCas]; omega) hk.1 (by have := hk.2; simp only [opCas]; omega) (by simp [opCas]) hv (by simp [opCas]) hn num0
theorem ck_mark {k v : List UInt8} {n : Int} (hk : okK k) (hv : v.length ≤ 40) (hn : numP n) : checkS 2 (opMark k n v) = 0 := check_of (by simp only [opMark]; omega) (by simp only [opMark]; omega) hk.1 (by have := hk.2; simp only [opMark]; omega) (by simp [opMark]) (by simp [opMark]) hv num0 hn
/-- An op that leaves its key's record leaves all. -/
theorem chg_same {k : List UInt8} {t u : List Rec} (hs : Rise t) (h : Chg k t u (findT k t)) : u = t := by
  obtain ⟨h1, h2, h3, _⟩ := h.find hs
  refine rise_ext h1 hs fun j => ?_
  by_cases hj : j = k
  · subst hj
    exact h2
  · exact h3 j hj
theorem right_of {t : List Rec} {k : List UInt8} {x : Rec} (ht : tabR t = true) (h : findT k t = some x) : 0 ≤ x.rev ∧ x.rev ≤ 9007199254740992 := by
  have := (of_decide_eq_true ((tabR_iff.1 ht).2.1 x (findT_mem h).1) : RightP 2 x).2.2.2.2
  exact ⟨this.1, this.2.1⟩
/-- What a put gives. -/
theorem put_plain {t : List Rec} {k v : List UInt8} (ht : tabR t = true) (hm : ∀ r ∈ t, r.rev = 9007199254740992 → 5 ≤ t.length) (hk : okK k) (hv : v.length ≤ 200) :
    ((doS t (opPut k v)).r = faultS 50 ∧ (doS t (opPut k v)).t = t ∧ 4 ≤ t.length) ∨ (∃ x, findT k (doS t (opPut k v)).t = some x ∧ x.value = v ∧ (doS t (opPut k v)).r = ⟨0, x.rev, [], []⟩ ∧ 0 < x.rev ∧ x.rev ≤ 9007199254740992) := by
  obtain ⟨h1, h2, h3⟩ := do_cell ht (ck_put hk hv) (by simp [opPut])
  have hs := (tabR_iff.1 ht).1
  have hf := (h1.find hs).2.1
  have hcell : ∀ f b, cellC (opPut k v) f b = putC (opPut k v) f b := fun f b => rfl
  rw [hcell] at h1 h2 hf
  rw [show (opPut k v).key = k from rfl] at h1 h2 hf
  cases hc : findT k t with
  | none =>
    rw [hc] at h1 h2 hf
    unfold putC at h1 h2 hf
    simp only at h1 h2 hf
    by_cases h20 : 20 ≤ t.length
    · simp only [decide_eq_true h20, if_true] at h1 h2 hf
      refine .inl ⟨h2, ?_, by omega⟩
      rw [← hc] at h1
      exact chg_same hs h1
    · simp only [decide_eq_false h20, Bool.false_eq_true, if_false] at h1 h2 hf
      exact .inr ⟨_, hf, rfl, h2, by simp [newR], by simp [newR]⟩
  | some r =>
    have hrb := right_of ht hc
    rw [hc] at h1 h2 hf
    unfold putC at h1 h2 hf
    simp only at h1 h2 hf
    by_cases hx : r.rev = 9007199254740992
    · simp only [if_pos hx] at h1 h2 hf
      refine .inl ⟨h2, ?_, by have := hm r (findT_mem hc).1 hx; omega⟩
      rw [← hc] at h1
      exact chg_same hs h1
    · simp only [if_neg hx] at h1 h2 hf
      exact .inr ⟨_, hf, rfl, h2, by simp only; omega, by simp only; omega⟩
/-- What comes behind a put. -/
theorem gets_plain {t : List Rec} {k nw : List UInt8} {x : Rec} (ht : tabR t = true) (hk : okK k) (hw : nw.length ≤ 200) (hf : findT k t = some x) (h0 : 0 < x.rev) (hx : x.rev ≤ 9007199254740992) :
    (doS t (opGet k)).r = ⟨0, x.rev, x.value, []⟩ ∧ (doS t (opCas k nw (x.rev - 1))).r = ⟨71, x.rev, [], []⟩ ∧ (doS t (opDel k)).r = ⟨0, x.rev, [], []⟩ ∧ (doS (doS t (opDel k)).t (opGet k)).r = faultS 70 ∧
    (x.rev = 9007199254740992 → (doS t (opCas k nw x.rev)).r = faultS 50) ∧ (x.rev ≠ 9007199254740992 → (doS t (opCas k nw x.rev)).r = ⟨0, x.rev + 1, [], []⟩ ∧ (doS (doS t (opCas k nw x.rev)).t (opGet k)).r = ⟨0, x.rev + 1, nw, []⟩) := by
  have hs := (tabR_iff.1 ht).1
  have get : ∀ {u : List Rec}, tabR u = true → (doS u (opGet k)).r = match findT k u with
      | none => faultS 70
      | some y => ⟨0, y.rev, y.value, []⟩ := fun {u} hu => by
    have h2 := (do_cell hu (ck_get hk) (by simp [opGet])).2.1
    rw [show (opGet k).key = k from rfl] at h2
    rw [h2]
    unfold cellC
    rw [if_pos (show (opGet k).kind = 1 from rfl)]
    cases findT k u <;> rfl
  have cas : ∀ n, numP n → (doS t (opCas k nw n)).r = (if x.rev = n then putC (opCas k nw n) (some x) (decide (20 ≤ t.length)) else (some x, ⟨71, x.rev, [], []⟩)).2 ∧ findT k (doS t (opCas k nw n)).t = (if x.rev = n then putC (opCas k nw n) (some x) (decide (20 ≤ t.length)) else (some x, ⟨71, x.rev, [], []⟩)).1 ∧ tabR (doS t (opCas k nw n)).t = true := fun n hn => by
    obtain ⟨h1, h2, h3⟩ := do_cell ht (ck_cas hk hw hn) (by simp [opCas])
    have h4 := (h1.find hs).2.1
    rw [show (opCas k nw n).key = k from rfl, hf] at h2 h4
    have e : cellC (opCas k nw n) (some x) (decide (20 ≤ t.length)) = if x.rev = n then putC (opCas k nw n) (some x) (decide (20 ≤ t.length)) else (some x, ⟨71, x.rev, [], []⟩) := rfl
    rw [e] at h2 h4
    exact ⟨h2, h4, h3⟩
  obtain ⟨d1, d2, d3⟩ := do_cell ht (ck_del hk) (by simp [opDel])
  have d4 := (d1.find hs).2.1
  rw [show (opDel k).key = k from rfl, hf] at d2 d4
  refine ⟨by rw [get ht, hf], ?_, d2, ?_, fun hm => ?_, fun hm => ?_⟩
  · have := (cas (x.rev - 1) ⟨by omega, by omega⟩).1
    rw [if_neg (by omega)] at this
    exact this
  · rw [get d3, d4]
    rfl
  · have := (cas x.rev ⟨by omega, by omega⟩).1
    rw [if_pos rfl] at this
    rw [this]
    unfold putC
    simp only [if_pos hm]
  · obtain ⟨c1, c2, c3⟩ := cas x.rev ⟨by omega, by omega⟩
    rw [if_pos rfl] at c1 c2
    unfold putC at c1 c2
    simp only [if_neg hm] at c1 c2
    refine ⟨c1, ?_⟩
    rw [get c3, c2]
    rfl
end Go.Ai

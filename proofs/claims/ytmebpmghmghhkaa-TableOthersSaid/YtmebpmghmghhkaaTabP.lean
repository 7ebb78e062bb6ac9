/- Tables: plain laws. -/
import Derived.Test.YtmebpmghmghhkaaTab10
set_option linter.unusedVariables false
set_option linter.unusedSimpArgs false
set_option maxRecDepth 100000
namespace Go.Ai
/-- Keys rise. -/
def Rise (t : List Rec) : Prop := t.Pairwise (fun a b => cmpL a.key b.key < 0)
theorem posT_cons {k : List UInt8} {r : Rec} {t : List Rec} : posT k (r :: t) = if cmpL r.key k < 0 then posT k t + 1 else 0 := by
  unfold posT
  rw [List.takeWhile_cons]
  by_cases h : cmpL r.key k < 0 <;> simp [h]
theorem hereT_cons {k : List UInt8} {r : Rec} {t : List Rec} {i : Nat} : hereT k (r :: t) (i + 1) = hereT k t i := by
  unfold hereT
  simp
theorem hereT_zero {k : List UInt8} {r : Rec} {t : List Rec} : hereT k (r :: t) 0 = decide (r.key = k) := by
  unfold hereT
  simp
theorem posT_le {k : List UInt8} : ∀ {t : List Rec}, posT k t ≤ t.length
  | [] => by simp [posT]
  | r :: t => by
    have := posT_le (k := k) (t := t)
    rw [posT_cons, List.length_cons]
    split <;> omega
theorem atGo_none {k : List UInt8} : ∀ {t : List Rec} {n : Nat}, (∀ r ∈ t, ¬ r.key = k) → atGo k t n = -1
  | [], _, _ => rfl
  | r :: t, n, h => by
    rw [atGo_cons, if_neg (h r (by simp)), atGo_none fun x hx => h x (by simp [hx])]
theorem here_none {k : List UInt8} {t : List Rec} {i : Nat} (h : ∀ r ∈ t, ¬ r.key = k) : hereT k t i = false := by
  unfold hereT
  rw [decide_eq_false_iff_not]
  cases hx : t[i]? with
  | none => simp
  | some r => simpa using h r (List.mem_of_getElem? hx)
theorem cmp_ne {a b : List UInt8} (h : cmpL a b < 0) : ¬ a = b := fun hc => by
  rw [hc, cmp_self] at h
  omega
theorem cmp_not {a b : List UInt8} (h : cmpL a b < 0) : ¬ cmpL b a < 0 := fun hc => by
  rw [cmp_swap a b] at hc
  omega
theorem cmp_tri (a b : List UInt8) : cmpL a b < 0 ∨ a = b ∨ cmpL b a < 0 := by
  rcases cmp_bd a b with h | h | h
  · exact .inl (by omega)
  · exact .inr (.inl (cmp_zero h))
  · refine .inr (.inr ?_)
    rw [cmp_swap a b]
    omega
theorem rise_none {k : List UInt8} {r : Rec} {t : List Rec} (hs : Rise (r :: t)) (h : ¬ cmpL r.key k < 0) : ∀ x ∈ t, ¬ x.key = k := fun x hx hc => by
  have := (List.pairwise_cons.1 hs).1 x hx
  rw [hc] at this
  exact h this
theorem atGo_eq {k : List UInt8} : ∀ {t : List Rec} {n : Nat}, Rise t → atGo k t n = if hereT k t (posT k t) = true then ((n + posT k t : Nat) : Int) else -1
  | [], n, _ => by simp [atGo, hereT]
  | r :: t, n, hs => by
    have hp := List.pairwise_cons.1 hs
    rw [atGo_cons, posT_cons]
    by_cases h : r.key = k
    · have e : (if cmpL r.key k < 0 then posT k t + 1 else 0) = 0 := if_neg (by rw [h, cmp_self]; omega)
      rw [if_pos h, e, hereT_zero, if_pos (by simpa using h)]
      simp
    rw [if_neg h]
    by_cases h2 : cmpL r.key k < 0
    · have e : (if cmpL r.key k < 0 then posT k t + 1 else 0) = posT k t + 1 := if_pos h2
      rw [e, hereT_cons, atGo_eq (n := n + 1) hp.2, show n + 1 + posT k t = n + (posT k t + 1) by omega]
    · have e : (if cmpL r.key k < 0 then posT k t + 1 else 0) = 0 := if_neg h2
      rw [e, hereT_zero, if_neg (by simpa using h), atGo_none (rise_none hs h2)]
theorem withS_eq {r : Rec} : ∀ {t : List Rec}, Rise t → hereT r.key t (posT r.key t) = false → withS r t = t.take (posT r.key t) ++ r :: t.drop (posT r.key t)
  | [], _, _ => by simp [withS]
  | x :: t, hs, h => by
    have hp := List.pairwise_cons.1 hs
    rw [withS_cons]
    rw [posT_cons] at h ⊢
    rcases cmp_tri r.key x.key with h2 | h2 | h2
    · rw [if_pos h2, if_neg (cmp_not h2)]
      simp
    · rw [if_neg (by rw [h2, cmp_self]; omega), hereT_zero] at h
      simp [h2] at h
    · rw [if_pos h2, hereT_cons] at h
      rw [if_neg (cmp_not h2), if_pos h2, withS_eq hp.2 h]
      simp
theorem filter_none {α : Type} {p : α → Bool} : ∀ {l : List α}, (∀ x ∈ l, p x = false) → l.filter p = []
  | [], _ => rfl
  | x :: l, h => by
    rw [List.filter_cons_of_neg (by simp [h x (by simp)]), filter_none fun y hy => h y (by simp [hy])]
theorem scan_from {o : Opr} : ∀ {t : List Rec}, Rise t → (∀ r ∈ t, ¬ cmpL r.key o.key < 0) → t.filter (scanP o) = t.takeWhile fun r => !(!decide (o.to = []) && !decide (cmpL r.key o.to < 0))
  | [], _, _ => rfl
  | r :: t, hs, h => by
    have hp := List.pairwise_cons.1 hs
    have h0 := h r (by simp)
    have ih := scan_from (o := o) hp.2 (fun x hx => h x (by simp [hx]))
    rw [List.takeWhile_cons]
    by_cases ht : o.to = []
    · rw [List.filter_cons_of_pos (by simp [scanP, h0, ht]), ih]
      simp [ht]
    by_cases hl : cmpL r.key o.to < 0
    · rw [List.filter_cons_of_pos (by simp [scanP, h0, hl]), ih]
      simp [hl]
    · rw [List.filter_cons_of_neg (by simp [scanP, hl, ht]), filter_none]
      · simp [ht, hl]
      · intro x hx
        have h1 := hp.1 x hx
        have h2 : ¬ cmpL x.key o.to < 0 := fun hc => hl (cmp_trans h1 hc)
        simp [scanP, ht, h2]
theorem scanR_eq {o : Opr} : ∀ {t : List Rec}, Rise t → scanR t o = scanS t o (posT o.key t)
  | [], _ => rfl
  | r :: t, hs => by
    have hp := List.pairwise_cons.1 hs
    rw [posT_cons]
    by_cases h : cmpL r.key o.key < 0
    · have ih := scanR_eq (o := o) hp.2
      rw [if_pos h]
      unfold scanR scanS at ih ⊢
      rw [List.filter_cons_of_neg (by simp [scanP, h]), ih, List.drop_succ_cons]
    · rw [if_neg h]
      unfold scanR scanS
      rw [List.drop_zero, scan_from hs]
      intro x hx
      rcases List.mem_cons.1 hx with rfl | hx
      · exact h
      · exact fun hc => h (cmp_trans (hp.1 x hx) hc)
end Go.Ai

/- Tables: what an op makes of a table that may be, key by key. -/
import Derived.Test.YtmebpmghmghhkaaTabP
import Derived.Test.YtmebpmghmghhkaaTab3
import Derived.Test.YtmebpmghmghhkaaTab1
set_option linter.unusedVariables false
set_option linter.unusedSimpArgs false
set_option maxRecDepth 100000
namespace Go.Ai
def findT (k : List UInt8) (t : List Rec) : Option Rec := t.find? fun r => decide (r.key = k)
theorem findT_nil {k : List UInt8} : findT k [] = none := rfl
theorem findT_cons {k : List UInt8} {r : Rec} {t : List Rec} : findT k (r :: t) = if r.key = k then some r else findT k t := by
  unfold findT
  rw [List.find?_cons]
  by_cases h : r.key = k <;> simp [h]
theorem findT_none {k : List UInt8} : ∀ {t : List Rec}, (∀ r ∈ t, ¬ r.key = k) → findT k t = none
  | [], _ => rfl
  | r :: t, h => by
    rw [findT_cons, if_neg (h r (by simp)), findT_none fun x hx => h x (by simp [hx])]
theorem findT_mem {k : List UInt8} : ∀ {t : List Rec} {r : Rec}, findT k t = some r → r ∈ t ∧ r.key = k
  | [], r, h => by simp [findT] at h
  | x :: t, r, h => by
    rw [findT_cons] at h
    split at h
    · rename_i hx
      simp only [Option.some.injEq] at h
      subst h
      exact ⟨by simp, hx⟩
    · obtain ⟨h1, h2⟩ := findT_mem h
      exact ⟨by simp [h1], h2⟩
theorem findT_here {k : List UInt8} : ∀ {t : List Rec}, Rise t → (hereT k t (posT k t) = true → t[posT k t]? = findT k t ∧ (findT k t).isSome = true) ∧ (hereT k t (posT k t) = false → findT k t = none)
  | [], _ => by simp [hereT, findT]
  | r :: t, hs => by
    have hp := List.pairwise_cons.1 hs
    have ih := findT_here (k := k) hp.2
    rw [posT_cons, findT_cons]
    by_cases h2 : cmpL r.key k < 0
    · rw [if_pos h2, hereT_cons, if_neg (cmp_ne h2)]
      simpa using ih
    · rw [if_neg h2, hereT_zero]
      by_cases h : r.key = k
      · simp [h]
      · rw [if_neg h, findT_none (rise_none hs h2)]
        simp [h]
/-- Put in its place. -/
theorem findT_ins {k : List UInt8} {n : Rec} {a b : List Rec} (h : ∀ r ∈ a ++ b, ¬ r.key = n.key) : findT k (a ++ n :: b) = if n.key = k then some n else findT k (a ++ b) := by
  induction a with
  | nil => rw [List.nil_append, List.nil_append, findT_cons]
  | cons x a ih =>
    rw [List.cons_append, findT_cons, ih fun r hr => h r (by simp at hr ⊢; exact .inr hr), List.cons_append, findT_cons]
    by_cases h1 : x.key = k
    · have : ¬ n.key = k := fun hc => h x (by simp) (by rw [h1, hc])
      simp [h1, this]
    · simp [h1]
theorem findT_del {k : List UInt8} {n : Rec} {a b : List Rec} (h : ∀ r ∈ a ++ b, ¬ r.key = n.key) : findT k (a ++ b) = if n.key = k then none else findT k (a ++ n :: b) := by
  rw [findT_ins h]
  by_cases h1 : n.key = k
  · rw [if_pos h1]
    exact findT_none fun r hr hc => h r hr (by rw [hc, h1])
  · rw [if_neg h1, if_neg h1]
theorem split_at {t : List Rec} {i : Nat} {r : Rec} (h : t[i]? = some r) : t = t.take i ++ r :: t.drop (i + 1) := by
  obtain ⟨h1, h2⟩ := List.getElem?_eq_some_iff.1 h
  rw [← h2, List.getElem_cons_drop, List.take_append_drop]
theorem set_split {t : List Rec} {i : Nat} {r x : Rec} (h : t[i]? = some r) : t.set i x = t.take i ++ x :: t.drop (i + 1) := by
  have h1 := (List.getElem?_eq_some_iff.1 h).1
  rw [List.set_eq_take_append_cons_drop, if_pos h1]
theorem rise_uniq {t : List Rec} {a b : List Rec} {r : Rec} (hs : Rise (a ++ r :: b)) : ∀ x ∈ a ++ b, ¬ x.key = r.key := fun x hx hc => by
  unfold Rise at hs
  rw [List.pairwise_append] at hs
  rcases List.mem_append.1 hx with hx | hx
  · have := hs.2.2 x hx r (by simp)
    rw [hc, cmp_self] at this
    omega
  · have := (List.pairwise_cons.1 hs.2.1).1 x hx
    rw [hc, cmp_self] at this
    omega
theorem rise_swap {a b : List Rec} {r x : Rec} (hk : x.key = r.key) (hs : Rise (a ++ r :: b)) : Rise (a ++ x :: b) := by
  unfold Rise at hs ⊢
  rw [List.pairwise_append] at hs ⊢
  refine ⟨hs.1, ?_, fun u hu v hv => ?_⟩
  · rw [List.pairwise_cons] at hs ⊢
    exact ⟨fun y hy => by rw [hk]; exact hs.2.1.1 y hy, hs.2.1.2⟩
  · rcases List.mem_cons.1 hv with rfl | hv
    · rw [hk]
      exact hs.2.2 u hu r (by simp)
    · exact hs.2.2 u hu v (by simp [hv])
theorem rise_del {a b : List Rec} {r : Rec} (hs : Rise (a ++ r :: b)) : Rise (a ++ b) :=
  List.Pairwise.sublist (List.Sublist.append_left (List.sublist_cons_self r b) a) hs
theorem take_lt {k : List UInt8} : ∀ {t : List Rec}, Rise t → (∀ r ∈ t.take (posT k t), cmpL r.key k < 0) ∧ (∀ r ∈ t.drop (posT k t), ¬ cmpL r.key k < 0)
  | [], _ => by simp
  | r :: t, hs => by
    have hp := List.pairwise_cons.1 hs
    have ih := take_lt (k := k) hp.2
    rw [posT_cons]
    by_cases h2 : cmpL r.key k < 0
    · rw [if_pos h2]
      simp only [List.take_succ_cons, List.drop_succ_cons]
      refine ⟨fun x hx => ?_, ih.2⟩
      rcases List.mem_cons.1 hx with rfl | hx
      · exact h2
      · exact ih.1 x hx
    · rw [if_neg h2]
      simp only [List.take_zero, List.drop_zero]
      refine ⟨by simp, fun x hx => ?_⟩
      rcases List.mem_cons.1 hx with rfl | hx
      · exact h2
      · exact fun hc => h2 (cmp_trans (hp.1 x hx) hc)
theorem rise_ins {t : List Rec} {n : Rec} (hs : Rise t) (h : findT n.key t = none) : Rise (t.take (posT n.key t) ++ n :: t.drop (posT n.key t)) := by
  obtain ⟨h1, h2⟩ := take_lt (k := n.key) hs
  have hne : ∀ r ∈ t, ¬ r.key = n.key := fun r hr hc => by
    unfold findT at h
    rw [List.find?_eq_none] at h
    exact h r hr (by simpa using hc)
  have hs' : Rise (t.take (posT n.key t) ++ t.drop (posT n.key t)) := by rw [List.take_append_drop]; exact hs
  unfold Rise at hs' ⊢
  rw [List.pairwise_append] at hs' ⊢
  have hb : ∀ r ∈ t.drop (posT n.key t), cmpL n.key r.key < 0 := fun r hr => by
    rcases cmp_tri n.key r.key with h | h | h
    · exact h
    · exact absurd h.symm (hne r (List.mem_of_mem_drop hr))
    · exact absurd h (h2 r hr)
  refine ⟨hs'.1, List.pairwise_cons.2 ⟨hb, hs'.2.1⟩, fun u hu v hv => ?_⟩
  rcases List.mem_cons.1 hv with rfl | hv
  · exact h1 u hu
  · exact hs'.2.2 u hu v hv
theorem tabR_iff {t : List Rec} : tabR t = true ↔ Rise t ∧ (∀ r ∈ t, rightR 2 r = true) ∧ t.length ≤ 20 := by
  unfold tabR
  rw [Bool.and_eq_true, decide_eq_true_eq]
  have key : ∀ {t : List Rec} {k : List UInt8}, (∀ r ∈ t, cmpL k r.key < 0) → Rise t → (∀ r ∈ t, rightR 2 r = true) → tabGo k t = true := by
    intro t
    induction t with
    | nil => intros; rfl
    | cons x t ih =>
      intro k h1 h2 h3
      have hp := List.pairwise_cons.1 h2
      unfold tabGo
      rw [h3 x (by simp), decide_eq_true (h1 x (by simp)), ih hp.1 hp.2 fun r hr => h3 r (by simp [hr])]
      rfl
  constructor
  · rintro ⟨h1, h2⟩
    obtain ⟨h3, h4⟩ := tabGo_pw h1
    exact ⟨h3, fun r hr => (h4 r hr).2, h2⟩
  · rintro ⟨h1, h2, h3⟩
    refine ⟨key (fun r hr => ?_) h1 h2, h3⟩
    have := (of_decide_eq_true (h2 r hr) : RightP 2 r).2.1
    cases hk : r.key with
    | nil => rw [hk] at this; simp at this
    | cons a b => simp [cmpL]
/-- What an op makes of its key's record. -/
def putC (o : Opr) (f : Option Rec) (full : Bool) : Option Rec × Rpy := match f with
  | none => if full = true then (none, faultS 50) else (some (newR o.key o.value), ⟨0, 1, [], []⟩)
  | some r => if r.rev = 9007199254740992 then (some r, faultS 50) else (some { putG o r with rev := r.rev + 1 }, ⟨0, r.rev + 1, [], []⟩)
def revC (f : Option Rec) : Int := match f with
  | none => 0
  | some r => r.rev
def markC (o : Opr) (f : Option Rec) : Option Rec × Rpy := match f with
  | none => (none, faultS 70)
  | some r => if r.rev = 9007199254740992 then (some r, faultS 50) else (some { markG o r with rev := r.rev + 1 }, ⟨0, r.rev + 1, [], []⟩)
def cellC (o : Opr) (f : Option Rec) (full : Bool) : Option Rec × Rpy :=
  if o.kind = 1 then (match f with
    | none => (none, faultS 70)
    | some r => (some r, ⟨0, r.rev, r.value, []⟩)) else
  if o.kind = 2 then putC o f full else
  if o.kind = 3 then (match f with
    | none => (none, faultS 70)
    | some r => (none, ⟨0, r.rev, [], []⟩)) else
  if o.kind = 4 then (if revC f = o.rev then putC o f full else (f, ⟨71, revC f, [], []⟩)) else
  markC o f
/-- The ways a table changes, by one key. -/
inductive Chg (k : List UInt8) (t : List Rec) : List Rec → Option Rec → Prop
  | same : Chg k t t (findT k t)
  | set {i : Nat} {r x : Rec} : t[i]? = some r → r.key = k → x.key = k → Chg k t (t.set i x) (some x)
  | ins {x : Rec} : findT k t = none → t.length < 20 → x.key = k → Chg k t (t.take (posT k t) ++ x :: t.drop (posT k t)) (some x)
  | del {i : Nat} {r : Rec} : t[i]? = some r → r.key = k → Chg k t (t.take i ++ t.drop (i + 1)) none
theorem Chg.find {k : List UInt8} {t u : List Rec} {f : Option Rec} (hs : Rise t) (h : Chg k t u f) : Rise u ∧ findT k u = f ∧ (∀ j, j ≠ k → findT j u = findT j t) ∧ u.length + (if (findT k t).isSome then 1 else 0) = t.length + (if f.isSome then 1 else 0) := by
  have uniq : ∀ {i : Nat} {r : Rec}, t[i]? = some r → findT r.key t = some r := fun {i r} hr => by
    have e := split_at hr
    have hs' := hs
    rw [e] at hs'
    rw [e, findT_ins (rise_uniq (t := t) hs'), if_pos rfl]
  cases h with
  | same => exact ⟨hs, rfl, fun _ _ => rfl, rfl⟩
  | @set i r x hr hk hx =>
    have e := split_at hr
    have hs' := hs
    rw [e] at hs'
    have hu := rise_uniq (t := t) hs'
    have hu' : ∀ y ∈ t.take i ++ t.drop (i + 1), ¬ y.key = x.key := fun y hy => by rw [hx, ← hk]; exact hu y hy
    rw [set_split hr]
    refine ⟨rise_swap (by rw [hx, hk]) hs', by rw [findT_ins hu', if_pos hx], fun j hj => ?_, ?_⟩
    · rw [findT_ins hu', if_neg (by rw [hx]; exact fun hc => hj hc.symm)]
      conv => rhs; rw [e]
      rw [findT_ins hu, if_neg (by rw [hk]; exact fun hc => hj hc.symm)]
    · rw [← hk, uniq hr]
      have h1 := (List.getElem?_eq_some_iff.1 hr).1
      simp
      omega
  | @ins x hn hl hx =>
    have hne : ∀ r ∈ t, ¬ r.key = x.key := fun r hr hc => by
      unfold findT at hn
      rw [List.find?_eq_none] at hn
      exact hn r hr (by rw [hc, hx]; simp)
    have hu : ∀ y ∈ t.take (posT k t) ++ t.drop (posT k t), ¬ y.key = x.key := by rw [List.take_append_drop]; exact hne
    have hri := rise_ins (n := x) hs (by rw [hx]; exact hn)
    rw [hx] at hri
    refine ⟨hri, by rw [findT_ins hu, if_pos hx], fun j hj => ?_, ?_⟩
    · rw [findT_ins hu, if_neg (by rw [hx]; exact fun hc => hj hc.symm), List.take_append_drop]
    · rw [hn]
      have := posT_le (k := k) (t := t)
      simp
      omega
  | @del i r hr hk =>
    have e := split_at hr
    have hs' := hs
    rw [e] at hs'
    have hu := rise_uniq (t := t) hs'
    refine ⟨rise_del hs', by rw [findT_del hu, if_pos hk], fun j hj => ?_, ?_⟩
    · rw [findT_del hu, if_neg (by rw [hk]; exact fun hc => hj hc.symm), ← e]
    · rw [← hk, uniq hr]
      have h1 := (List.getElem?_eq_some_iff.1 hr).1
      simp
      omega
theorem right_new {o : Opr} (h : checkS 2 o = 0) (hk : o.kind ≠ 6) : rightR 2 (newR o.key o.value) = true := by
  unfold checkS at h
  split at h
  · simp at h
  rename_i h1
  split at h
  · simp at h
  rename_i h2
  have hne : o.key ≠ [] := fun hc => h1 (.inr (.inr (.inr ⟨hc, hk⟩)))
  have hpos : 1 ≤ o.key.length := List.length_pos_iff.2 hne
  apply decide_eq_true
  unfold newR
  refine ⟨.inr rfl, hpos, by simp only; omega, by simp only; omega, by simp, by simp, by simp, by simp, by simp, by simp, show extraS 2 [] = true by decide⟩
theorem right_put {o : Opr} {r : Rec} (h : checkS 2 o = 0) (hr : rightR 2 r = true) (hm : ¬ r.rev = 9007199254740992) : rightR 2 { putG o r with rev := r.rev + 1 } = true := by
  unfold checkS at h
  split at h
  · simp at h
  split at h
  · simp at h
  rename_i h2
  obtain ⟨g1, g2, g3, g4, g5, g6, g7, g8, g9, g10, g11⟩ := (of_decide_eq_true hr : RightP 2 r)
  apply decide_eq_true
  unfold putG
  exact ⟨g1, g2, g3, by simp only; omega, by simp only; omega, by simp only; omega, by simp, g8, g9, g10, g11⟩
theorem right_mark {o : Opr} {r : Rec} (h : checkS 2 o = 0) (hr : rightR 2 r = true) (hm : ¬ r.rev = 9007199254740992) : rightR 2 { markG o r with rev := r.rev + 1 } = true := by
  unfold checkS at h
  split at h
  · simp at h
  split at h
  · simp at h
  rename_i h2
  have hl : numP o.life := Decidable.byContradiction fun hc => h2 (.inr (.inr (.inr (.inr (.inr hc)))))
  obtain ⟨g1, g2, g3, g4, g5, g6, g7, g8, g9, g10, g11⟩ := (of_decide_eq_true hr : RightP 2 r)
  apply decide_eq_true
  unfold markG
  exact ⟨g1, g2, g3, g4, by simp only; omega, by simp only; omega, by simp, hl.1, hl.2, by simp only; omega, g11⟩
/-- An op, key by key. -/
theorem do_cell {t : List Rec} {o : Opr} (ht : tabR t = true) (ho : checkS 2 o = 0) (hk : o.kind ≠ 6) :
    Chg o.key t (doS t o).t (cellC o (findT o.key t) (decide (20 ≤ t.length))).1 ∧ (doS t o).r = (cellC o (findT o.key t) (decide (20 ≤ t.length))).2 ∧ tabR (doS t o).t = true := by
  obtain ⟨hs, hr, hl⟩ := tabR_iff.1 ht
  have e : doS t o = stepS t o (posT o.key t) (hereT o.key t (posT o.key t)) := by
    unfold doS
    rw [if_pos ⟨ht, ho⟩]
  rw [e]
  obtain ⟨f1, f2⟩ := findT_here (k := o.key) hs
  have hk5 : ¬ o.kind = 1 → ¬ o.kind = 2 → ¬ o.kind = 3 → ¬ o.kind = 4 → o.kind = 5 := by
    intro k1 k2 k3 k4
    have := ho
    unfold checkS at this
    split at this
    · simp at this
    · rename_i hn
      have h1 : ¬ o.kind < 1 := fun hc => hn (.inr (.inl hc))
      have h2 : ¬ 6 < o.kind := fun hc => hn (.inr (.inr (.inl hc)))
      omega
  have hsame : Chg o.key t t (findT o.key t) := .same
  have rset : ∀ {i : Nat} {x : Rec}, rightR 2 x = true → x.key = o.key → (∃ r, t[i]? = some r ∧ r.key = o.key) → tabR (t.set i x) = true := fun {i x} hx hxk ⟨r, hi, hrk⟩ => by
    have hc : Chg o.key t (t.set i x) (some x) := .set hi hrk hxk
    refine tabR_iff.2 ⟨(hc.find hs).1, fun y hy => ?_, by simpa using hl⟩
    rcases List.mem_or_eq_of_mem_set hy with hy | rfl
    · exact hr y hy
    · exact hx
  cases hh : hereT o.key t (posT o.key t)
  · -- the key has none
    have hf := f2 hh
    rw [hf] at hsame ⊢
    have put : Chg o.key t (putS t o (posT o.key t) false).t (putC o none (decide (20 ≤ t.length))).1 ∧ (putS t o (posT o.key t) false).r = (putC o none (decide (20 ≤ t.length))).2 ∧ tabR (putS t o (posT o.key t) false).t = true := by
      unfold putS putC
      rw [if_neg (by simp)]
      by_cases h20 : 20 ≤ t.length
      · simp only [if_pos h20, decide_eq_true h20, if_true]
        exact ⟨hsame, by trivial, ht⟩
      · simp only [if_neg h20, decide_eq_false h20, Bool.false_eq_true, if_false]
        have hc : Chg o.key t (t.take (posT o.key t) ++ newR o.key o.value :: t.drop (posT o.key t)) (some (newR o.key o.value)) := .ins hf (by omega) rfl
        refine ⟨hc, by trivial, tabR_iff.2 ⟨(hc.find hs).1, fun y hy => ?_, ?_⟩⟩
        · rcases List.mem_append.1 hy with hy | hy
          · exact hr y (List.mem_of_mem_take hy)
          · rcases List.mem_cons.1 hy with rfl | hy
            · exact right_new ho hk
            · exact hr y (List.mem_of_mem_drop hy)
        · have := posT_le (k := o.key) (t := t)
          simp
          omega
    unfold stepS cellC
    by_cases k1 : o.kind = 1
    · simp only [if_pos k1, Bool.false_eq_true, if_false]
      exact ⟨hsame, by trivial, ht⟩
    by_cases k2 : o.kind = 2
    · simp only [if_neg k1, if_pos k2]
      exact put
    by_cases k3 : o.kind = 3
    · simp only [if_neg k1, if_neg k2, if_pos k3, Bool.false_eq_true, if_false]
      exact ⟨hsame, by trivial, ht⟩
    by_cases k4 : o.kind = 4
    · have v0 : revS t (posT o.key t) false = 0 := rfl
      by_cases hv : 0 = o.rev
      · simp only [if_neg k1, if_neg k2, if_neg k3, if_pos k4, if_pos (show revS t (posT o.key t) false = o.rev from hv), if_pos (show revC none = o.rev from hv)]
        exact put
      · simp only [if_neg k1, if_neg k2, if_neg k3, if_pos k4, if_neg (show ¬ revS t (posT o.key t) false = o.rev from hv), if_neg (show ¬ revC none = o.rev from hv)]
        exact ⟨hsame, by rw [v0]; rfl, ht⟩
    have k5 := hk5 k1 k2 k3 k4
    simp only [if_neg k1, if_neg k2, if_neg k3, if_neg k4, if_pos k5, markC, Bool.false_eq_true, if_false]
    exact ⟨hsame, by trivial, ht⟩
  · -- the key has one
    obtain ⟨g1, g2⟩ := f1 hh
    obtain ⟨r, hf⟩ := Option.isSome_iff_exists.1 g2
    rw [hf] at g1 hsame ⊢
    obtain ⟨hrm, hrk⟩ := findT_mem hf
    have hrr := hr r hrm
    generalize posT o.key t = i at g1 hh ⊢
    have hrev : revS t i true = r.rev := by
      unfold revS
      rw [if_pos rfl, g1]
    have put : Chg o.key t (putS t o i true).t (putC o (some r) (decide (20 ≤ t.length))).1 ∧ (putS t o i true).r = (putC o (some r) (decide (20 ≤ t.length))).2 ∧ tabR (putS t o i true).t = true := by
      unfold putS putC changeS
      rw [if_pos rfl, g1]
      by_cases hx : r.rev = 9007199254740992
      · simp only [if_pos hx]
        exact ⟨hsame, by trivial, ht⟩
      · simp only [if_neg hx]
        exact ⟨.set g1 hrk hrk, by trivial, rset (right_put ho hrr hx) hrk ⟨r, g1, hrk⟩⟩
    unfold stepS cellC
    by_cases k1 : o.kind = 1
    · simp only [if_pos k1, if_true, hrev, g1]
      exact ⟨hsame, by trivial, ht⟩
    by_cases k2 : o.kind = 2
    · simp only [if_neg k1, if_pos k2]
      exact put
    by_cases k3 : o.kind = 3
    · simp only [if_neg k1, if_neg k2, if_pos k3, if_true, hrev]
      have hc : Chg o.key t (t.take i ++ t.drop (i + 1)) none := .del g1 hrk
      refine ⟨hc, by trivial, tabR_iff.2 ⟨(hc.find hs).1, fun y hy => ?_, ?_⟩⟩
      · rcases List.mem_append.1 hy with hy | hy
        · exact hr y (List.mem_of_mem_take hy)
        · exact hr y (List.mem_of_mem_drop hy)
      · simp
        omega
    by_cases k4 : o.kind = 4
    · by_cases hv : r.rev = o.rev
      · simp only [if_neg k1, if_neg k2, if_neg k3, if_pos k4, if_pos (hrev.trans hv), if_pos (show revC (some r) = o.rev from hv)]
        exact put
      · simp only [if_neg k1, if_neg k2, if_neg k3, if_pos k4, if_neg (fun hc => hv (hrev.symm.trans hc)), if_neg (show ¬ revC (some r) = o.rev from hv)]
        exact ⟨hsame, by rw [hrev]; rfl, ht⟩
    have k5 := hk5 k1 k2 k3 k4
    simp only [if_neg k1, if_neg k2, if_neg k3, if_neg k4, if_pos k5, if_true, markC, changeS, g1]
    by_cases hx : r.rev = 9007199254740992
    · simp only [if_pos hx]
      exact ⟨hsame, by trivial, ht⟩
    · simp only [if_neg hx]
      exact ⟨.set g1 hrk hrk, by trivial, rset (right_mark ho hrr hx) hrk ⟨r, g1, hrk⟩⟩
/-- Tables that tell the same of all keys are the same. -/
theorem rise_ext : ∀ {a b : List Rec}, Rise a → Rise b → (∀ k, findT k a = findT k b) → a = b
  | [], [], _, _, _ => rfl
  | [], y :: b, _, _, h => by
    have := h y.key
    rw [findT_nil, findT_cons, if_pos rfl] at this
    simp at this
  | x :: a, [], _, _, h => by
    have := h x.key
    rw [findT_nil, findT_cons, if_pos rfl] at this
    simp at this
  | x :: a, y :: b, ha, hb, h => by
    have pa := List.pairwise_cons.1 ha
    have pb := List.pairwise_cons.1 hb
    have na : findT x.key a = none := findT_none fun r hr hc => by
      have := pa.1 r hr
      rw [hc, cmp_self] at this
      omega
    have nb : findT y.key b = none := findT_none fun r hr hc => by
      have := pb.1 r hr
      rw [hc, cmp_self] at this
      omega
    have hxy : x = y := by
      have h1 := h x.key
      rw [findT_cons, if_pos rfl, findT_cons] at h1
      split at h1
      · simpa using h1
      · rename_i h2
        obtain ⟨m1, m2⟩ := findT_mem h1.symm
        have h3 := pb.1 x m1
        have h4 := h y.key
        rw [findT_cons, findT_cons, if_pos rfl, if_neg (fun hc => h2 hc.symm)] at h4
        obtain ⟨m3, m4⟩ := findT_mem h4
        have h5 := pa.1 y m3
        exact absurd h5 (cmp_not h3)
    subst hxy
    have hab := rise_ext pa.2 pb.2 fun k => by
      by_cases hk : x.key = k
      · rw [← hk, na, nb]
      · have := h k
        rwa [findT_cons, findT_cons, if_neg hk, if_neg hk] at this
    rw [hab]
end Go.Ai

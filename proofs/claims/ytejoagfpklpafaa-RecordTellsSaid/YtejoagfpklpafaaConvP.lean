/- Records, up and down: the document's answer is the program's. -/
import Derived.Test.YtejoagfpklpafaaConvS
import Derived.Test.YtejoagfpklpafaaFieldP
set_option linter.unusedVariables false
set_option linter.unusedSimpArgs false
namespace Go.Ai
theorem rightGo_append : ∀ (a b : List Fld) (t u : Int), rightGo t a = true → t ≤ u → (∀ f ∈ a, f.1 ≤ u) → rightGo u b = true → rightGo t (a ++ b) = true
  | [], b, t, u, _, htu, _, hb => rightGo_mono htu hb
  | f :: a, b, t, u, ha, htu, hu, hb => by
    rw [List.cons_append]
    unfold rightGo at ha ⊢
    simp only [Bool.and_eq_true] at ha ⊢
    exact ⟨ha.1, rightGo_append a b f.1 u ha.2 (hu f (by simp)) (fun g hg => hu g (by simp [hg])) hb⟩
theorem rightGo_one {t : Int} {f : Fld} (h1 : t < f.1) (h2 : f.1 ≤ 1000000) (h3 : f.2.length ≤ 1000) : rightGo t [f] = true := by
  simp only [rightGo, Bool.and_true, Bool.and_eq_true, Bool.not_eq_true', Bool.or_eq_false_iff, decide_eq_false_iff_not]
  exact ⟨⟨by omega, by omega⟩, by omega⟩
theorem filter_one (p : Fld → Bool) (f : Fld) : [f].filter p = if p f = true then [f] else [] := by
  cases h : p f <;> simp [h]
theorem numS_len (n : Int) : (numS n).length ≤ 8 := by
  unfold numS
  split
  · simp
  · exact putF_len _ _
/-- Known fields are in order. -/
theorem known_right {r : Rec} {v : Int} (h : RightP v r) : rightGo 0 (knownF r) = true ∧ (∀ f ∈ knownF r, 1 ≤ f.1 ∧ f.1 ≤ 5) ∧ (v = 1 → ∀ f ∈ knownF r, f.1 ≤ 3) := by
  obtain ⟨g1, g2, g3, g4, g5, g6, g7, g8, g9, g10, g11⟩ := h
  have n1 := numS_len r.rev
  have n2 := numS_len r.life
  refine ⟨?_, fun f hf => ?_, fun hv f hf => ?_⟩
  · have e : knownF r = [(1, r.key)].filter hasData ++ ([(2, r.value)].filter hasData ++ ([(3, numS r.rev)].filter hasData ++ ([(4, numS r.life)].filter hasData ++ [(5, r.note)].filter hasData))) := by
      simp only [← List.filter_append]
      rfl
    have one : ∀ (t : Int) (s : List UInt8), 1 ≤ t → t ≤ 5 → s.length ≤ 1000 → rightGo (t - 1) ([(t, s)].filter hasData) = true ∧ ∀ f ∈ [(t, s)].filter hasData, f.1 ≤ t := fun t s h1 h2 h3 => by
      rw [filter_one]
      split
      · exact ⟨rightGo_one (by simp only; omega) (by simp only; omega) h3, by simp⟩
      · exact ⟨rfl, by simp⟩
    rw [e]
    obtain ⟨a1, b1⟩ := one 1 r.key (by omega) (by omega) (by omega)
    obtain ⟨a2, b2⟩ := one 2 r.value (by omega) (by omega) (by omega)
    obtain ⟨a3, b3⟩ := one 3 (numS r.rev) (by omega) (by omega) (by omega)
    obtain ⟨a4, b4⟩ := one 4 (numS r.life) (by omega) (by omega) (by omega)
    obtain ⟨a5, b5⟩ := one 5 r.note (by omega) (by omega) (by omega)
    exact rightGo_append _ _ 0 1 a1 (by omega) b1 (rightGo_append _ _ 1 2 a2 (by omega) b2 (rightGo_append _ _ 2 3 a3 (by omega) b3 (rightGo_append _ _ 3 4 a4 (by omega) b4 a5)))
  · have := (List.mem_filter.1 hf).1
    unfold knownA at this
    simp only [List.mem_cons, List.not_mem_nil, or_false] at this
    rcases this with rfl | rfl | rfl | rfl | rfl <;> simp
  · obtain ⟨h1, h2⟩ := g7 hv
    obtain ⟨h3, h4⟩ := List.mem_filter.1 hf
    unfold knownA at h3
    simp only [List.mem_cons, List.not_mem_nil, or_false] at h3
    rcases h3 with rfl | rfl | rfl | rfl | rfl
    · simp
    · simp
    · simp
    · simp [hasData, numS, h1] at h4
    · simp [hasData, h2] at h4
theorem extra_tags {v : Int} {r : Rec} (h : RightP v r) : rightGo (lastS v) r.extra = true ∧ rightS r.extra = true ∧ (r.extra.filter isOther).length ≤ 8 ∧ ∀ f ∈ r.extra, lastS v < f.1 := by
  have h11 := h.2.2.2.2.2.2.2.2.2.2
  have hv := h.1
  unfold extraS at h11
  simp only [Bool.and_eq_true, decide_eq_true_eq] at h11
  obtain ⟨h1, h2, h3⟩ := h11
  have hb := (right_bd h2).2
  have ht : ∀ f ∈ r.extra, lastS v < f.1 := fun f hf => by
    have h4 := List.all_eq_true.1 h1 f hf
    have h5 := hb f hf
    rcases hv with rfl | rfl <;> simp [knows, lastS] at h4 ⊢ <;> omega
  refine ⟨?_, h2, h3, ht⟩
  cases hx : r.extra with
  | nil => rfl
  | cons f l =>
    rw [hx] at h2 ht
    have h0 : rightGo 0 (f :: l) = true := by
      unfold rightS at h2
      simp only [Bool.and_eq_true] at h2
      exact h2.1
    have := ht f (by simp)
    unfold rightGo at h0 ⊢
    simp only [Bool.and_eq_true, Bool.not_eq_true', Bool.or_eq_false_iff, decide_eq_false_iff_not] at h0 ⊢
    exact ⟨⟨⟨by omega, h0.1.1.2⟩, h0.1.2⟩, h0.2⟩
theorem split1 (k : Int) : ∀ (l : List Fld), rightGo (k - 1) l = true → ∃ a c, l = a ++ c ∧ (a = [] ∨ ∃ s, a = [(k, s)]) ∧ rightGo k c = true
  | [], _ => ⟨[], [], rfl, .inl rfl, rfl⟩
  | f :: l, h => by
    have h0 := h
    unfold rightGo at h
    simp only [Bool.and_eq_true, Bool.not_eq_true', Bool.or_eq_false_iff, decide_eq_false_iff_not] at h
    by_cases hk : f.1 = k
    · refine ⟨[f], l, rfl, .inr ⟨f.2, ?_⟩, by rw [← hk]; exact h.2⟩
      rw [← hk]
    · refine ⟨[], f :: l, rfl, .inl rfl, ?_⟩
      unfold rightGo
      simp only [Bool.and_eq_true, Bool.not_eq_true', Bool.or_eq_false_iff, decide_eq_false_iff_not]
      exact ⟨⟨⟨by omega, h.1.1.2⟩, h.1.2⟩, h.2⟩
/-- What is carried: Life, Note, and what neither version knows. -/
theorem split45 {l : List Fld} (h : rightGo 3 l = true) : ∃ a b c, l = a ++ (b ++ c) ∧ (a = [] ∨ ∃ s, a = [(4, s)]) ∧ (b = [] ∨ ∃ s, b = [(5, s)]) ∧ rightGo 5 c = true := by
  obtain ⟨a, c, e, ha, hc⟩ := split1 4 l h
  obtain ⟨b, d, e', hb, hd⟩ := split1 5 c hc
  exact ⟨a, b, d, by rw [e, e'], ha, hb, hd⟩
theorem others_of {c : List Fld} (h : rightGo 5 c = true) : c.filter isOther = c := by
  rw [List.filter_eq_self]
  intro f hf
  have := (rightGo_bd (by omega) h f hf).1
  simp [isOther]
  omega
theorem len_others {l : List Fld} {t : Int} (ht : 3 ≤ t) (h : rightGo t l = true) : l.length ≤ (l.filter isOther).length + 2 := by
  obtain ⟨a, b, c, e, ha, hb, hc⟩ := split45 (rightGo_mono ht h)
  have h1 : a.length ≤ 1 := by rcases ha with rfl | ⟨s, rfl⟩ <;> simp
  have h2 : b.length ≤ 1 := by rcases hb with rfl | ⟨s, rfl⟩ <;> simp
  rw [e, List.filter_append, List.filter_append, others_of hc]
  simp only [List.length_append]
  omega
theorem all_right {v : Int} {r : Rec} (h : RightP v r) : rightS (knownF r ++ r.extra) = true := by
  obtain ⟨k1, k2, k3⟩ := known_right h
  obtain ⟨e1, e2, e3, e4⟩ := extra_tags h
  have hl : (knownF r).length ≤ 5 := List.length_filter_le _ _
  have hlo := len_others (by rcases h.1 with rfl | rfl <;> simp [lastS]) e1
  unfold rightS
  simp only [Bool.and_eq_true, decide_eq_true_eq]
  refine ⟨?_, by rw [List.length_append]; omega⟩
  have hv := h.1
  refine rightGo_append _ _ 0 (lastS v) k1 (by rcases hv with rfl | rfl <;> simp [lastS]) (fun f hf => ?_) e1
  rcases hv with rfl | rfl
  · exact k3 rfl f hf
  · exact (k2 f hf).2
theorem wholeS_num {n : Int} (h0 : 0 ≤ n) (h1 : n ≤ 9007199254740992) : wholeS (numS n) = n := by
  unfold wholeS numS
  split
  · rename_i h
    rw [h]
    rfl
  · have ht := takeS_put (n := n.toNat) (by omega) []
    rw [List.append_nil] at ht
    rw [ht]
    simp
    omega
theorem numS_nil {n : Int} (h0 : 0 ≤ n) : numS n = [] ↔ n = 0 := by
  unfold numS
  split
  · simp [*]
  · simp [putF_ne, *]
theorem setAll_append (v : Int) : ∀ (a b : List Fld) (r : Rec), setAll v r (a ++ b) = (setAll v r a).bind fun r' => setAll v r' b
  | [], b, r => rfl
  | f :: a, b, r => by
    rw [List.cons_append, setAll, setAll]
    cases setF v r f with
    | none => rfl
    | some r' => exact setAll_append v a b r'
theorem setAll_extra {v : Int} : ∀ (l : List Fld) (r : Rec), (∀ f ∈ l, knows v f.1 = false) → setAll v r l = some { r with extra := r.extra ++ l }
  | [], r, _ => by simp [setAll]
  | f :: l, r, h => by
    rw [setAll, setF, h f (by simp)]
    simp only [Bool.false_eq_true, if_false]
    rw [setAll_extra l _ (fun g hg => h g (by simp [hg]))]
    simp
/-- The known fields set what they were. -/
theorem setAll_known {v : Int} (hv : v = 1 ∨ v = 2) (r : Rec) (hrev : 0 ≤ r.rev ∧ r.rev ≤ 9007199254740992) : setAll v rec0 ([(1, r.key), (2, r.value), (3, numS r.rev)].filter hasData) = some ⟨r.key, r.value, r.rev, 0, [], []⟩ := by
  have hw := wholeS_num hrev.1 hrev.2
  have hn := numS_nil hrev.1
  have k1 : knows v 1 = true := by rcases hv with rfl | rfl <;> rfl
  have k2 : knows v 2 = true := by rcases hv with rfl | rfl <;> rfl
  have k3 : knows v 3 = true := by rcases hv with rfl | rfl <;> rfl
  have e : [(1, r.key), (2, r.value), (3, numS r.rev)].filter hasData = [(1, r.key)].filter hasData ++ ([(2, r.value)].filter hasData ++ [(3, numS r.rev)].filter hasData) := by
    simp only [← List.filter_append]
    rfl
  have s1 : ∀ q : Rec, q.key = [] → setAll v q ([(1, r.key)].filter hasData) = some { q with key := r.key } := fun q hq => by
    rw [filter_one]
    by_cases h : r.key = []
    · rw [if_neg (by simp [hasData, h]), h, ← hq]
      rfl
    · rw [if_pos (by simp [hasData, h])]
      simp [setAll, setF, k1, h]
  have s2 : ∀ q : Rec, q.value = [] → setAll v q ([(2, r.value)].filter hasData) = some { q with value := r.value } := fun q hq => by
    rw [filter_one]
    by_cases h : r.value = []
    · rw [if_neg (by simp [hasData, h]), h, ← hq]
      rfl
    · rw [if_pos (by simp [hasData, h])]
      simp [setAll, setF, k2, h]
  have s3 : ∀ q : Rec, q.rev = 0 → setAll v q ([(3, numS r.rev)].filter hasData) = some { q with rev := r.rev } := fun q hq => by
    rw [filter_one]
    by_cases h : numS r.rev = []
    · rw [if_neg (by simp [hasData, h]), hn.1 h, ← hq]
      rfl
    · rw [if_pos (by simp [hasData, h])]
      have h3 : ¬ r.rev = 0 := fun hc => h (hn.2 hc)
      simp [setAll, setF, k3, h, hw, h3]
  rw [e, setAll_append, s1 rec0 rfl, Option.bind_some, setAll_append, s2 _ rfl, Option.bind_some, s3 _ rfl]
  rfl
theorem knownF_eq (r : Rec) (h0 : 0 ≤ r.life) : knownF r = [(1, r.key), (2, r.value), (3, numS r.rev)].filter hasData ++ ((if r.life = 0 then [] else [(4, putF 8 r.life.toNat)]) ++ (if r.note = [] then [] else [(5, r.note)])) := by
  have e : knownF r = [(1, r.key), (2, r.value), (3, numS r.rev)].filter hasData ++ ([(4, numS r.life)].filter hasData ++ [(5, r.note)].filter hasData) := by
    simp only [← List.filter_append]
    rfl
  rw [e, filter_one, filter_one]
  congr 2
  · by_cases h : r.life = 0
    · simp [hasData, h, numS]
    · rw [if_neg h, if_pos (by simp [hasData, numS, h, putF_ne])]
      simp [numS, h]
  · by_cases h : r.note = [] <;> simp [hasData, h]
theorem ownF_eq (r : Rec) (h0 : 0 ≤ r.life) : ownF r = (if r.life = 0 then [] else [(4, putF 8 r.life.toNat)]) ++ (if r.note = [] then [] else [(5, r.note)]) := by
  unfold ownF
  by_cases h : r.life = 0
  · simp [h]
  · rw [if_pos (by omega), if_neg h]
theorem find_known {r : Rec} (h : 1 ≤ r.key.length) (l : List Fld) : (findS (knownF r ++ l) 1).isSome = true := by
  have hk : ¬ r.key = [] := fun hc => by rw [hc] at h; simp at h
  have e : ∃ t, knownF r = (1, r.key) :: t := ⟨_, by unfold knownF knownA; rw [List.filter_cons_of_pos (by simp [hasData, hk])]⟩
  obtain ⟨t, e⟩ := e
  rw [e]
  simp [findS, List.find?_cons]
theorem enc_small {l : List Fld} (h : rightS l = true) : (encL l).length ≤ l.length * 1016 := encL_len fun f hf => ((right_bd h).2 f hf).2.2
theorem encF_len (f : Fld) : (encF f).length ≤ 16 + f.2.length := by
  have h1 := putF_len 8 f.1.toNat
  have h2 := putF_len 8 f.2.length
  unfold encF
  simp only [List.length_append]
  omega
theorem encL_filter (p : Fld → Bool) : ∀ l : List Fld, (encL (l.filter p)).length ≤ (encL l).length
  | [] => by simp
  | f :: l => by
    have := encL_filter p l
    rw [List.filter_cons]
    split
    · rw [encL_cons, encL_cons, List.length_append, List.length_append]
      omega
    · rw [encL_cons, List.length_append]
      omega
theorem known_len {r : Rec} {v : Int} (h : RightP v r) : (encL (knownF r)).length ≤ 352 := by
  obtain ⟨g1, g2, g3, g4, g5, g6, g7, g8, g9, g10, g11⟩ := h
  have n1 := numS_len r.rev
  have n2 := numS_len r.life
  refine Nat.le_trans (encL_filter _ _) ?_
  have f1 := encF_len (1, r.key)
  have f2 := encF_len (2, r.value)
  have f3 := encF_len (3, numS r.rev)
  have f4 := encF_len (4, numS r.life)
  have f5 := encF_len (5, r.note)
  simp only [knownA, encL_cons, List.length_append, show encL [] = [] from rfl, List.length_nil] at *
  omega
theorem own_right {r : Rec} (h : RightP 2 r) : rightGo 3 (ownF r) = true ∧ (∀ f ∈ ownF r, 4 ≤ f.1 ∧ f.1 ≤ 5) ∧ (ownF r).filter isOther = [] := by
  obtain ⟨g1, g2, g3, g4, g5, g6, g7, g8, g9, g10, g11⟩ := h
  have hp := putF_len 8 r.life.toNat
  rw [ownF_eq r g8]
  by_cases h1 : r.life = 0 <;> by_cases h2 : r.note = [] <;> simp only [h1, h2, if_true, if_false, List.nil_append, List.append_nil]
  · exact ⟨rfl, by simp, rfl⟩
  · exact ⟨rightGo_one (by simp) (by simp) (by simp only; omega), by simp, by simp [isOther]⟩
  · exact ⟨rightGo_one (by simp) (by simp) (by simp only; omega), by simp, by simp [isOther]⟩
  · exact ⟨rightGo_append _ _ 3 4 (rightGo_one (by simp) (by simp) (by simp only; omega)) (by omega) (by simp) (rightGo_one (by simp) (by simp) (by simp only; omega)), by simp, by simp [isOther]⟩
/-- A record that went down may be. -/
theorem down_right {r : Rec} (h : RightP 2 r) : RightP 1 (downR r) := by
  obtain ⟨o1, o2, o3⟩ := own_right h
  obtain ⟨e1, e2, e3, e4⟩ := extra_tags h
  obtain ⟨g1, g2, g3, g4, g5, g6, g7, g8, g9, g10, g11⟩ := h
  have hgo : rightGo 3 (ownF r ++ r.extra) = true := rightGo_append _ _ 3 5 o1 (by omega) (fun f hf => (o2 f hf).2) e1
  have hfl : ((ownF r ++ r.extra).filter isOther).length ≤ 8 := by rw [List.filter_append, o3]; exact e3
  have hlen := len_others (Int.le_refl 3) hgo
  refine ⟨.inl rfl, g2, g3, g4, g5, g6, fun _ => ⟨rfl, rfl⟩, by simp [downR], by simp [downR], by simp [downR], ?_⟩
  show extraS 1 (ownF r ++ r.extra) = true
  unfold extraS
  simp only [Bool.and_eq_true, decide_eq_true_eq]
  refine ⟨List.all_eq_true.2 fun f hf => ?_, ?_, hfl⟩
  · have := (rightGo_bd (by omega) hgo f hf).1
    simp only [knows, Bool.not_eq_true', Bool.and_eq_false_iff, Bool.or_eq_false_iff, decide_eq_false_iff_not]
    right
    constructor
    · right; omega
    · left; omega
  · unfold rightS
    simp only [Bool.and_eq_true, decide_eq_true_eq]
    exact ⟨rightGo_mono (by omega) hgo, by omega⟩
/-- The document's Down is the program's. -/
theorem by_down (r : Rec) : byS 2 1 r = downS r := by
  unfold byS downS
  by_cases hr : rightR 2 r = true
  rotate_left
  · have e : encodeR 2 r = ⟨[], 1⟩ := by
      unfold encodeR
      rw [if_neg hr]
    simp only [e]
    rw [if_pos trivial, if_neg hr]
  rw [if_pos hr]
  have h : RightP 2 r := of_decide_eq_true hr
  have hall := all_right h
  obtain ⟨e1, e2, e3, e4⟩ := extra_tags h
  have hdr := down_right h
  have hoth : (r.extra.filter isOther).length = r.extra.length := by rw [others_of e1]
  have hlen : (encL (knownF r ++ r.extra)).length ≤ 10000 := by
    have h5 := known_len h
    have h6 := enc_small e2
    rw [encL_append, List.length_append]
    omega
  have e : encodeR 2 r = ⟨encL (knownF r ++ r.extra), 0⟩ := by
    unfold encodeR
    rw [if_pos hr, encodeS_ok hall hlen]
  simp only [e]
  rw [if_neg (by decide), if_pos trivial]
  unfold decodeR
  rw [if_pos (.inl rfl), decode_encode hall hlen]
  simp only
  rw [if_pos (find_known h.2.1 _)]
  have hs : setAll 1 rec0 (knownF r ++ r.extra) = some (downR r) := by
    have hlf := h.2.2.2.2.2.2.2.1
    rw [knownF_eq r hlf, ← ownF_eq r hlf, List.append_assoc, setAll_append, setAll_known (.inl rfl) r ⟨h.2.2.2.2.1, h.2.2.2.2.2.1⟩, Option.bind_some, setAll_extra]
    · rfl
    · intro f hf
      have h4 : 4 ≤ f.1 := by
        rcases List.mem_append.1 hf with hf | hf
        · exact ((own_right h).2.1 f hf).1
        · have : 5 < f.1 := e4 f hf
          omega
      simp only [knows, Bool.and_eq_false_iff, Bool.or_eq_false_iff, decide_eq_false_iff_not]
      right
      constructor
      · right; omega
      · left; omega
  rw [hs]
  simp only
  rw [if_pos (show rightR 1 (downR r) = true from decide_eq_true hdr)]
theorem upGo_append : ∀ (a b : List Fld) (q : Rec), upGo q (a ++ b) = (upGo q a).bind fun q' => upGo q' b
  | [], b, q => rfl
  | f :: a, b, q => by
    rw [List.cons_append, upGo, upGo]
    split
    · split
      · exact upGo_append a b _
      · rfl
    · split
      · split
        · rfl
        · exact upGo_append a b _
      · exact upGo_append a b _
theorem upGo_extra : ∀ (l : List Fld) (q : Rec), (∀ f ∈ l, 5 < f.1) → upGo q l = some { q with extra := q.extra ++ l }
  | [], q, _ => by simp [upGo]
  | f :: l, q, h => by
    have := h f (by simp)
    rw [upGo, if_neg (by omega), if_neg (by omega), upGo_extra l _ (fun g hg => h g (by simp [hg]))]
    simp
theorem up_four (q : Rec) (s : List UInt8) : setAll 2 q [(4, s)] = upGo q [(4, s)] ∧ ((∀ q, upGo q [(4, s)] = none) ∨ ∃ n : Int, 0 ≤ n ∧ n ≤ 9007199254740992 ∧ ∀ q, upGo q [(4, s)] = some { q with life := n }) := by
  have ht := takeS_ok (s := s)
  by_cases hg : (takeS s).err = 0 ∧ (takeS s).len = s.length ∧ (takeS s).num ≠ 0
  · have hu : ∀ q, upGo q [(4, s)] = some { q with life := (takeS s).num } := fun q => by
      rw [upGo, if_pos rfl, if_pos hg]
      rfl
    have hw : wholeS s = (takeS s).num := by
      unfold wholeS
      rw [if_pos ⟨hg.1, hg.2.1⟩]
    have hs : ¬ s = [] := fun hc => by
      have := (ht hg.1).2.2
      rw [hc] at this
      simp at this
      omega
    refine ⟨?_, .inr ⟨_, by omega, by have := (ht hg.1).2.1; omega, hu⟩⟩
    rw [hu]
    have h2 := hg.2.2
    have hn : ¬ ((takeS s).num : Int) = 0 := by omega
    simp [setAll, setF, knows, hs, hw, h2]
  · have hu : ∀ q, upGo q [(4, s)] = none := fun q => by rw [upGo, if_pos rfl, if_neg hg]
    refine ⟨?_, .inl hu⟩
    rw [hu]
    have hw : wholeS s = 0 := by
      unfold wholeS
      split
      · rename_i h1
        have : ¬ (takeS s).num ≠ 0 := fun hc => hg ⟨h1.1, h1.2, hc⟩
        omega
      · rfl
    simp [setAll, setF, knows, hw]
theorem up_five (q : Rec) (s : List UInt8) : (s = [] ∧ setAll 2 q [(5, s)] = none ∧ ∀ q, upGo q [(5, s)] = none) ∨ (s ≠ [] ∧ setAll 2 q [(5, s)] = some { q with note := s } ∧ ((40 < s.length ∧ ∀ q, upGo q [(5, s)] = none) ∨ (s.length ≤ 40 ∧ ∀ q, upGo q [(5, s)] = some { q with note := s }))) := by
  by_cases h : s = []
  · exact .inl ⟨h, by simp [setAll, setF, knows, h], fun q => by simp [upGo, h]⟩
  · refine .inr ⟨h, by simp [setAll, setF, knows, h], ?_⟩
    by_cases h2 : 40 < s.length
    · exact .inl ⟨h2, fun q => by simp [upGo, h, h2]⟩
    · exact .inr ⟨by omega, fun q => by simp [upGo, h, h2]⟩
theorem up_right {r : Rec} (h : RightP 1 r) {n : Int} {s : List UInt8} {c : List Fld} (hn : 0 ≤ n) (hn2 : n ≤ 9007199254740992) (hs : s.length ≤ 40) (hc : rightGo 5 c = true) (hc2 : c.length ≤ 8) : RightP 2 { r with life := n, note := s, extra := c } := by
  obtain ⟨g1, g2, g3, g4, g5, g6, g7, g8, g9, g10, g11⟩ := h
  refine ⟨.inr rfl, g2, g3, g4, g5, g6, fun h => by simp at h, hn, hn2, hs, ?_⟩
  show extraS 2 c = true
  unfold extraS
  simp only [Bool.and_eq_true, decide_eq_true_eq]
  refine ⟨List.all_eq_true.2 fun f hf => ?_, ?_, by rw [others_of hc]; exact hc2⟩
  · have := (rightGo_bd (by omega) hc f hf).1
    simp only [knows, Bool.not_eq_true', Bool.and_eq_false_iff, Bool.or_eq_false_iff, decide_eq_false_iff_not]
    right
    constructor
    · right; omega
    · right; omega
  · unfold rightS
    simp only [Bool.and_eq_true, decide_eq_true_eq]
    exact ⟨rightGo_mono (by omega) hc, by omega⟩
/-- What is carried, up: what comes of it does not hang on the rest. -/
theorem up_eff {a b : List Fld} (ha : a = [] ∨ ∃ s, a = [((4 : Int), s)]) (hb : b = [] ∨ ∃ s, b = [((5 : Int), s)]) :
    (∃ n s, 0 ≤ n ∧ n ≤ 9007199254740992 ∧ s.length ≤ 40 ∧ ∀ q : Rec, q.life = 0 → q.note = [] → upGo q (a ++ b) = some { q with life := n, note := s } ∧ setAll 2 q (a ++ b) = some { q with life := n, note := s }) ∨
    (∀ q : Rec, q.life = 0 → q.note = [] → upGo q (a ++ b) = none ∧ (setAll 2 q (a ++ b) = none ∨ ∃ q', setAll 2 q (a ++ b) = some q' ∧ 40 < q'.note.length)) := by
  have hA : (∃ n : Int, 0 ≤ n ∧ n ≤ 9007199254740992 ∧ ∀ q : Rec, q.life = 0 → upGo q a = some { q with life := n } ∧ setAll 2 q a = some { q with life := n }) ∨ ∀ q : Rec, upGo q a = none ∧ setAll 2 q a = none := by
    rcases ha with rfl | ⟨s, rfl⟩
    · refine .inl ⟨0, by omega, by omega, fun q hq => ?_⟩
      have e : ({ q with life := 0 } : Rec) = q := by rw [← hq]
      rw [e]
      exact ⟨rfl, rfl⟩
    · rcases (up_four rec0 s).2 with h | ⟨n, h1, h2, h3⟩
      · exact .inr fun q => ⟨h q, by rw [(up_four q s).1, h q]⟩
      · exact .inl ⟨n, h1, h2, fun q _ => ⟨h3 q, by rw [(up_four q s).1, h3 q]⟩⟩
  rcases hA with ⟨n, h1, h2, h3⟩ | h3
  rotate_left
  · exact .inr fun q _ _ => ⟨by rw [upGo_append, (h3 q).1]; rfl, .inl (by rw [setAll_append, (h3 q).2]; rfl)⟩
  rcases hb with rfl | ⟨s, rfl⟩
  · refine .inl ⟨n, [], h1, h2, by simp, fun q hq hn => ?_⟩
    rw [List.append_nil, (h3 q hq).1, (h3 q hq).2]
    have e : ({ q with life := n, note := [] } : Rec) = { q with life := n } := by rw [← hn]
    rw [e]
    exact ⟨rfl, rfl⟩
  · rcases up_five rec0 s with ⟨e1, _, _⟩ | ⟨e1, _, ⟨e2, _⟩ | ⟨e2, _⟩⟩
    · refine .inr fun q hq hn => ?_
      rw [upGo_append, setAll_append, (h3 q hq).1, (h3 q hq).2, Option.bind_some, Option.bind_some]
      rcases up_five { q with life := n } s with ⟨f1, f2, f3⟩ | ⟨f1, _⟩
      · exact ⟨f3 _, .inl f2⟩
      · exact absurd e1 f1
    · refine .inr fun q hq hn => ?_
      rw [upGo_append, setAll_append, (h3 q hq).1, (h3 q hq).2, Option.bind_some, Option.bind_some]
      rcases up_five { q with life := n } s with ⟨f1, f2, f3⟩ | ⟨f1, f2, ⟨f3, f4⟩ | ⟨f3, f4⟩⟩
      · exact absurd f1 e1
      · exact ⟨f4 _, .inr ⟨_, f2, f3⟩⟩
      · omega
    · refine .inl ⟨n, s, h1, h2, e2, fun q hq hn => ?_⟩
      rw [upGo_append, setAll_append, (h3 q hq).1, (h3 q hq).2, Option.bind_some, Option.bind_some]
      rcases up_five { q with life := n } s with ⟨f1, f2, f3⟩ | ⟨f1, f2, ⟨f3, f4⟩ | ⟨f3, f4⟩⟩
      · exact absurd f1 e1
      · omega
      · exact ⟨f4 _, f2⟩
/-- Bytes of a record of version 1, read by version 2. -/
theorem dec_up {r : Rec} (hr : rightR 1 r = true) (hlen : (encL (knownF r ++ r.extra)).length ≤ 10000) : decodeR 2 (encL (knownF r ++ r.extra)) = upS r := by
  have h : RightP 1 r := of_decide_eq_true hr
  have hall := all_right h
  obtain ⟨e1, e2, e3, e4⟩ := extra_tags h
  obtain ⟨hlf, hnt⟩ := h.2.2.2.2.2.2.1 rfl
  obtain ⟨a, b, c, hx, ha, hb, hc⟩ := split45 e1
  have hcl : c.length ≤ 8 := by
    rw [hx, List.filter_append, List.filter_append, others_of hc] at e3
    simp only [List.length_append] at e3
    omega
  have hc5 : ∀ f ∈ c, 5 < f.1 := fun f hf => (rightGo_bd (by omega) hc f hf).1
  have hck : ∀ f ∈ c, knows 2 f.1 = false := fun f hf => by
    have := hc5 f hf
    simp only [knows, Bool.and_eq_false_iff, Bool.or_eq_false_iff, decide_eq_false_iff_not]
    right
    constructor
    · right; omega
    · right; omega
  unfold decodeR upS
  rw [if_pos (.inr rfl), decode_encode hall hlen, if_pos hr]
  simp only
  rw [if_pos (find_known h.2.1 _)]
  have hkn : knownF r = [(1, r.key), (2, r.value), (3, numS r.rev)].filter hasData := by
    rw [knownF_eq r (by omega), hlf, hnt]
    simp
  rw [hkn, setAll_append, setAll_known (.inr rfl) r ⟨h.2.2.2.2.1, h.2.2.2.2.2.1⟩, Option.bind_some]
  have hq : (⟨r.key, r.value, r.rev, 0, [], []⟩ : Rec) = { r with extra := [] } := by rw [← hlf, ← hnt]
  rw [hq, hx, ← List.append_assoc, setAll_append, upGo_append]
  rcases up_eff ha hb with ⟨n, s, n1, n2, n3, n4⟩ | n4
  · obtain ⟨u1, u2⟩ := n4 { r with extra := [] } hlf hnt
    rw [u1, u2, Option.bind_some, Option.bind_some, upGo_extra c _ hc5, setAll_extra c _ hck]
    simp only [List.nil_append]
    rw [if_pos (show rightR 2 _ = true from decide_eq_true (up_right h n1 n2 n3 hc hcl))]
  · obtain ⟨u1, u2⟩ := n4 { r with extra := [] } hlf hnt
    rw [u1]
    rcases u2 with u2 | ⟨q', u2, u3⟩
    · rw [u2]
      rfl
    · rw [u2, Option.bind_some, setAll_extra c _ hck]
      simp only [Option.bind_none]
      rw [if_neg]
      intro hc
      have := (of_decide_eq_true hc : RightP 2 _).2.2.2.2.2.2.2.2.2.1
      simp only at this
      omega
theorem by_up (r : Rec) : byS 1 2 r = upS r := by
  unfold byS
  by_cases hr : rightR 1 r = true
  rotate_left
  · have e : encodeR 1 r = ⟨[], 1⟩ := by
      unfold encodeR
      rw [if_neg hr]
    unfold upS
    simp only [e]
    rw [if_pos trivial, if_neg hr]
  have h : RightP 1 r := of_decide_eq_true hr
  have hall := all_right h
  by_cases hlen : (encL (knownF r ++ r.extra)).length ≤ 10000
  · have e : encodeR 1 r = ⟨encL (knownF r ++ r.extra), 0⟩ := by
      unfold encodeR
      rw [if_pos hr, encodeS_ok hall hlen]
    simp only [e]
    rw [if_neg (by decide), if_pos trivial]
    exact dec_up hr hlen
  have e : encodeR 1 r = ⟨[], 12⟩ := by
    unfold encodeR encodeS
    rw [if_pos hr, if_pos hall, if_neg hlen]
  simp only [e]
  rw [if_neg (by decide), if_neg (by decide), if_neg (by decide)]
  obtain ⟨e1, e2, e3, e4⟩ := extra_tags h
  obtain ⟨hlf, hnt⟩ := h.2.2.2.2.2.2.1 rfl
  obtain ⟨a, b, c, hx, ha, hb, hc⟩ := split45 e1
  have hc5 : ∀ f ∈ c, 5 < f.1 := fun f hf => (rightGo_bd (by omega) hc f hf).1
  have hab : ∀ f ∈ a ++ b, f.1 ≤ 5 := fun f hf => by
    rcases List.mem_append.1 hf with hf | hf
    · rcases ha with rfl | ⟨s, rfl⟩
      · simp at hf
      · simp only [List.mem_singleton] at hf
        subst hf
        simp
    · rcases hb with rfl | ⟨s, rfl⟩
      · simp at hf
      · simp only [List.mem_singleton] at hf
        subst hf
        simp
  have hn : upN r = (a ++ b).length := by
    unfold upN
    rw [hx, ← List.append_assoc, List.takeWhile_append_of_pos (fun f hf => by simpa using hab f hf)]
    have : c.takeWhile (fun f => decide (f.1 ≤ 5)) = [] := by
      cases c with
      | nil => rfl
      | cons f c =>
        have := hc5 f (by simp)
        rw [List.takeWhile_cons, if_neg (by simp; omega)]
    rw [this, List.append_nil]
  have ht : r.extra.take (upN r) = a ++ b := by rw [hn, hx, ← List.append_assoc, List.take_left]
  have hd : r.extra.drop (upN r) = c := by rw [hn, hx, ← List.append_assoc, List.drop_left]
  unfold upF
  rw [ht, hd]
  have hgo : rightGo 3 (a ++ b) = true := by
    have := rightGo_take (upN r) e1
    rw [ht] at this
    exact this
  have hl2 : (a ++ b).length ≤ 2 := by
    have h1 : a.length ≤ 1 := by rcases ha with rfl | ⟨s, rfl⟩ <;> simp
    have h2 : b.length ≤ 1 := by rcases hb with rfl | ⟨s, rfl⟩ <;> simp
    rw [List.length_append]
    omega
  have hrs : rightS (a ++ b) = true := by
    unfold rightS
    simp only [Bool.and_eq_true, decide_eq_true_eq]
    exact ⟨rightGo_mono (by omega) hgo, by omega⟩
  have h1 : RightP 1 ⟨[107], [], 0, 0, [], a ++ b⟩ := by
    refine ⟨.inl rfl, by simp, by simp, by simp, by simp, by simp, fun _ => ⟨rfl, rfl⟩, by simp, by simp, by simp, ?_⟩
    show extraS 1 (a ++ b) = true
    unfold extraS
    simp only [Bool.and_eq_true, decide_eq_true_eq]
    refine ⟨List.all_eq_true.2 fun f hf => ?_, hrs, Nat.le_trans (List.length_filter_le _ _) (by omega)⟩
    have := (rightGo_bd (by omega) hgo f hf).1
    simp only [knows, Bool.not_eq_true', Bool.and_eq_false_iff, Bool.or_eq_false_iff, decide_eq_false_iff_not]
    right
    constructor
    · right; omega
    · left; omega
  have hr1 : rightR 1 ⟨[107], [], 0, 0, [], a ++ b⟩ = true := decide_eq_true h1
  have hlen1 : (encL (knownF ⟨[107], [], 0, 0, [], a ++ b⟩ ++ (a ++ b))).length ≤ 10000 := by
    have h5 := known_len h1
    have h6 := enc_small hrs
    rw [encL_append, List.length_append]
    omega
  have e5 : encodeR 1 ⟨[107], [], 0, 0, [], a ++ b⟩ = ⟨encL (knownF ⟨[107], [], 0, 0, [], a ++ b⟩ ++ (a ++ b)), 0⟩ := by
    unfold encodeR
    rw [if_pos hr1, encodeS_ok (all_right h1) hlen1]
  rw [e5]
  simp only
  have hdu := dec_up hr1 hlen1
  simp only at hdu
  rw [hdu]
  unfold upS
  rw [if_pos hr1, if_pos hr]
  simp only
  rw [hx, ← List.append_assoc, upGo_append (a ++ b) c]
  rcases up_eff ha hb with ⟨n, s, n1, n2, n3, n4⟩ | n4
  · rw [(n4 _ rfl rfl).1, (n4 { r with extra := [] } hlf hnt).1, Option.bind_some, upGo_extra c _ hc5]
    simp
  · rw [(n4 _ rfl rfl).1, (n4 { r with extra := [] } hlf hnt).1]
    simp
theorem up_down {r : Rec} (h : RightP 2 r) : upS (downR r) = ⟨r, 0⟩ := by
  unfold upS
  rw [if_pos (show rightR 1 (downR r) = true from decide_eq_true (down_right h))]
  obtain ⟨e1, e2, e3, e4⟩ := extra_tags h
  have h0 := h.2.2.2.2.2.2.2.1
  have h9 := h.2.2.2.2.2.2.2.2.1
  have h10 := h.2.2.2.2.2.2.2.2.2.1
  have own : upGo ⟨r.key, r.value, r.rev, 0, [], []⟩ (ownF r) = some { r with extra := [] } := by
    rw [ownF_eq r h0, upGo_append]
    have ht := takeS_put (n := r.life.toNat) (by omega) []
    rw [List.append_nil] at ht
    have s1 : upGo ⟨r.key, r.value, r.rev, 0, [], []⟩ (if r.life = 0 then [] else [(4, putF 8 r.life.toNat)]) = some ⟨r.key, r.value, r.rev, r.life, [], []⟩ := by
      by_cases hl : r.life = 0
      · rw [if_pos hl, hl]
        rfl
      · rw [if_neg hl, upGo, if_pos rfl, ht, if_pos ⟨rfl, rfl, by simp only; omega⟩, upGo]
        simp only
        rw [Int.toNat_of_nonneg h0]
    rw [s1, Option.bind_some]
    by_cases hn : r.note = []
    · rw [if_pos hn, upGo, hn]
    · rw [if_neg hn, upGo, if_neg (by simp), if_pos rfl, if_neg (by rintro (h1 | h1); exact hn h1; simp only at h1; omega), upGo]
  have all : upGo { downR r with extra := [] } (downR r).extra = some r := by
    show upGo ⟨r.key, r.value, r.rev, 0, [], []⟩ (ownF r ++ r.extra) = some r
    rw [upGo_append, own, Option.bind_some, upGo_extra _ _ e4]
    simp
  rw [all]
/-- The bytes are the same. -/
theorem down_bytes {r : Rec} (h : RightP 2 r) : encodeR 1 (downR r) = encodeR 2 r := by
  have h0 := h.2.2.2.2.2.2.2.1
  unfold encodeR
  rw [if_pos (show rightR 1 (downR r) = true from decide_eq_true (down_right h)), if_pos (show rightR 2 r = true from decide_eq_true h)]
  have e : knownF (downR r) ++ (downR r).extra = knownF r ++ r.extra := by
    rw [knownF_eq r h0, ← ownF_eq r h0, knownF_eq (downR r) (by simp [downR])]
    simp [downR]
  rw [e]
/-- Down undoes Up. -/
theorem up_back {r u : Rec} (h : RightP 1 r) (hu : upS r = ⟨u, 0⟩) : RightP 2 u ∧ downR u = r := by
  obtain ⟨e1, e2, e3, e4⟩ := extra_tags h
  obtain ⟨hlf, hnt⟩ := h.2.2.2.2.2.2.1 rfl
  obtain ⟨a, b, c, hx, ha, hb, hc⟩ := split45 e1
  have hcl : c.length ≤ 8 := by
    rw [hx, List.filter_append, List.filter_append, others_of hc] at e3
    simp only [List.length_append] at e3
    omega
  have hc5 : ∀ f ∈ c, 5 < f.1 := fun f hf => (rightGo_bd (by omega) hc f hf).1
  have hA : (∃ n : Int, 0 ≤ n ∧ n ≤ 9007199254740992 ∧ a = (if n = 0 then [] else [((4 : Int), putF 8 n.toNat)]) ∧ ∀ q : Rec, q.life = 0 → upGo q a = some { q with life := n }) ∨ ∀ q : Rec, upGo q a = none := by
    rcases ha with rfl | ⟨s, rfl⟩
    · refine .inl ⟨0, by omega, by omega, by simp, fun q hq => ?_⟩
      have e : ({ q with life := 0 } : Rec) = q := by rw [← hq]
      rw [e]
      rfl
    · have ht := takeS_ok (s := s)
      by_cases hg : (takeS s).err = 0 ∧ (takeS s).len = s.length ∧ (takeS s).num ≠ 0
      · have h1 := ht hg.1
        have hs : s = putF 8 (takeS s).num := by
          rw [← h1.1, hg.2.1, List.take_length]
        have h3 := hg.2.2
        refine .inl ⟨(takeS s).num, by omega, by have := h1.2.1; omega, ?_, fun q _ => by rw [upGo, if_pos rfl, if_pos hg]; rfl⟩
        rw [if_neg (by omega), Int.toNat_natCast, ← hs]
      · exact .inr fun q => by rw [upGo, if_pos rfl, if_neg hg]
  unfold upS at hu
  rw [if_pos (show rightR 1 r = true from decide_eq_true h), hx, upGo_append] at hu
  rcases hA with ⟨n, n1, n2, n3, n4⟩ | n4
  rotate_left
  · rw [n4] at hu
    simp at hu
  rw [n4 { r with extra := [] } hlf, Option.bind_some, upGo_append] at hu
  have hB : (∃ s : List UInt8, s.length ≤ 40 ∧ b = (if s = [] then [] else [((5 : Int), s)]) ∧ ∀ q : Rec, q.note = [] → upGo q b = some { q with note := s }) ∨ ∀ q : Rec, upGo q b = none := by
    rcases hb with rfl | ⟨s, rfl⟩
    · refine .inl ⟨[], by simp, by simp, fun q hq => ?_⟩
      have e : ({ q with note := [] } : Rec) = q := by rw [← hq]
      rw [e]
      rfl
    · rcases up_five rec0 s with ⟨f1, f2, f3⟩ | ⟨f1, f2, ⟨f3, f4⟩ | ⟨f3, f4⟩⟩
      · exact .inr f3
      · exact .inr f4
      · exact .inl ⟨s, f3, by rw [if_neg f1], fun q _ => f4 q⟩
  rcases hB with ⟨s, s1, s2, s3⟩ | s3
  rotate_left
  · rw [s3] at hu
    simp at hu
  rw [s3 { r with life := n, extra := [] } hnt, Option.bind_some, upGo_extra c _ hc5] at hu
  simp only [List.nil_append, RE.mk.injEq, and_true] at hu
  subst hu
  have h2 := up_right h n1 n2 s1 hc hcl
  refine ⟨h2, ?_⟩
  unfold downR
  rw [ownF_eq _ n1]
  simp only
  rw [← n3, ← s2, List.append_assoc, ← hx, ← hlf, ← hnt]
/-- What comes of a record that goes up. -/
theorem up_cases (r : Rec) : (rightR 1 r = false ∧ upS r = ⟨rec0, 1⟩) ∨ (RightP 1 r ∧ upS r = ⟨rec0, 21⟩) ∨ (RightP 1 r ∧ ∃ u, upS r = ⟨u, 0⟩) := by
  by_cases h : rightR 1 r = true
  · have h' : RightP 1 r := of_decide_eq_true h
    cases hg : upGo { r with extra := [] } r.extra with
    | none => exact .inr (.inl ⟨h', by unfold upS; rw [if_pos h, hg]⟩)
    | some u => exact .inr (.inr ⟨h', u, by unfold upS; rw [if_pos h, hg]⟩)
  · have h' : rightR 1 r = false := by simpa using h
    exact .inl ⟨h', by unfold upS; rw [if_neg h]⟩
theorem fieldsGo_tags (texts : List (List UInt8)) : ∀ (n : Nat) (tag : Int) (raw : List (Int × Int)), (∀ p ∈ raw, i64ok p.1) → ∀ f ∈ fieldsGo texts n tag raw, f.1 ≤ tag + n * 200
  | 0, tag, raw, h, f, hf => by simp [fieldsGo] at hf
  | n + 1, tag, [], h, f, hf => by simp [fieldsGo] at hf
  | n + 1, tag, p :: raw, h, f, hf => by
    have hb := pickN_bd (h p (by simp)).1 (h p (by simp)).2 (show (0 : Int) < 200 by omega)
    rw [fieldsGo] at hf
    rcases List.mem_cons.1 hf with rfl | hf
    · simp only
      push_cast
      omega
    · have := fieldsGo_tags texts n _ raw (fun q hq => h q (by simp [hq])) f hf
      push_cast
      omega
theorem rightGo_shift {v : Int} (hv : v = 1 ∨ v = 2) : ∀ {l : List Fld} {t : Int}, rightGo t l = true → (∀ f ∈ l, f.1 ≤ 4000) → rightGo (t + 3 + 2 * (v - 1)) (l.map (shiftF v)) = true
  | [], _, _, _ => rfl
  | f :: l, t, h, hb => by
    unfold rightGo at h
    simp only [Bool.and_eq_true, Bool.not_eq_true', Bool.or_eq_false_iff, decide_eq_false_iff_not] at h
    have h4 := hb f (by simp)
    rw [List.map_cons]
    have ih := rightGo_shift hv h.2 fun g hg => hb g (by simp [hg])
    have e : (shiftF v f).1 = f.1 + 3 + 2 * (v - 1) := rfl
    have e2 : (shiftF v f).2 = f.2 := rfl
    unfold rightGo
    rw [e, e2]
    simp only [Bool.and_eq_true, Bool.not_eq_true', Bool.or_eq_false_iff, decide_eq_false_iff_not]
    exact ⟨⟨⟨by omega, by omega⟩, h.1.2⟩, ih⟩
theorem lastS_pos' {v : Int} (hv : v = 1 ∨ v = 2) : 3 ≤ lastS v := by rcases hv with rfl | rfl <;> simp [lastS]
theorem record_right {v a0 a1 a2 a3 a4 : Int} {raw : List (Int × Int)} (texts : List (List UInt8)) (hv : v = 1 ∨ v = 2) (h0 : i64ok a0) (h2 : i64ok a2) (h3 : i64ok a3) (h4 : i64ok a4) (hr : ∀ p ∈ raw, i64ok p.1) : RightP v (recordS v a0 a1 a2 a3 a4 raw texts) := by
  have p0 := pickN_bd h0.1 h0.2 (show (0 : Int) < 4 by omega)
  have p2 := pickN_bd h2.1 h2.2 (show (0 : Int) < 400 by omega)
  have p3 := pickN_bd h3.1 h3.2 (show (0 : Int) < 300 by omega)
  have p4 := pickN_bd h4.1 h4.2 (show (0 : Int) < 4 by omega)
  have hf := fieldsS_right texts hr
  have hgo : rightGo 0 (fieldsS raw texts) = true := by
    have := hf.1
    unfold rightS at this
    simp only [Bool.and_eq_true] at this
    exact this.1
  have ht : ∀ f ∈ fieldsS raw texts, f.1 ≤ 4000 := fun f hf => by
    have := fieldsGo_tags texts 20 0 raw hr f hf
    simpa using this
  have hs : rightGo (lastS v) (((fieldsS raw texts).take 6).map (shiftF v)) = true := by
    have h1 := rightGo_shift hv (rightGo_take 6 hgo) (fun f hf => ht f (List.mem_of_mem_take hf))
    have e : (0 : Int) + 3 + 2 * (v - 1) = lastS v := by rcases hv with rfl | rfl <;> simp [lastS]
    rw [e] at h1
    exact h1
  have hl6 : (((fieldsS raw texts).take 6).map (shiftF v)).length ≤ 6 := by simp; omega
  have hl := lastS_pos' hv
  have k1 : 1 ≤ (keyS (pickN a0 4)).length ∧ (keyS (pickN a0 4)).length ≤ 16 := by
    unfold keyS
    split
    · simp
    · split
      · simp
      · split <;> simp
  have k2 : (noteS (pickN a4 4)).length ≤ 40 := by
    unfold noteS
    split
    · simp
    · split
      · simp
      · split <;> simp
  refine ⟨hv, k1.1, k1.2, ?_, ?_, ?_, fun h1 => ?_, ?_, ?_, ?_, ?_⟩
  · show (if texts = [] then [] else _).length ≤ 200
    split <;> simp; omega
  · show 0 ≤ (if a2.tmod 7 = 0 then (9007199254740992 : Int) else pickN a2 400)
    split <;> omega
  · show (if a2.tmod 7 = 0 then (9007199254740992 : Int) else pickN a2 400) ≤ 9007199254740992
    split <;> omega
  · show (if v = 2 then pickN a3 300 else 0) = 0 ∧ (if v = 2 then noteS (pickN a4 4) else []) = []
    rw [if_neg (by omega), if_neg (by omega)]
    exact ⟨rfl, rfl⟩
  · show 0 ≤ (if v = 2 then pickN a3 300 else 0)
    split <;> omega
  · show (if v = 2 then pickN a3 300 else 0) ≤ 9007199254740992
    split <;> omega
  · show (if v = 2 then noteS (pickN a4 4) else []).length ≤ 40
    split
    · exact k2
    · simp
  · show extraS v (((fieldsS raw texts).take 6).map (shiftF v)) = true
    unfold extraS
    simp only [Bool.and_eq_true, decide_eq_true_eq]
    refine ⟨List.all_eq_true.2 fun f hf => ?_, ?_, Nat.le_trans (List.length_filter_le _ _) (by omega)⟩
    · have h5 := (rightGo_bd (by omega) hs f hf).1
      rcases hv with rfl | rfl <;> simp [knows, lastS] at h5 ⊢ <;> omega
    · unfold rightS
      simp only [Bool.and_eq_true, decide_eq_true_eq]
      exact ⟨rightGo_mono (by omega) hs, by omega⟩
theorem down_len {r : Rec} (h : RightP 2 r) : (downR r).extra.length = (if r.life = 0 then 0 else 1) + (if r.note = [] then 0 else 1) + r.extra.length := by
  show (ownF r ++ r.extra).length = _
  rw [ownF_eq r h.2.2.2.2.2.2.2.1]
  by_cases h1 : r.life = 0 <;> by_cases h2 : r.note = [] <;> simp [h1, h2] <;> omega
theorem down_twice {r : Rec} (h : RightP 2 r) : (downS (downR r)).e = if r.life = 0 ∧ r.note = [] then 0 else 1 := by
  have h0 := h.2.2.2.2.2.2.2.1
  by_cases hm : r.life = 0 ∧ r.note = []
  · rw [if_pos hm]
    have e : downR r = r := by
      have ho : ownF r = [] := by rw [ownF_eq r h0, if_pos hm.1, if_pos hm.2]; rfl
      unfold downR
      rw [ho, List.nil_append]
      obtain ⟨a, b, c, d, e, f⟩ := r
      simp only at hm ⊢
      rw [hm.1, hm.2]
    rw [e]
    unfold downS
    rw [if_pos (show rightR 2 r = true from decide_eq_true h)]
  · rw [if_neg hm]
    have hne : ∃ f ∈ (downR r).extra, knows 2 f.1 = true := by
      show ∃ f ∈ ownF r ++ r.extra, knows 2 f.1 = true
      rw [ownF_eq r h0]
      by_cases h1 : r.life = 0
      · have h2 : ¬ r.note = [] := fun hc => hm ⟨h1, hc⟩
        exact ⟨(5, r.note), by simp [h1, h2], rfl⟩
      · exact ⟨(4, putF 8 r.life.toNat), by simp [h1], rfl⟩
    have hr : ¬ rightR 2 (downR r) = true := fun hc => by
      have h11 := (of_decide_eq_true hc : RightP 2 (downR r)).2.2.2.2.2.2.2.2.2.2
      unfold extraS at h11
      simp only [Bool.and_eq_true] at h11
      obtain ⟨f, hf, hk⟩ := hne
      have := List.all_eq_true.1 h11.1 f hf
      rw [hk] at this
      cases this
    unfold downS
    rw [if_neg hr]
end Go.Ai

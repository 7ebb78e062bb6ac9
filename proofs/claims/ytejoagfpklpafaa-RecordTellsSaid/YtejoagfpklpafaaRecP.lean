/- Records: Decode undoes Encode, and Encode undoes Decode; raw records' bytes. -/
import Derived.Test.YtejoagfpklpafaaConvP
import Derived.Test.YtejoagfpklpafaaRec5
set_option linter.unusedVariables false
set_option linter.unusedSimpArgs false
namespace Go.Ai
theorem numS_put {n : Int} (h : n ≠ 0) : numS n = putF 8 n.toNat := by
  unfold numS
  rw [if_neg h]
theorem put_ne {n : Int} : putF 8 n.toNat ≠ [] := putF_ne 7 _
/-- The known fields of a record, set one by one. -/
theorem setAll_all {v : Int} {r : Rec} (h : RightP v r) : setAll v rec0 (knownF r ++ r.extra) = some r := by
  obtain ⟨g1, g2, g3, g4, g5, g6, g7, g8, g9, g10, g11⟩ := h
  obtain ⟨e1, e2, e3, e4⟩ := extra_tags ⟨g1, g2, g3, g4, g5, g6, g7, g8, g9, g10, g11⟩
  have hck : ∀ f ∈ r.extra, knows v f.1 = false := fun f hf => by
    have := e4 f hf
    have := knows_last g1 f.1
    rw [this, decide_eq_false (show ¬ f.1 ≤ lastS v by omega), Bool.and_false]
  rw [knownF_eq r g8, List.append_assoc, setAll_append, setAll_known g1 r ⟨g5, g6⟩, Option.bind_some]
  have own : setAll v ⟨r.key, r.value, r.rev, 0, [], []⟩ ((if r.life = 0 then [] else [(4, putF 8 r.life.toNat)]) ++ (if r.note = [] then [] else [(5, r.note)])) = some { r with extra := [] } := by
    rcases g1 with rfl | rfl
    · obtain ⟨k1, k2⟩ := g7 rfl
      obtain ⟨key, value, rev, life, note, ex⟩ := r
      simp only at k1 k2
      subst k1 k2
      rfl
    · rw [setAll_append]
      have s1 : setAll 2 ⟨r.key, r.value, r.rev, 0, [], []⟩ (if r.life = 0 then [] else [(4, putF 8 r.life.toNat)]) = some ⟨r.key, r.value, r.rev, r.life, [], []⟩ := by
        by_cases hl : r.life = 0
        · rw [if_pos hl, hl]
          rfl
        · rw [if_neg hl, setAll]
          have hw : wholeS (putF 8 r.life.toNat) = r.life := by
            rw [← numS_put hl]
            exact wholeS_num g8 g9
          rw [setF_life (f := (4, putF 8 r.life.toNat)) rfl put_ne rfl (by rw [hw]; exact hl), hw]
          rfl
      rw [s1, Option.bind_some]
      by_cases hn : r.note = []
      · rw [if_pos hn, setAll, hn]
      · rw [if_neg hn, setAll, setF_note (f := (5, r.note)) rfl hn (by simp) (by simp) (by simp) (by simp)]
        rfl
  rw [setAll_append, own, Option.bind_some, setAll_extra r.extra _ hck]
  simp
theorem dec_same {v : Int} {r : Rec} (h : RightP v r) (hl : (encL (knownF r ++ r.extra)).length ≤ 10000) : decodeR v (encL (knownF r ++ r.extra)) = ⟨r, 0⟩ := by
  unfold decodeR
  rw [if_pos h.1, decode_encode (all_right h) hl]
  simp only
  rw [if_pos (find_known h.2.1 _), setAll_all h]
  simp only
  rw [if_pos (show rightR v r = true from decide_eq_true h)]
theorem enc_ok {v : Int} {r : Rec} (h : RightP v r) (hl : (encL (knownF r ++ r.extra)).length ≤ 10000) : encodeR v r = ⟨encL (knownF r ++ r.extra), 0⟩ := by
  unfold encodeR
  rw [if_pos (show rightR v r = true from decide_eq_true h), encodeS_ok (all_right h) hl]
/-- What was told is minimal. -/
theorem whole_num {s : List UInt8} (h : wholeS s ≠ 0) : numS (wholeS s) = s ∧ 0 < wholeS s := by
  unfold wholeS at h ⊢
  split at h
  · rename_i hc
    rw [if_pos hc]
    have ht := takeS_ok hc.1
    have hs : s = putF 8 (takeS s).num := by
      rw [← ht.1, hc.2, List.take_length]
    refine ⟨?_, by omega⟩
    rw [numS_put h, Int.toNat_natCast, ← hs]
  · simp at h
theorem kf_eq (r : Rec) : knownF r = (if r.key = [] then [] else [(1, r.key)]) ++ ((if r.value = [] then [] else [(2, r.value)]) ++ ((if numS r.rev = [] then [] else [(3, numS r.rev)]) ++ ((if numS r.life = [] then [] else [(4, numS r.life)]) ++ (if r.note = [] then [] else [(5, r.note)])))) := by
  unfold knownF knownA
  simp only [List.filter_cons, List.filter_nil, hasData]
  by_cases h1 : r.key = [] <;> by_cases h2 : r.value = [] <;> by_cases h3 : numS r.rev = [] <;> by_cases h4 : numS r.life = [] <;> by_cases h5 : r.note = [] <;> simp [h1, h2, h3, h4, h5]
/-- Nothing is set yet above a tag. -/
def Unset (v t : Int) (q : Rec) : Prop := (t < 1 → q.key = []) ∧ (t < 2 → q.value = []) ∧ (t < 3 → q.rev = 0) ∧ (t < 4 → q.life = 0) ∧ (t < 5 → q.note = []) ∧ (q.extra = [] ∨ lastS v ≤ t)
theorem set_all {v : Int} (hv : v = 1 ∨ v = 2) : ∀ (l : List Fld) (t : Int) (q r : Rec), 0 ≤ t → rightGo t l = true → Unset v t q → setAll v q l = some r → knownF r ++ r.extra = knownF q ++ q.extra ++ l
  | [], t, q, r, _, _, _, h => by
    simp only [setAll, Option.some.injEq] at h
    subst h
    simp
  | f :: l, t, q, r, h0, hg, hu, h => by
    unfold rightGo at hg
    simp only [Bool.and_eq_true, Bool.not_eq_true', Bool.or_eq_false_iff, decide_eq_false_iff_not] at hg
    obtain ⟨⟨⟨g1, g2⟩, g3⟩, g4⟩ := hg
    have n0 : numS 0 = [] := rfl
    obtain ⟨tag, s⟩ := f
    simp only at g1 g2 g3 g4
    unfold setAll at h
    cases hs : setF v q (tag, s) with
    | none => rw [hs] at h; simp at h
    | some q1 =>
      rw [hs] at h
      obtain ⟨u1, u2, u3, u4, u5, u6⟩ := hu
      have hkl := knows_last hv tag
      suffices hm : Unset v tag q1 ∧ knownF q1 ++ q1.extra = knownF q ++ q.extra ++ [(tag, s)] by
        have := set_all hv l tag q1 r (by omega) g4 hm.1 h
        rw [this, hm.2]
        simp
      by_cases hk : tag ≤ lastS v
      · have hkn : knows v tag = true := by
          rw [hkl, decide_eq_true hk, decide_eq_true (by omega)]
          rfl
        have hx : q.extra = [] := u6.resolve_right (by omega)
        have hs0 : s ≠ [] := fun he => by rw [setF_none hkn he] at hs; simp at hs
        have h5 : tag = 1 ∨ tag = 2 ∨ tag = 3 ∨ tag = 4 ∨ tag = 5 := by
          have : lastS v ≤ 5 := by rcases hv with rfl | rfl <;> simp [lastS]
          omega
        rcases h5 with rfl | rfl | rfl | rfl | rfl
        · rw [setF_key hkn hs0 rfl] at hs
          simp only [Option.some.injEq] at hs
          subst hs
          have a1 := u1 (by omega); have a2 := u2 (by omega); have a3 := u3 (by omega); have a4 := u4 (by omega); have a5 := u5 (by omega)
          refine ⟨⟨fun h => by omega, fun _ => a2, fun _ => a3, fun _ => a4, fun _ => a5, .inl hx⟩, ?_⟩
          rw [kf_eq, kf_eq q]
          simp [a1, a2, a3, a4, a5, hx, n0, hs0]
        · rw [setF_value hkn hs0 rfl] at hs
          simp only [Option.some.injEq] at hs
          subst hs
          have a2 := u2 (by omega); have a3 := u3 (by omega); have a4 := u4 (by omega); have a5 := u5 (by omega)
          refine ⟨⟨fun h => by omega, fun h => by omega, fun _ => a3, fun _ => a4, fun _ => a5, .inl hx⟩, ?_⟩
          rw [kf_eq, kf_eq q]
          simp [a2, a3, a4, a5, hx, n0, hs0]
        · by_cases hw : wholeS s = 0
          · rw [setF_rev0 hkn hs0 rfl hw] at hs
            simp at hs
          · rw [setF_rev hkn hs0 rfl hw] at hs
            simp only [Option.some.injEq] at hs
            subst hs
            have a3 := u3 (by omega); have a4 := u4 (by omega); have a5 := u5 (by omega)
            refine ⟨⟨fun h => by omega, fun h => by omega, fun h => by omega, fun _ => a4, fun _ => a5, .inl hx⟩, ?_⟩
            rw [kf_eq, kf_eq q]
            simp [a3, a4, a5, hx, n0, hs0, (whole_num hw).1]
        · by_cases hw : wholeS s = 0
          · rw [setF_life0 hkn hs0 rfl hw] at hs
            simp at hs
          · rw [setF_life hkn hs0 rfl hw] at hs
            simp only [Option.some.injEq] at hs
            subst hs
            have a4 := u4 (by omega); have a5 := u5 (by omega)
            refine ⟨⟨fun h => by omega, fun h => by omega, fun h => by omega, fun h => by omega, fun _ => a5, .inl hx⟩, ?_⟩
            rw [kf_eq, kf_eq q]
            simp [a4, a5, hx, n0, hs0, (whole_num hw).1]
        · rw [setF_note hkn hs0 (by simp) (by simp) (by simp) (by simp)] at hs
          simp only [Option.some.injEq] at hs
          subst hs
          have a5 := u5 (by omega)
          refine ⟨⟨fun h => by omega, fun h => by omega, fun h => by omega, fun h => by omega, fun h => by omega, .inl hx⟩, ?_⟩
          rw [kf_eq, kf_eq q]
          simp [a5, hx, n0, hs0]
      · have hkn : knows v tag = false := by
          rw [hkl, decide_eq_false hk]
          simp
        rw [setF_extra hkn] at hs
        simp only [Option.some.injEq] at hs
        subst hs
        refine ⟨⟨fun h => u1 (by omega), fun h => u2 (by omega), fun h => u3 (by omega), fun h => u4 (by omega), fun h => u5 (by omega), .inr (by omega)⟩, ?_⟩
        show knownF q ++ (q.extra ++ [(tag, s)]) = _
        rw [List.append_assoc]
/-- Encode undoes Decode. -/
theorem dec_enc {v : Int} {s : List UInt8} {r : Rec} (h : decodeR v s = ⟨r, 0⟩) : RightP v r ∧ encodeR v r = ⟨s, 0⟩ := by
  unfold decodeR at h
  split at h
  · rename_i hv
    split at h
    · rename_i e he
      simp only [RE.mk.injEq] at h
      exact absurd h.2 (decodeS_err he)
    · rename_i l he
      obtain ⟨h1, h2, h3⟩ := encode_decode he
      split at h
      · split at h
        · simp at h
        · rename_i r' hs
          split at h
          · rename_i hr
            simp only [RE.mk.injEq, and_true] at h
            subst h
            have hR : RightP v r' := of_decide_eq_true hr
            have hgo : rightGo 0 l = true := by
              unfold rightS at h2
              simp only [Bool.and_eq_true] at h2
              exact h2.1
            have hall := set_all hv l 0 rec0 r' (by omega) hgo ⟨fun _ => rfl, fun _ => rfl, fun _ => rfl, fun _ => rfl, fun _ => rfl, .inl rfl⟩ hs
            have h0 : knownF rec0 ++ rec0.extra = [] := rfl
            rw [h0, List.nil_append] at hall
            refine ⟨hR, ?_⟩
            rw [enc_ok hR (by rw [hall, h1]; exact h3), hall, h1]
          · simp at h
      · simp at h
  · simp at h
theorem dec_no {v : Int} {s : List UInt8} (h : (decodeR v s).e ≠ 0) : (decodeR v s).r = rec0 := by
  unfold decodeR at h ⊢
  split
  · rename_i hv
    rw [if_pos hv] at h
    split
    · rfl
    · rename_i l he
      rw [he] at h
      simp only at h
      split
      · rename_i hf
        rw [if_pos hf] at h
        split
        · rfl
        · rename_i r hs
          rw [hs] at h
          simp only at h
          split
          · rename_i hr
            rw [if_pos hr] at h
            simp at h
          · rfl
      · rfl
  · rfl
/-- Raw records have few bytes. -/
theorem record_len {v a0 a1 a2 a3 a4 : Int} {raw : List (Int × Int)} (texts : List (List UInt8)) (h : RightP v (recordS v a0 a1 a2 a3 a4 raw texts)) : (encL (knownF (recordS v a0 a1 a2 a3 a4 raw texts) ++ (recordS v a0 a1 a2 a3 a4 raw texts).extra)).length ≤ 6500 := by
  have h1 := known_len h
  have h2 : ∀ f ∈ (recordS v a0 a1 a2 a3 a4 raw texts).extra, f.2.length ≤ 300 := fun f hf => by
    obtain ⟨g, hg, rfl⟩ := List.mem_map.1 hf
    exact fieldsGo_data texts 20 0 raw g (List.mem_of_mem_take hg)
  have h3 := encL_len300 h2
  have h4 : (recordS v a0 a1 a2 a3 a4 raw texts).extra.length ≤ 6 := by
    simp only [recordS, List.length_map, List.length_take]
    omega
  rw [encL_append, List.length_append]
  omega
end Go.Ai

/- Messages: the stage's theorem, plain. -/
import Derived.Test.YtlklggododajiaaWireP
import Derived.Test.YtlklggododajiaaWire2
import Derived.Test.YtlklggododajiaaField2D
set_option linter.unusedVariables false
set_option linter.unusedSimpArgs false
namespace Go.Ai
theorem dec_enc {v : Int} {x : Msg} (h : rightM v x) : decM (UInt8.ofNat v.toNat :: encL (fieldsM x)) = ⟨v, x, 0⟩ := by
  obtain ⟨r1, r2, r3⟩ := fieldsM_right h
  have hd := decode_encode r1 (by omega)
  have hs := setsM_all (right_fits h)
  rcases right_v h with rfl | rfl
  · have hc : (UInt8.ofNat (1 : Int).toNat).toNat = 1 := by decide
    unfold decM
    simp only
    rw [hc, if_pos (.inl rfl), hd]
    simp only
    rw [hs]
    simp only
    exact if_pos h
  · have hc : (UInt8.ofNat (2 : Int).toNat).toNat = 2 := by decide
    unfold decM
    simp only
    rw [hc, if_pos (.inr rfl), hd]
    simp only
    rw [hs]
    simp only
    exact if_pos h
theorem zeroA_msg0 : zeroA 0 msg0 := ⟨fun _ => rfl, fun _ => rfl, fun _ => rfl, fun _ => rfl, fun _ => rfl, fun _ => rfl⟩
/-- Either an error, and nothing else, or bytes of a message that may be. -/
theorem dec_cases (s : List UInt8) : (∃ e, e ≠ 0 ∧ decM s = ⟨0, msg0, e⟩) ∨ ∃ v x, decM s = ⟨v, x, 0⟩ ∧ rightM v x ∧ s = UInt8.ofNat v.toNat :: encL (fieldsM x) := by
  unfold decM
  match s with
  | [] => exact .inl ⟨22, by decide, rfl⟩
  | c :: r =>
    simp only
    split
    · rename_i hc
      cases hd : decodeS r with
      | no e => exact .inl ⟨e, decodeS_err hd, rfl⟩
      | ok l =>
        simp only
        cases hs : setsM msg0 l with
        | none => exact .inl ⟨21, by decide, rfl⟩
        | some x =>
          simp only
          split
          · rename_i hx
            refine .inr ⟨c.toNat, x, rfl, hx, ?_⟩
            obtain ⟨h1, h2, h3⟩ := encode_decode hd
            have h4 : rightGo 0 l = true := by
              simp only [rightS, Bool.and_eq_true] at h2
              exact h2.1
            have h5 := setsM_fields zeroA_msg0 h4 hs
            have h6 : fieldsM x = l := by rw [h5]; rfl
            rw [h6, h1]
            simp
          · exact .inl ⟨21, by decide, rfl⟩
    · exact .inl ⟨22, by decide, rfl⟩
end Go.Ai

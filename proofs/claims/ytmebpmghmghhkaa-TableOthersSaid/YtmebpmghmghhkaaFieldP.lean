/- Plain laws of fields and their bytes. -/
import Derived.Test.YtmebpmghmghhkaaFieldS
set_option linter.unusedVariables false
set_option linter.unusedSimpArgs false
namespace Go.Ai
theorem putF_small {k n : Nat} (h : n < 128) : putF (k + 1) n = [UInt8.ofNat n] := by rw [putF, if_pos h]
theorem putF_big {k n : Nat} (h : ¬ n < 128) : putF (k + 1) n = UInt8.ofNat (n % 128 + 128) :: putF k (n / 128) := by rw [putF, if_neg h]
theorem ofNat_small {n : Nat} (h : n < 256) : (UInt8.ofNat n).toNat = n := by simp; omega
theorem sizeF_put : ∀ (k n : Nat) (r : List UInt8), 0 < k → n < 128 ^ k → sizeF k (putF k n ++ r) = (putF k n).length
  | 0, _, _, h, _ => by omega
  | k + 1, n, r, _, h => by
    by_cases hn : n < 128
    · rw [putF_small hn]
      simp only [List.cons_append, List.nil_append, sizeF, ofNat_small (show n < 256 by omega), if_pos hn, List.length_cons, List.length_nil]
    · rw [putF_big hn]
      have hk : 0 < k := by
        rcases Nat.eq_zero_or_pos k with rfl | h0
        · simp at h; omega
        · exact h0
      have ih := sizeF_put k (n / 128) r hk (by rw [Nat.pow_succ] at h; omega)
      obtain ⟨j, rfl⟩ : ∃ j, k = j + 1 := ⟨k - 1, by omega⟩
      have hne := List.length_pos_iff.2 (putF_ne j (n / 128))
      simp only [List.cons_append, sizeF, ofNat_small (show n % 128 + 128 < 256 by omega), if_neg (show ¬ n % 128 + 128 < 128 by omega), List.length_cons]
      have ih' : sizeF (j + 1) (putF (j + 1) (n / 128) ++ r) = (putF (j + 1) (n / 128)).length := ih
      rw [ih']
      split
      · omega
      · omega
theorem valL_put : ∀ (k n : Nat), n < 128 ^ k → valL (putF k n) = n
  | 0, n, h => by simp at h; subst h; rfl
  | k + 1, n, h => by
    by_cases hn : n < 128
    · rw [putF_small hn]
      simp only [valL, ofNat_small (show n < 256 by omega)]
      omega
    · rw [putF_big hn]
      simp only [valL, ofNat_small (show n % 128 + 128 < 256 by omega), valL_put k (n / 128) (by rw [Nat.pow_succ] at h; omega)]
      omega
theorem put_last : ∀ (k n : Nat), 1 ≤ n → n < 128 ^ k → ∃ c, (putF k n)[(putF k n).length - 1]? = some c ∧ c.toNat ≠ 0
  | 0, n, h0, h => by simp at h; omega
  | k + 1, n, h0, h => by
    by_cases hn : n < 128
    · rw [putF_small hn]
      exact ⟨_, rfl, by rw [ofNat_small (by omega)]; omega⟩
    · rw [putF_big hn]
      obtain ⟨c, h1, h2⟩ := put_last k (n / 128) (by omega) (by rw [Nat.pow_succ] at h; omega)
      refine ⟨c, ?_, h2⟩
      have hlt := (List.getElem?_eq_some_iff.1 h1).1
      rw [List.length_cons, show (putF k (n / 128)).length + 1 - 1 = ((putF k (n / 128)).length - 1) + 1 by omega, List.getElem?_cons_succ]
      exact h1
theorem takeS_put {n : Nat} (hn : n ≤ 9007199254740992) (r : List UInt8) : takeS (putF 8 n ++ r) = ⟨n, (putF 8 n).length, 0⟩ := by
  have h8 : n < 128 ^ 8 := by
    have : 128 ^ 8 = 72057594037927936 := by decide
    omega
  have hs := sizeF_put 8 n r (by omega) h8
  have hne : 0 < (putF 8 n).length := List.length_pos_iff.2 (putF_ne 7 n)
  unfold takeS
  rw [hs]
  obtain ⟨j, hj⟩ : ∃ j, (putF 8 n).length = j + 1 := ⟨(putF 8 n).length - 1, by omega⟩
  rw [hj]
  simp only
  have ht : (putF 8 n ++ r).take (j + 1) = putF 8 n := by rw [← hj]; exact List.take_left
  rw [ht, valL_put 8 n h8]
  have hb : takeBad (putF 8 n ++ r) (j + 1) = false := by
    unfold takeBad
    rw [ht, valL_put 8 n h8]
    have e1 : decide (9007199254740992 < n) = false := by simp; omega
    rw [e1, Bool.or_false]
    by_cases hj1 : 1 < j + 1
    · have h1 : 1 ≤ n := by
        rcases Nat.eq_zero_or_pos n with rfl | h
        · rw [putF_small (by omega)] at hj
          simp at hj
          omega
        · exact h
      obtain ⟨c, h2, h3⟩ := put_last 8 n h1 h8
      rw [hj] at h2
      have h4 : (putF 8 n ++ r).getD (j + 1 - 1) 0 = c := by
        rw [List.getD_eq_getElem?_getD, List.getElem?_append_left (by omega), h2]
        rfl
      rw [h4]
      simp [h3]
    · simp [hj1]
  rw [if_neg (by rw [hb]; simp)]
theorem sizeF_cons {k : Nat} {c d : UInt8} {r : List UInt8} (h : sizeF (k + 1) (c :: d :: r) = (c :: d :: r).length) : ¬ c.toNat < 128 ∧ sizeF k (d :: r) = (d :: r).length := by
  have hc : ¬ c.toNat < 128 := fun hc => by
    simp only [sizeF, if_pos hc, List.length_cons] at h
    omega
  refine ⟨hc, ?_⟩
  unfold sizeF at h
  rw [if_neg hc] at h
  split at h
  · simp at h
  · rename_i m hm
    rw [hm]
    simp only [List.length_cons] at h ⊢
    omega
theorem valL_pos : ∀ (k : Nat) (l : List UInt8), l ≠ [] → sizeF k l = l.length → (∀ c, l[l.length - 1]? = some c → c.toNat ≠ 0) → 1 ≤ valL l
  | 0, l, h0, h, _ => by
    simp only [sizeF] at h
    exact absurd (List.eq_nil_of_length_eq_zero h.symm) h0
  | k + 1, [], h0, _, _ => absurd rfl h0
  | k + 1, [c], _, h, hl => by
    have hc : c.toNat < 128 := by
      simp only [sizeF, List.length_cons, List.length_nil] at h
      split at h
      · assumption
      · split at h <;> omega
    have := hl c rfl
    simp only [valL]
    omega
  | k + 1, c :: d :: r, _, h, hl => by
    obtain ⟨hc, h2⟩ := sizeF_cons h
    have ih := valL_pos k (d :: r) (by simp) h2 fun x hx => hl x (by
      rw [show (c :: d :: r).length - 1 = ((d :: r).length - 1) + 1 by simp, List.getElem?_cons_succ]
      exact hx)
    have e : valL (c :: d :: r) = c.toNat % 128 + 128 * valL (d :: r) := rfl
    omega
/-- Bytes that are a number's. -/
theorem put_val : ∀ (k : Nat) (l : List UInt8), l ≠ [] → sizeF k l = l.length → (∀ c, 1 < l.length → l[l.length - 1]? = some c → c.toNat ≠ 0) → putF k (valL l) = l
  | 0, l, h0, h, _ => by
    simp only [sizeF] at h
    exact absurd (List.eq_nil_of_length_eq_zero h.symm) h0
  | k + 1, [], h0, _, _ => absurd rfl h0
  | k + 1, [c], _, h, _ => by
    have hc : c.toNat < 128 := by
      simp only [sizeF, List.length_cons, List.length_nil] at h
      split at h
      · assumption
      · split at h <;> omega
    simp only [valL]
    rw [show c.toNat % 128 + 128 * 0 = c.toNat by omega, putF_small hc]
    simp
  | k + 1, c :: d :: r, _, h, hl => by
    obtain ⟨hc, h2⟩ := sizeF_cons h
    have hl2 : ∀ x, (d :: r)[(d :: r).length - 1]? = some x → x.toNat ≠ 0 := fun x hx => by
      refine hl x (by simp) ?_
      rw [show (c :: d :: r).length - 1 = ((d :: r).length - 1) + 1 by simp, List.getElem?_cons_succ]
      exact hx
    have ih := put_val k (d :: r) (by simp) h2 fun x _ hx => hl2 x hx
    have hpos : 1 ≤ valL (d :: r) := valL_pos k _ (by simp) h2 hl2
    have hb := c.toNat_lt
    have e : valL (c :: d :: r) = c.toNat % 128 + 128 * valL (d :: r) := rfl
    rw [e, putF_big (by omega)]
    have e1 : (c.toNat % 128 + 128 * valL (d :: r)) % 128 + 128 = c.toNat := by omega
    have e2 : (c.toNat % 128 + 128 * valL (d :: r)) / 128 = valL (d :: r) := by omega
    rw [e1, e2, ih]
    simp
theorem sizeF_take : ∀ (k : Nat) (l : List UInt8), sizeF k (l.take (sizeF k l)) = sizeF k l
  | 0, l => by simp [sizeF]
  | k + 1, [] => by simp [sizeF]
  | k + 1, c :: r => by
    by_cases hc : c.toNat < 128
    · simp [sizeF, hc]
    · have ih := sizeF_take k r
      simp only [sizeF, hc, if_false]
      cases h : sizeF k r with
      | zero => simp [sizeF]
      | succ m =>
        rw [h] at ih
        simp [sizeF, hc, ih]
theorem takeS_ok {s : List UInt8} (h : (takeS s).err = 0) : s.take (takeS s).len = putF 8 (takeS s).num ∧ (takeS s).num ≤ 9007199254740992 ∧ 1 ≤ (takeS s).len ∧ (takeS s).len ≤ s.length := by
  have hle := sizeF_le 8 s
  have htk := sizeF_take 8 s
  unfold takeS at h ⊢
  split at h
  · simp only at h
    split at h <;> simp at h
  · rename_i n hn
    rw [hn] at hle htk
    split at h
    · simp at h
    · rename_i hb
      rw [if_neg hb]
      simp only [takeBad, Bool.or_eq_true, Bool.and_eq_true, decide_eq_true_eq, not_or, not_and] at hb
      have hlen : (s.take (n + 1)).length = n + 1 := by simp; omega
      refine ⟨?_, by show valL _ ≤ _; omega, by show 1 ≤ n + 1; omega, by show n + 1 ≤ _; omega⟩
      show s.take (n + 1) = putF 8 (valL (s.take (n + 1)))
      refine (put_val 8 (s.take (n + 1)) (fun h0 => by rw [h0] at hlen; simp at hlen) (by rw [htk, hlen]) fun c h1 hc => ?_).symm
      rw [hlen] at h1 hc
      have := hb.1 h1
      rw [List.getElem?_take_of_lt (by omega)] at hc
      rwa [List.getD_eq_getElem?_getD, hc] at this
/-- A number that is cut off. -/
theorem takeS_cut {n : Nat} (hn : n ≤ 9007199254740992) {j : Nat} (hj : j < (putF 8 n).length) : (takeS ((putF 8 n).take j)).err = 10 := by
  have h8 : n < 128 ^ 8 := by
    have : 128 ^ 8 = 72057594037927936 := by decide
    omega
  have hl := putF_len 8 n
  have h0 : sizeF 8 ((putF 8 n).take j) = 0 := sizeF_cut 8 n j h8 hj
  unfold takeS
  rw [h0]
  simp only
  rw [if_pos (by simp; omega)]
where
  sizeF_cut : ∀ (k n j : Nat), n < 128 ^ k → j < (putF k n).length → sizeF k ((putF k n).take j) = 0
  | 0, _, _, _, _ => by simp [sizeF]
  | k + 1, n, 0, _, _ => by simp [sizeF]
  | k + 1, n, j + 1, h, hj => by
    by_cases hn : n < 128
    · rw [putF_small hn] at hj
      simp at hj
    · rw [putF_big hn] at hj ⊢
      simp only [List.length_cons] at hj
      have ih := sizeF_cut k (n / 128) j (by rw [Nat.pow_succ] at h; omega) (by omega)
      simp only [List.take_succ_cons, sizeF, ofNat_small (show n % 128 + 128 < 256 by omega), if_neg (show ¬ n % 128 + 128 < 128 by omega), ih]
theorem oneS_enc {f : Fld} {last : Int} (h0 : last < f.1) (h1 : 0 ≤ f.1) (h2 : f.1 ≤ 1000000) (h3 : f.2.length ≤ 1000) (r : List UInt8) : oneS (encF f ++ r) last = .ok (f, r) := by
  obtain ⟨n, hn⟩ : ∃ n : Nat, f.1 = n := ⟨f.1.toNat, by omega⟩
  have e0 : encF f ++ r = putF 8 n ++ (putF 8 f.2.length ++ (f.2 ++ r)) := by simp [encF, hn]
  have t1 : takeS (encF f ++ r) = ⟨n, (putF 8 n).length, 0⟩ := by rw [e0]; exact takeS_put (by omega) _
  have d1 : (encF f ++ r).drop (putF 8 n).length = putF 8 f.2.length ++ (f.2 ++ r) := by rw [e0]; exact List.drop_left
  have t2 : takeS (putF 8 f.2.length ++ (f.2 ++ r)) = ⟨f.2.length, (putF 8 f.2.length).length, 0⟩ := takeS_put (by omega) _
  have d2 : (putF 8 f.2.length ++ (f.2 ++ r)).drop (putF 8 f.2.length).length = f.2 ++ r := List.drop_left
  unfold oneS
  rw [t1]
  simp only [d1, t2, d2]
  rw [if_neg (by simp), if_neg (by omega), if_neg (by simp), if_neg (by omega), if_neg (by simp), List.take_left, List.drop_left, ← hn]
theorem oneS_dec {s : List UInt8} {last : Int} {x : Fld} {r : List UInt8} (h : oneS s last = .ok (x, r)) : s = encF x ++ r ∧ last < x.1 ∧ 0 ≤ x.1 ∧ x.1 ≤ 1000000 ∧ x.2.length ≤ 1000 := by
  unfold oneS at h
  simp only at h
  split at h
  · simp at h
  · rename_i e1
    have k1 := takeS_ok (s := s) (by omega)
    split at h
    · simp at h
    · rename_i e2
      split at h
      · simp at h
      · rename_i e3
        have k2 := takeS_ok (s := s.drop (takeS s).len) (by omega)
        split at h
        · simp at h
        · rename_i e4
          split at h
          · simp at h
          · rename_i e5
            simp only [Dec.ok.injEq, Prod.mk.injEq] at h
            obtain ⟨rfl, rfl⟩ := h
            have hl : (((s.drop (takeS s).len).drop (takeS (s.drop (takeS s).len)).len).take (takeS (s.drop (takeS s).len)).num).length = (takeS (s.drop (takeS s).len)).num := by
              rw [List.length_take]; omega
            refine ⟨?_, by omega, by simp, by omega, Nat.le_trans (Nat.le_of_eq hl) (by omega)⟩
            simp only [encF, Int.toNat_natCast, hl]
            rw [← k1.1, ← k2.1]
            simp only [List.append_assoc, List.take_append_drop]
/-- What is cut off within a field. -/
theorem oneS_cut {f : Fld} {last : Int} (h0 : last < f.1) (h1 : 0 ≤ f.1) (h2 : f.1 ≤ 1000000) (h3 : f.2.length ≤ 1000) {j : Nat} (hj : j < (encF f).length) : oneS ((encF f).take j) last = .no 10 := by
  obtain ⟨n, hn⟩ : ∃ n : Nat, f.1 = n := ⟨f.1.toNat, by omega⟩
  have e0 : encF f = putF 8 n ++ (putF 8 f.2.length ++ f.2) := by simp [encF, hn]
  rw [e0] at hj ⊢
  simp only [List.length_append] at hj
  by_cases ha : j < (putF 8 n).length
  · have ht : (putF 8 n ++ (putF 8 f.2.length ++ f.2)).take j = (putF 8 n).take j := by
      rw [List.take_append_of_le_length (by omega)]
    have k := takeS_cut (n := n) (by omega) ha
    unfold oneS
    rw [ht]
    simp only [k]
    rw [if_pos (by simp)]
  · have ht : (putF 8 n ++ (putF 8 f.2.length ++ f.2)).take j = putF 8 n ++ (putF 8 f.2.length ++ f.2).take (j - (putF 8 n).length) := by
      rw [List.take_append, List.take_of_length_le (by omega)]
    have t1 : takeS (putF 8 n ++ (putF 8 f.2.length ++ f.2).take (j - (putF 8 n).length)) = ⟨n, (putF 8 n).length, 0⟩ := takeS_put (by omega) _
    have d1 : (putF 8 n ++ (putF 8 f.2.length ++ f.2).take (j - (putF 8 n).length)).drop (putF 8 n).length = (putF 8 f.2.length ++ f.2).take (j - (putF 8 n).length) := List.drop_left
    unfold oneS
    rw [ht, t1]
    simp only [d1]
    rw [if_neg (by simp), if_neg (by omega)]
    by_cases hb : j - (putF 8 n).length < (putF 8 f.2.length).length
    · have ht2 : (putF 8 f.2.length ++ f.2).take (j - (putF 8 n).length) = (putF 8 f.2.length).take (j - (putF 8 n).length) := by
        rw [List.take_append_of_le_length (by omega)]
      have k := takeS_cut (n := f.2.length) (by omega) hb
      rw [ht2]
      simp only [k]
      rw [if_pos (by simp)]
    · have ht2 : (putF 8 f.2.length ++ f.2).take (j - (putF 8 n).length) = putF 8 f.2.length ++ f.2.take (j - (putF 8 n).length - (putF 8 f.2.length).length) := by
        rw [List.take_append, List.take_of_length_le (by omega)]
      have t2 : takeS (putF 8 f.2.length ++ f.2.take (j - (putF 8 n).length - (putF 8 f.2.length).length)) = ⟨f.2.length, (putF 8 f.2.length).length, 0⟩ := takeS_put (by omega) _
      have d2 : (putF 8 f.2.length ++ f.2.take (j - (putF 8 n).length - (putF 8 f.2.length).length)).drop (putF 8 f.2.length).length = f.2.take (j - (putF 8 n).length - (putF 8 f.2.length).length) := List.drop_left
      rw [ht2, t2]
      simp only [d2]
      rw [if_neg (by simp), if_neg (by omega), if_pos (by rw [List.length_take]; omega)]
theorem encF_ne (f : Fld) : 0 < (encF f).length := by
  have : 0 < (putF 8 f.1.toNat).length := List.length_pos_iff.2 (putF_ne 7 f.1.toNat)
  simp only [encF, List.length_append]
  omega
theorem encL_cons (f : Fld) (r : List Fld) : encL (f :: r) = encF f ++ encL r := rfl
theorem encL_append (a b : List Fld) : encL (a ++ b) = encL a ++ encL b := by simp [encL]
theorem decGo_enc : ∀ (l : List Fld) (f : Nat) (last : Int) (n : Nat), 0 ≤ last → rightGo last l = true → n + l.length ≤ 64 → (encL l).length ≤ f → decGo f (encL l) last n = .ok l
  | [], f, last, n, _, _, _, _ => by cases f <;> simp [decGo, encL]
  | x :: r, f, last, n, h0, h, hn, hf => by
    simp only [rightGo, Bool.and_eq_true, Bool.not_eq_true', Bool.or_eq_false_iff, decide_eq_false_iff_not] at h
    obtain ⟨⟨⟨h1, h2⟩, h3⟩, h4⟩ := h
    have hpos := encF_ne x
    rw [encL_cons, List.length_append] at hf
    obtain ⟨f, rfl⟩ : ∃ j, f = j + 1 := ⟨f - 1, by omega⟩
    have hne : ¬ encL (x :: r) = [] := fun he => by
      rw [encL_cons] at he
      rw [(List.append_eq_nil_iff.1 he).1] at hpos
      simp at hpos
    simp only [List.length_cons] at hn
    rw [decGo, if_neg hne, encL_cons, oneS_enc (by omega) (by omega) (by omega) (by omega)]
    simp only
    rw [if_neg (by omega), decGo_enc r f x.1 (n + 1) (by omega) h4 (by omega) (by omega)]
theorem decGo_dec : ∀ (f : Nat) (s : List UInt8) (last : Int) (n : Nat) (l : List Fld), s.length ≤ f → n ≤ 64 → decGo f s last n = .ok l → encL l = s ∧ rightGo last l = true ∧ n + l.length ≤ 64
  | 0, s, last, n, l, hf, hn, h => by
    have : s = [] := List.eq_nil_of_length_eq_zero (by omega)
    subst this
    simp only [decGo, Dec.ok.injEq] at h
    subst h
    exact ⟨rfl, rfl, by simpa using hn⟩
  | f + 1, s, last, n, l, hf, hn, h => by
    rw [decGo] at h
    split at h
    · rename_i hs
      simp only [Dec.ok.injEq] at h
      subst h
      exact ⟨hs.symm, rfl, by simpa using hn⟩
    · split at h
      · simp at h
      · rename_i x r ho
        obtain ⟨k1, k2, k3, k4, k5⟩ := oneS_dec ho
        have hpos := encF_ne x
        have hlen := congrArg List.length k1
        rw [List.length_append] at hlen
        split at h
        · simp at h
        · rename_i h64
          split at h
          · simp at h
          · rename_i l' hl
            simp only [Dec.ok.injEq] at h
            subst h
            obtain ⟨m1, m2, m3⟩ := decGo_dec f r x.1 (n + 1) l' (by omega) (by omega) hl
            refine ⟨by rw [encL_cons, m1, ← k1], ?_, by simp; omega⟩
            simp only [rightGo, m2, Bool.and_true, Bool.not_eq_true', Bool.or_eq_false_iff, decide_eq_false_iff_not]
            exact ⟨⟨by omega, by omega⟩, by omega⟩
/-- The stage's theorem, to and fro. -/
theorem decode_encode {l : List Fld} (h : rightS l = true) (hl : (encL l).length ≤ 10000) : decodeS (encL l) = .ok l := by
  have := right_bd h
  simp only [rightS, Bool.and_eq_true, decide_eq_true_eq] at h
  unfold decodeS
  rw [if_neg (by omega)]
  exact decGo_enc l _ 0 0 (by omega) h.1 (by omega) (Nat.le_refl _)
theorem encode_decode {s : List UInt8} {l : List Fld} (h : decodeS s = .ok l) : encL l = s ∧ rightS l = true ∧ s.length ≤ 10000 := by
  unfold decodeS at h
  split at h
  · simp at h
  · rename_i hl
    obtain ⟨h1, h2, h3⟩ := decGo_dec s.length s 0 0 l (Nat.le_refl _) (by omega) h
    refine ⟨h1, ?_, by omega⟩
    simp only [rightS, h2, Bool.true_and, decide_eq_true_eq]
    omega
/-- What is cut off. -/
theorem decGo_cut : ∀ (l : List Fld) (f : Nat) (last : Int) (n k : Nat), 0 ≤ last → rightGo last l = true → n + l.length ≤ 64 → k ≤ (encL l).length → k ≤ f →
    (∃ i, i ≤ l.length ∧ (encL (l.take i)).length = k ∧ decGo f ((encL l).take k) last n = .ok (l.take i)) ∨ ((∀ i, i ≤ l.length → (encL (l.take i)).length ≠ k) ∧ decGo f ((encL l).take k) last n = .no 10)
  | [], f, last, n, k, _, _, _, hk, _ => by
    simp [encL] at hk
    subst hk
    exact .inl ⟨0, by simp, by simp [encL], by cases f <;> simp [decGo, encL]⟩
  | x :: r, f, last, n, k, h0, h, hn, hk, hf => by
    simp only [rightGo, Bool.and_eq_true, Bool.not_eq_true', Bool.or_eq_false_iff, decide_eq_false_iff_not] at h
    obtain ⟨⟨⟨h1, h2⟩, h3⟩, h4⟩ := h
    have hpos := encF_ne x
    rw [encL_cons] at hk ⊢
    rw [List.length_append] at hk
    simp only [List.length_cons] at hn
    by_cases hk0 : k = 0
    · subst hk0
      exact .inl ⟨0, by simp, by simp [encL], by cases f <;> simp [decGo]⟩
    obtain ⟨f, rfl⟩ : ∃ j, f = j + 1 := ⟨f - 1, by omega⟩
    have hne : ¬ (encF x ++ encL r).take k = [] := fun he => by
      rcases List.take_eq_nil_iff.1 he with h | h
      · omega
      · rw [(List.append_eq_nil_iff.1 h).1] at hpos
        simp at hpos
    by_cases hk1 : k < (encF x).length
    · refine .inr ⟨fun i hi he => ?_, ?_⟩
      · cases i with
        | zero => simp [encL] at he; omega
        | succ i =>
          rw [List.take_succ_cons, encL_cons, List.length_append] at he
          omega
      · rw [decGo, if_neg hne, List.take_append_of_le_length (by omega), oneS_cut (by omega) (by omega) (by omega) (by omega) hk1]
    · have ht : (encF x ++ encL r).take k = encF x ++ (encL r).take (k - (encF x).length) := by
        rw [List.take_append, List.take_of_length_le (by omega)]
      have ih := decGo_cut r f x.1 (n + 1) (k - (encF x).length) (by omega) h4 (by omega) (by omega) (by omega)
      have hs : decGo (f + 1) ((encF x ++ encL r).take k) last n = match decGo f ((encL r).take (k - (encF x).length)) x.1 (n + 1) with
          | .no e => .no e
          | .ok l => .ok (x :: l) := by
        rw [decGo, if_neg hne, ht, oneS_enc (by omega) (by omega) (by omega) (by omega)]
        simp only
        rw [if_neg (by omega)]
        rfl
      rcases ih with ⟨i, i1, i2, i3⟩ | ⟨i1, i2⟩
      · refine .inl ⟨i + 1, by simp; omega, ?_, ?_⟩
        · rw [List.take_succ_cons, encL_cons, List.length_append, i2]
          omega
        · rw [hs, i3]
          simp
      · refine .inr ⟨fun i hi he => ?_, by rw [hs, i2]⟩
        cases i with
        | zero => simp [encL] at he; omega
        | succ i =>
          rw [List.take_succ_cons, encL_cons, List.length_append] at he
          exact i1 i (by simp at hi; omega) (by omega)
theorem rightGo_mono : ∀ {l : List Fld} {t t' : Int}, t' ≤ t → rightGo t l = true → rightGo t' l = true
  | [], _, _, _, _ => rfl
  | f :: r, t, t', ht, h => by
    simp only [rightGo, Bool.and_eq_true, Bool.not_eq_true', Bool.or_eq_false_iff, decide_eq_false_iff_not] at h ⊢
    exact ⟨⟨⟨by omega, h.1.1.2⟩, h.1.2⟩, h.2⟩
theorem rightGo_take : ∀ {l : List Fld} {t : Int} (k : Nat), rightGo t l = true → rightGo t (l.take k) = true
  | [], _, k, _ => by simp [rightGo]
  | f :: r, t, 0, h => by simp [rightGo]
  | f :: r, t, k + 1, h => by
    simp only [rightGo, Bool.and_eq_true, List.take_succ_cons] at h ⊢
    exact ⟨h.1, rightGo_take k h.2⟩
theorem rightGo_drop : ∀ {l : List Fld} {t : Int} (k : Nat), rightGo t l = true → rightGo t (l.drop k) = true
  | [], _, k, _ => by simp [rightGo]
  | f :: r, t, 0, h => h
  | f :: r, t, k + 1, h => by
    simp only [rightGo, Bool.and_eq_true, List.drop_succ_cons] at h ⊢
    have h1 := h.1
    simp only [Bool.not_eq_true', Bool.or_eq_false_iff, decide_eq_false_iff_not] at h1
    exact rightGo_drop k (rightGo_mono (by omega) h.2)
theorem rightS_take {l : List Fld} (k : Nat) (h : rightS l = true) : rightS (l.take k) = true := by
  simp only [rightS, Bool.and_eq_true, decide_eq_true_eq] at h ⊢
  exact ⟨rightGo_take k h.1, by simp; omega⟩
theorem rightS_drop {l : List Fld} (k : Nat) (h : rightS l = true) : rightS (l.drop k) = true := by
  simp only [rightS, Bool.and_eq_true, decide_eq_true_eq] at h ⊢
  exact ⟨rightGo_drop k h.1, by simp; omega⟩
theorem encodeS_ok {l : List Fld} (h : rightS l = true) (hl : (encL l).length ≤ 10000) : encodeS l = ⟨encL l, 0⟩ := by
  unfold encodeS
  rw [if_pos h, if_pos hl]
theorem fieldsGo_data (texts : List (List UInt8)) : ∀ (n : Nat) (tag : Int) (raw : List (Int × Int)), ∀ f ∈ fieldsGo texts n tag raw, f.2.length ≤ 300
  | 0, _, _, f, h => by simp [fieldsGo] at h
  | n + 1, _, [], f, h => by simp [fieldsGo] at h
  | n + 1, tag, p :: r, f, h => by
    simp only [fieldsGo] at h
    rcases List.mem_cons.1 h with rfl | h
    · show (textAt texts p.2).length ≤ 300
      unfold textAt
      split
      · simp
      · rw [List.length_take]; omega
    · exact fieldsGo_data texts n _ r f h
theorem encL_len300 {l : List Fld} (h : ∀ f ∈ l, f.2.length ≤ 300) : (encL l).length ≤ l.length * 316 := by
  induction l with
  | nil => simp [encL]
  | cons f r ih =>
    have h1 := ih fun g hg => h g (List.mem_cons_of_mem _ hg)
    have h2 := h f (List.mem_cons_self ..)
    have h3 := putF_len 8 f.1.toNat
    have h4 := putF_len 8 f.2.length
    rw [encL_cons]
    simp only [encF, List.length_append, List.length_cons]
    omega
/-- What is known of the fields that a law makes of raw numbers. -/
theorem fieldsS_facts {raw : List (Int × Int)} (texts : List (List UInt8)) (h : ∀ p ∈ raw, i64ok p.1 ∧ i64ok p.2) : rightS (fieldsS raw texts) = true ∧ (fieldsS raw texts).length ≤ 20 ∧ (encL (fieldsS raw texts)).length ≤ 6320 := by
  obtain ⟨h1, h2⟩ := fieldsS_right texts fun p hp => (h p hp).1
  refine ⟨h1, h2, ?_⟩
  have := encL_len300 (l := fieldsS raw texts) (fieldsGo_data texts 20 0 raw)
  omega
theorem encL_split (l : List Fld) (k : Nat) : encL l = encL (l.take k) ++ encL (l.drop k) := by
  rw [← encL_append, List.take_append_drop]
end Go.Ai

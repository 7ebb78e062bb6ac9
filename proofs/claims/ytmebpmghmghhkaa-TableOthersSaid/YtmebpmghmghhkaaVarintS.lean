/- Numbers as bytes: what is computed, and plain laws of it. -/
import Derived.Test.YtmebpmghmghhkaaAiVar
set_option linter.unusedVariables false
set_option linter.unusedSimpArgs false
namespace Go.Ai
/-- How many bytes a number has that a text begins with (of at most k). -/
def sizeF : Nat → List UInt8 → Nat
  | 0, _ => 0
  | _ + 1, [] => 0
  | k + 1, c :: r => if c.toNat < 128 then 1 else match sizeF k r with
    | 0 => 0
    | m + 1 => m + 2
def sizeAt (k f : Nat) (l : List UInt8) : Nat := match sizeF f l with
  | 0 => 0
  | m + 1 => m + 1 + k
def valL : List UInt8 → Nat
  | [] => 0
  | c :: r => c.toNat % 128 + 128 * valL r
def takeBad (s : List UInt8) (n : Nat) : Bool := (decide (1 < n) && decide ((s.getD (n - 1) 0).toNat = 0)) || decide (9007199254740992 < valL (s.take n))
structure Taken where
  num : Nat
  len : Nat
  err : Int
def takeS (s : List UInt8) : Taken :=
  match sizeF 8 s with
  | 0 => ⟨0, 0, if s.length < 8 then 10 else 11⟩
  | n + 1 => if takeBad s (n + 1) = true then ⟨0, 0, 11⟩ else ⟨valL (s.take (n + 1)), n + 1, 0⟩
def Taken.av (t : Taken) : AV := .tup [.v (.int .i64 t.num), .v (.int .i64 t.len), .v (.int .i64 t.err)]
theorem sizeAt_zero (f : Nat) (l : List UInt8) : sizeAt 0 f l = sizeF f l := by
  unfold sizeAt
  split <;> simp_all
theorem sizeAt_nil (k f : Nat) : sizeAt k f [] = 0 := by
  cases f <;> simp [sizeAt, sizeF]
theorem sizeAt_end (k : Nat) (l : List UInt8) : sizeAt k 0 l = 0 := by simp [sizeAt, sizeF]
theorem sizeAt_hit {k f : Nat} {c : UInt8} {r : List UInt8} (h : c.toNat < 128) : sizeAt k (f + 1) (c :: r) = k + 1 := by
  simp [sizeAt, sizeF, h]
  omega
theorem sizeAt_miss {k f : Nat} {c : UInt8} {r : List UInt8} (h : ¬ c.toNat < 128) : sizeAt k (f + 1) (c :: r) = sizeAt (k + 1) f r := by
  simp only [sizeAt, sizeF, h, if_false]
  cases sizeF f r <;> simp
  omega
theorem sizeF_le : ∀ (f : Nat) (l : List UInt8), sizeF f l ≤ f ∧ sizeF f l ≤ l.length
  | 0, _ => by simp [sizeF]
  | f + 1, [] => by simp [sizeF]
  | f + 1, c :: r => by
    have := sizeF_le f r
    unfold sizeF
    split
    · simp
    · split
      · simp
      · rename_i m hm
        rw [hm] at this
        simp
        omega
theorem valL_lt : ∀ l : List UInt8, valL l < 128 ^ l.length
  | [] => by simp [valL]
  | c :: r => by
    have := valL_lt r
    simp only [valL, List.length_cons, Nat.pow_succ]
    omega
theorem valL_lt8 {l : List UInt8} (h : l.length ≤ 8) : valL l < 72057594037927936 := by
  have h1 := valL_lt l
  have h2 : 128 ^ l.length ≤ 128 ^ 8 := Nat.pow_le_pow_right (by omega) h
  have h3 : 128 ^ 8 = 72057594037927936 := by decide
  omega
theorem andNot_128 (c : UInt8) : bitsA .andNot .u8 (c.toNat : Int) 128 = ((c.toNat % 128 : Nat) : Int) := by
  have h : ∀ x : Fin 256, bitsA .andNot .u8 (x.val : Int) 128 = ((x.val % 128 : Nat) : Int) := by decide +kernel
  exact h ⟨c.toNat, c.toNat_lt⟩
theorem or_shift {x c : Nat} (hx : x < 562949953421312) (hc : c < 128) : bitsA .or .i64 ((x * 128 : Nat) : Int) (c : Int) = ((c + 128 * x : Nat) : Int) := by
  unfold bitsA
  simp only
  have h1 : (BitVec.ofInt IntKind.i64.bits ((x * 128 : Nat) : Int) ||| BitVec.ofInt IntKind.i64.bits (c : Int)).toNat = c + 128 * x := by
    rw [BitVec.toNat_or]
    have e1 : (BitVec.ofInt IntKind.i64.bits ((x * 128 : Nat) : Int)).toNat = x * 128 := by
      rw [BitVec.ofInt_natCast, BitVec.toNat_ofNat]
      exact Nat.mod_eq_of_lt (by show x * 128 < 2 ^ 64; omega)
    have e2 : (BitVec.ofInt IntKind.i64.bits (c : Int)).toNat = c := by
      rw [BitVec.ofInt_natCast, BitVec.toNat_ofNat]
      exact Nat.mod_eq_of_lt (by show c < 2 ^ 64; omega)
    rw [e1, e2]
    have h := Nat.shiftLeft_add_eq_or_of_lt (i := 7) (b := c) (by omega) x
    rw [Nat.shiftLeft_eq] at h
    rw [show x * 128 = x * 2 ^ 7 by omega, ← h]
    omega
  rw [h1]
  exact wrap64 (by omega) (by omega)
theorem valL_snoc : ∀ (l : List UInt8) (c : UInt8), valL (l ++ [c]) = valL l + c.toNat % 128 * 128 ^ l.length
  | [], c => by simp [valL]
  | d :: r, c => by
    simp only [List.cons_append, valL, valL_snoc r c, List.length_cons, Nat.pow_succ]
    rw [Nat.mul_add, ← Nat.add_assoc]
    congr 1
    rw [Nat.mul_comm 128, Nat.mul_assoc]
theorem take_snoc {l : List UInt8} {k : Nat} {c : UInt8} (h : l[k]? = some c) : l.take (k + 1) = l.take k ++ [c] := by
  rw [List.take_add_one, h]
  rfl
theorem take_snoc' {α : Type} {l : List α} {k : Nat} {c : α} (h : l[k]? = some c) : l.take (k + 1) = l.take k ++ [c] := by
  rw [List.take_add_one, h]
  rfl
theorem valL_step {l : List UInt8} {k : Nat} {c : UInt8} (h : l[k]? = some c) : valL (l.take (k + 1)) = valL (l.take k) + c.toNat % 128 * 128 ^ k := by
  have hk := (List.getElem?_eq_some_iff.1 h).1
  rw [take_snoc h, valL_snoc, List.length_take, Nat.min_eq_left (by omega)]
theorem valL_step64 {l : List UInt8} {k : Nat} {c : UInt8} (h : l[k]? = some c) (hk : k < 8) :
    IntKind.i64.wrap ((valL (l.take k) : Int) + IntKind.i64.wrap ((IntKind.i64.wrap (c.toNat : Int)).tmod 128 * ((128 ^ k : Nat) : Int))) = (valL (l.take (k + 1)) : Int) := by
  have hc := c.toNat_lt
  have h2 : 128 ^ k ≤ 128 ^ 7 := Nat.pow_le_pow_right (by omega) (by omega)
  have h3 : 128 ^ 7 = 562949953421312 := by decide
  have h4 : c.toNat % 128 * 128 ^ k ≤ 127 * 562949953421312 := Nat.mul_le_mul (by omega) (by omega)
  have h5 := valL_lt8 (l := l.take k) (by simp; omega)
  rw [wrap64 (x := (c.toNat : Int)) (by omega) (by omega)]
  rw [show ((c.toNat : Int).tmod 128) = ((c.toNat % 128 : Nat) : Int) from by rw [Int.tmod_eq_emod_of_nonneg (by omega)]; omega]
  rw [← Int.natCast_mul, valL_step h]
  generalize c.toNat % 128 * 128 ^ k = q at h4
  rw [wrap64 (x := (q : Int)) (by omega) (by omega), wrap64 (by omega) (by omega)]
  omega
theorem takeBad_at {s : List UInt8} {k : Nat} {c : UInt8} (h : s[k]? = some c) : takeBad s (k + 1) = ((decide (0 < k) && decide (c.toNat = 0)) || decide (9007199254740992 < valL (s.take (k + 1)))) := by
  unfold takeBad
  simp [List.getD, h]
theorem take_drop_at {l : List UInt8} {n j : Nat} (hj : j < n) (hn : n ≤ l.length) : (l.take n).drop j = l.getD j 0 :: (l.take n).drop (j + 1) := by
  obtain ⟨x, h1, h2⟩ := drop_at (l := l.take n) (k := j) (by simp; omega)
  rw [h2]
  rw [List.getElem?_take_of_lt hj] at h1
  simp [List.getD, h1]
end Go.Ai

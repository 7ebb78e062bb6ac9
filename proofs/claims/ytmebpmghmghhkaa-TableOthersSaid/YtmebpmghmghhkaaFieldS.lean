/- Fields: what is computed. -/
import Derived.Test.YtmebpmghmghhkaaVarintS
set_option linter.unusedVariables false
set_option linter.unusedSimpArgs false
namespace Go.Ai
/-- A field: its tag, its data. -/
abbrev Fld := Int × List UInt8
def fv (f : Fld) : List AV := [.v (.int .i64 f.1), .v (.string (mk f.2))]
def rightGo (last : Int) : List Fld → Bool
  | [] => true
  | f :: r => !(decide (f.1 ≤ last) || decide (1000000 < f.1) || decide (1000 < f.2.length)) && rightGo f.1 r
def rightS (l : List Fld) : Bool := rightGo 0 l && decide (l.length ≤ 64)
def encF (f : Fld) : List UInt8 := putF 8 f.1.toNat ++ putF 8 f.2.length ++ f.2
def encL (l : List Fld) : List UInt8 := l.flatMap encF
/-- Bytes and an error's number. -/
structure BE where
  s : List UInt8
  e : Int
def BE.av (x : BE) : AV := .tup [.v (.string (Go.Ai.mk x.s)), .v (.int .i64 x.e)]
def encodeS (l : List Fld) : BE := if rightS l = true then (if (encL l).length ≤ 10000 then ⟨encL l, 0⟩ else ⟨[], 12⟩) else ⟨[], 1⟩
inductive Dec (α : Type) where
  | no (e : Int)
  | ok (x : α)
/-- One field at a text's beginning, and what is left. -/
def oneS (s : List UInt8) (last : Int) : Dec (Fld × List UInt8) :=
  let t := takeS s
  if t.err ≠ 0 then .no t.err else
  if (t.num : Int) ≤ last ∨ 1000000 < t.num then .no 13 else
  let r := s.drop t.len
  let u := takeS r
  if u.err ≠ 0 then .no u.err else
  let q := r.drop u.len
  if 1000 < u.num then .no 11 else
  if q.length < u.num then .no 10 else
  .ok ((t.num, q.take u.num), q.drop u.num)
def decGo : Nat → List UInt8 → Int → Nat → Dec (List Fld)
  | 0, _, _, _ => .ok []
  | f + 1, s, last, n =>
    if s = [] then .ok [] else
    match oneS s last with
    | .no e => .no e
    | .ok (x, r) => if n = 64 then .no 11 else
      match decGo f r x.1 (n + 1) with
      | .no e => .no e
      | .ok l => .ok (x :: l)
def decodeS (s : List UInt8) : Dec (List Fld) := if 10000 < s.length then .no 12 else decGo s.length s 0 0
def findS (l : List Fld) (tag : Int) : Option (List UInt8) := (l.find? fun f => f.1 == tag).map (·.2)
def findAV (o : Option (List UInt8)) : AV := .tup [.v (.string (mk (o.getD []))), .v (.bool o.isSome)]
/-- Which of n things a raw number speaks of. -/
def pickN (c n : Int) : Int := if c < 0 then (IntKind.i64.wrap (0 - IntKind.i64.wrap (c + 1))).tmod n else c.tmod n
theorem pickN_bd {c n : Int} (h0 : -9223372036854775808 ≤ c) (h1 : c ≤ 9223372036854775807) (hn : 0 < n) : 0 ≤ pickN c n ∧ pickN c n < n := by
  unfold pickN
  split
  · rw [wrap64 (x := c + 1) (by omega) (by omega), wrap64 (by omega) (by omega), Int.tmod_eq_emod_of_nonneg (by omega)]
    exact ⟨Int.emod_nonneg _ (by omega), Int.emod_lt_of_pos _ hn⟩
  · rw [Int.tmod_eq_emod_of_nonneg (by omega)]
    exact ⟨Int.emod_nonneg _ (by omega), Int.emod_lt_of_pos _ hn⟩
theorem rightGo_bd : ∀ {l : List Fld} {t : Int}, 0 ≤ t → rightGo t l = true → ∀ f ∈ l, t < f.1 ∧ f.1 ≤ 1000000 ∧ f.2.length ≤ 1000
  | [], _, _, _, f, h => by simp at h
  | g :: r, t, ht, h, f, hf => by
    simp only [rightGo, Bool.and_eq_true, Bool.not_eq_true', Bool.or_eq_false_iff, decide_eq_false_iff_not] at h
    obtain ⟨⟨⟨h1, h2⟩, h3⟩, h4⟩ := h
    rcases List.mem_cons.1 hf with rfl | hf
    · exact ⟨by omega, by omega, by omega⟩
    · have := rightGo_bd (t := g.1) (by omega) h4 f hf
      exact ⟨by omega, this.2⟩
theorem right_bd {l : List Fld} (h : rightS l = true) : l.length ≤ 64 ∧ ∀ f ∈ l, 0 < f.1 ∧ f.1 ≤ 1000000 ∧ f.2.length ≤ 1000 := by
  simp only [rightS, Bool.and_eq_true, decide_eq_true_eq] at h
  exact ⟨h.2, rightGo_bd (Int.le_refl _) h.1⟩
theorem putF_len : ∀ (k m : Nat), (putF k m).length ≤ k
  | 0, _ => by simp [putF]
  | k + 1, m => by
    have := putF_len k (m / 128)
    unfold putF
    split
    · simp
    · simp
      omega
theorem putF_ne (k m : Nat) : putF (k + 1) m ≠ [] := by
  unfold putF
  split <;> simp
theorem encL_len {l : List Fld} (h : ∀ f ∈ l, f.2.length ≤ 1000) : (encL l).length ≤ l.length * 1016 := by
  induction l with
  | nil => simp [encL]
  | cons f r ih =>
    have h1 := ih fun g hg => h g (List.mem_cons_of_mem _ hg)
    have h2 := h f (List.mem_cons_self ..)
    have h3 := putF_len 8 f.1.toNat
    have h4 := putF_len 8 f.2.length
    have e : encL (f :: r) = encF f ++ encL r := rfl
    rw [e]
    simp only [encF, List.length_append, List.length_cons]
    omega
theorem encL_snoc (l : List Fld) (f : Fld) : encL (l ++ [f]) = encL l ++ encF f := by simp [encL]
theorem encL_take_len {l : List Fld} (h : rightS l = true) (k : Nat) : (encL (l.take k)).length ≤ 65024 := by
  obtain ⟨h1, h2⟩ := right_bd h
  have := encL_len (l := l.take k) fun f hf => (h2 f (List.mem_of_mem_take hf)).2.2
  simp at this
  omega
theorem putA_ok {n : Int} (h0 : 0 ≤ n) (h1 : n ≤ 9007199254740992) : putA n = .tup [.v (.string (mk (putF 8 n.toNat))), .v (.int .i64 0)] := by
  unfold putA
  rw [if_pos ⟨h0, h1⟩]
def rv (p : Int × Int) : List AV := [.v (.int .i64 p.1), .v (.int .i64 p.2)]
def tv (t : List UInt8) : List AV := [.v (.string (mk t))]
/-- A number of 64 bits. -/
def i64ok (n : Int) : Prop := -9223372036854775808 ≤ n ∧ n ≤ 9223372036854775807
def textAt (texts : List (List UInt8)) (b : Int) : List UInt8 := if texts = [] then [] else (texts.getD (pickN b texts.length).toNat []).take 300
/-- Of raw numbers, fields that may be. -/
def fieldsGo (texts : List (List UInt8)) : Nat → Int → List (Int × Int) → List Fld
  | 0, _, _ => []
  | _ + 1, _, [] => []
  | n + 1, tag, p :: r => (tag + 1 + pickN p.1 200, textAt texts p.2) :: fieldsGo texts n (tag + 1 + pickN p.1 200) r
def fieldsS (raw : List (Int × Int)) (texts : List (List UInt8)) : List Fld := fieldsGo texts 20 0 raw
theorem fieldsGo_right (texts : List (List UInt8)) : ∀ (n : Nat) (tag : Int) (raw : List (Int × Int)), (∀ p ∈ raw, i64ok p.1) → 0 ≤ tag → tag + n * 200 ≤ 1000000 → rightGo tag (fieldsGo texts n tag raw) = true ∧ (fieldsGo texts n tag raw).length ≤ n ∧ (fieldsGo texts n tag raw).length ≤ raw.length
  | 0, tag, raw, _, _, _ => by simp [fieldsGo, rightGo]
  | n + 1, tag, [], _, _, _ => by simp [fieldsGo, rightGo]
  | n + 1, tag, p :: r, h, h0, h1 => by
    have hp := h p (List.mem_cons_self ..)
    have hb := pickN_bd (c := p.1) (n := 200) hp.1 hp.2 (by omega)
    have ih := fieldsGo_right texts n (tag + 1 + pickN p.1 200) r (fun q hq => h q (List.mem_cons_of_mem _ hq)) (by omega) (by omega)
    have hl : (textAt texts p.2).length ≤ 300 := by
      unfold textAt
      split
      · simp
      · rw [List.length_take]; omega
    simp only [fieldsGo, rightGo, List.length_cons]
    refine ⟨?_, by omega, by omega⟩
    simp only [Bool.and_eq_true, Bool.not_eq_true', Bool.or_eq_false_iff, decide_eq_false_iff_not]
    exact ⟨⟨⟨by omega, by omega⟩, by omega⟩, ih.1⟩
theorem fieldsS_right {raw : List (Int × Int)} (texts : List (List UInt8)) (h : ∀ p ∈ raw, i64ok p.1) : rightS (fieldsS raw texts) = true ∧ (fieldsS raw texts).length ≤ 20 := by
  have := fieldsGo_right texts 20 0 raw h (by omega) (by omega)
  unfold rightS fieldsS
  simp only [this.1, Bool.true_and, decide_eq_true_eq]
  omega
end Go.Ai

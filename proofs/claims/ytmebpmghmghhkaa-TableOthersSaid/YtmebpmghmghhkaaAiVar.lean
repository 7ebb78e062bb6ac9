/- What is told by hand: the methods of strings.Builder that the machine does not run, and varint.Put. -/
import Derived.Test.YtmebpmghmghhkaaAiDef
import Derived.Test.YtmebpmghmghhkaaAiSimp
import Derived.IntWalk
namespace Go.Ai
/-- A string's bytes as a list. -/
def mk (l : List UInt8) : ByteArray := ⟨l.toArray⟩
/-- The bytes of a number (of at most k bytes). -/
def putF : Nat → Nat → List UInt8
  | 0, _ => []
  | k + 1, n => if n < 128 then [UInt8.ofNat n] else UInt8.ofNat (n % 128 + 128) :: putF k (n / 128)
/-- Bytes as elements. -/
def cellsB (l : List UInt8) : List (List AV) := l.map fun c => [.v (.int .u8 (c.toNat : Int))]
def selfA (id : Nat) : AV → Prop
  | .v (.pointer none) => True
  | .ptr j 0 => j = id
  | _ => False
def primCheck (T : TypeId) : Prim := fun args H K =>
  match args with
  | [.ptr id 0] =>
    match blk H id with
    | some (.var t [p, q]) => t = T ∧ selfA id p ∧ K (.tup []) (H.set id (some (.var t [.ptr id 0, q])))
    | _ => False
  | _ => False
def stringB (U : TypeId) (H : Hp) (K : AV → Hp → Prop) (n : Nat) (j : Nat) : Option Blk → Prop
  | some (.row u sz xs) => u = U ∧ sz = 1 ∧ n = xs.length ∧ ∃ l, xs = cellsB l ∧ K (.v (.string (mk l))) (H.set j none)
  | _ => False
def stringA (U : TypeId) (H : Hp) (K : AV → Hp → Prop) : AV → Prop
  | .v (.slice none 0 0) => K (.v (.string (mk []))) H
  | .row j sz off n => sz = 1 ∧ off = 0 ∧ 0 < n ∧ stringB U H K n j (blk H j)
  | _ => False
def primString (T U : TypeId) : Prim := fun args H K =>
  match args with
  | [.ptr id 0] =>
    match blk H id with
    | some (.var t [_, q]) => t = T ∧ stringA U H K q
    | _ => False
  | _ => False
def putA (m : Int) : AV := if 0 ≤ m ∧ m ≤ 9007199254740992 then .tup [.v (.string (mk (putF 8 m.toNat))), .v (.int .i64 0)] else .tup [.v (.string (mk [])), .v (.int .i64 1)]
def primPut : Prim := fun args H K =>
  match args with
  | [.v (.int .i64 m)] => K (putA m) H
  | _ => False
/-! ### Functions that the model has an entry of its own for -/
def overB : Option Blk → Option Blk → Option AV
  | some (.row _ _ _), some (.rowc _ _ _ _) => some (.v (.bool false))
  | _, _ => none
def extOverlaps : ExtA := fun H args =>
  match args with
  | [.row a _ _ la, .row b _ _ lb] => if a = b then none else if la = 0 then none else if lb = 0 then none else overB (blk H a) (blk H b)
  | _ => none
def cmpL : List UInt8 → List UInt8 → Int
  | [], [] => 0
  | [], _ :: _ => -1
  | _ :: _, [] => 1
  | a :: x, b :: y => if a < b then -1 else if b < a then 1 else cmpL x y
def extCmp : ExtA := fun _ args =>
  match args with
  | [.v (.string a), .v (.string b)] => some (.v (.int .i64 (cmpL a.data.toList b.data.toList)))
  | _ => none
theorem extOverlaps_eq (H : Hp) (a sa oa la b sb ob lb : Nat) : extOverlaps H [.row a sa oa la, .row b sb ob lb] = if a = b then none else if la = 0 then none else if lb = 0 then none else overB (blk H a) (blk H b) := rfl
theorem overB_eq (t u : TypeId) (s s' c : Nat) (x y : List (List AV)) : overB (some (.row t s x)) (some (.rowc u s' c y)) = some (.v (.bool false)) := rfl
theorem extCmp_eq (H : Hp) (a b : ByteArray) : extCmp H [.v (.string a), .v (.string b)] = some (.v (.int .i64 (cmpL a.data.toList b.data.toList))) := rfl
end Go.Ai
set_option linter.unusedVariables false
set_option linter.unusedSimpArgs false
namespace Go.Ai
theorem mk_size (l : List UInt8) : (mk l).size = l.length := rfl
theorem mk_append (a b : List UInt8) : mk a ++ mk b = mk (a ++ b) := by
  apply ByteArray.ext
  show (mk a ++ mk b).data = _
  rw [ByteArray.data_append]
  simp [mk]
theorem mk_extract (l : List UInt8) (i j : Nat) : (mk l).extract i j = mk ((l.take j).drop i) := by
  apply ByteArray.ext
  rw [ByteArray.data_extract]
  simp only [mk]
  apply Array.ext'
  simp [List.drop_take]
theorem mk_of (s : ByteArray) : s = mk s.data.toList := by
  apply ByteArray.ext
  simp [mk]
theorem mk_lit (l : List UInt8) : (⟨l.toArray⟩ : ByteArray) = mk l := rfl
theorem mk_getD (l : List UInt8) (i : Nat) : (mk l).data.getD i 0 = l.getD i 0 := by
  simp [mk, List.getD_eq_getElem?_getD, Array.getD_eq_getD_getElem?]
theorem mk_inj {a b : List UInt8} : mk a = mk b ↔ a = b := by
  constructor
  · intro h
    have := congrArg (fun s => s.data.toList) h
    simpa [mk] using this
  · rintro rfl
    rfl
theorem mk_toList (l : List UInt8) : (mk l).toList = l := by
  have h : (mk l).toList = (mk l).data.toList := by simp [ByteArray.toList_eq]
  rw [h]
  rfl
theorem mk_strEq (a b : List UInt8) : strEq (mk a) (mk b) = decide (a = b) := by
  unfold strEq
  rw [mk_toList, mk_toList]
  rw [Bool.eq_iff_iff]
  simp
theorem mk_strLt (a b : List UInt8) : strLt (mk a) (mk b) = Op.bytesLess a b := by
  unfold strLt
  rw [mk_toList, mk_toList]
theorem mk_bytesA (l : List UInt8) : bytesA (mk l) = cellsB l := rfl

/-! ### Loops -/
/-- A loop whose head is told by parameters: what holds there, and a number that each round lowers. -/
def stepK {α : Type} (S : α → St) (P : α → Prop) (μ : α → Nat) (a : α) (N : Norm) (Q : Exit → St → Prop) : Exit → St → Prop := fun e s => match e with
  | .normal => ∃ a', P a' ∧ μ a' < μ a ∧ norm N s = S a'
  | e => Q e (normTo N.base N.out s)
section
variable {α : Type} {S : α → St} {P : α → Prop} {μ : α → Nat} {a : α} {N : Norm} {Q : Exit → St → Prop} {B : St → (Exit → St → Prop) → Prop}
theorem stepK_normal (s : St) : stepK S P μ a N Q .normal s = ∃ a', P a' ∧ μ a' < μ a ∧ norm N s = S a' := rfl
theorem stepK_ret (s : St) : stepK S P μ a N Q .ret s = Q .ret (normTo N.base N.out s) := rfl
theorem stepK_exit (s : St) (id : Nat) : stepK S P μ a N Q (.exit id) s = Q (.exit id) (normTo N.base N.out s) := rfl
theorem loop_at {s : St} (S : α → St) (P : α → Prop) (μ : α → Nat) (a0 : α) (h0 : P a0) (hs : s = S a0) (h : ∀ a, P a → B (S a) (stepK S P μ a N Q)) : LoopA B N s Q := by
  refine loop_of (fun n s => ∃ a, P a ∧ n = μ a ∧ s = S a) (μ a0) ⟨a0, h0, rfl, hs⟩ ?_
  rintro n s ⟨a, ha, rfl, rfl⟩
  have he : roundK (fun n s => ∃ a, P a ∧ n = μ a ∧ s = S a) N (μ a) Q = stepK S P μ a N Q := by
    funext e s'
    cases e <;> simp only [roundK, stepK]
    apply propext
    constructor
    · rintro ⟨n', hn, a', h1, rfl, h2⟩
      exact ⟨a', h1, hn, h2⟩
    · rintro ⟨a', h1, hn, h2⟩
      exact ⟨_, hn, a', h1, rfl, h2⟩
  rw [he]
  exact h a ha
/-- A cut: what holds there, told by parameters. -/
def cutK (S : α → St) (P : α → Prop) (N : Norm) (Q : Exit → St → Prop) : Exit → St → Prop := fun e s => match e with
  | .normal => ∃ a, P a ∧ norm N s = S a
  | e => Q e s
theorem cutK_normal (s : St) : cutK S P N Q .normal s = ∃ a, P a ∧ norm N s = S a := rfl
theorem cutK_ret (s : St) : cutK S P N Q .ret s = Q .ret s := rfl
theorem cutK_exit (s : St) (id : Nat) : cutK S P N Q (.exit id) s = Q (.exit id) s := rfl
theorem cut_at {A : St → (Exit → St → Prop) → Prop} {s : St} (S : α → St) (P : α → Prop) (h1 : A s (cutK S P N Q)) (h2 : ∀ a, P a → B (S a) Q) : CutSeq (some N) A B s Q := by
  refine ⟨fun s => ∃ a, P a ∧ s = S a, ?_, ?_⟩
  · have e : seqK (fun s => ∃ a, P a ∧ norm N s = S a) Q = cutK S P N Q := by
      funext e s'
      cases e <;> rfl
    rw [e]
    exact h1
  · rintro s' ⟨a, ha, rfl⟩
    exact h2 a ha
/-- A loop of few rounds, one by one. -/
def Unr (B : St → (Exit → St → Prop) → Prop) (N : Norm) (Q : Exit → St → Prop) (n : Nat) (s : St) : Prop :=
  B s (fun e s' => match e with
    | .normal => ∃ n', ∃ _ : n' < n, Unr B N Q n' (norm N s')
    | e => Q e (normTo N.base N.out s'))
  termination_by n
def unrK (B : St → (Exit → St → Prop) → Prop) (N : Norm) (Q : Exit → St → Prop) (n : Nat) : Exit → St → Prop := fun e s => match e with
  | .normal => ∃ n', n' < n ∧ Unr B N Q n' (norm N s)
  | e => Q e (normTo N.base N.out s)
theorem Unr_eq (n : Nat) (s : St) : Unr B N Q n s = B s (unrK B N Q n) := by
  rw [Unr]
  congr 1
  funext e s'
  cases e <;> simp [unrK]
theorem unr_step {n : Nat} {s : St} (h : B s (unrK B N Q n)) : Unr B N Q n s := by
  rw [Unr_eq]
  exact h
theorem unrK_normal (n : Nat) (s : St) : unrK B N Q (n + 1) .normal s = ∃ n', n' < n + 1 ∧ Unr B N Q n' (norm N s) := rfl
theorem unrK_ret (n : Nat) (s : St) : unrK B N Q n .ret s = Q .ret (normTo N.base N.out s) := rfl
theorem unrK_exit (n : Nat) (s : St) (id : Nat) : unrK B N Q n (.exit id) s = Q (.exit id) (normTo N.base N.out s) := rfl
theorem unr_next {n : Nat} {s : St} (h : B (norm N s) (unrK B N Q n)) : unrK B N Q (n + 1) .normal s := ⟨n, Nat.lt_succ_self n, unr_step h⟩
theorem unr_of {s : St} (n : Nat) (h : B s (unrK B N Q n)) : LoopA B N s Q := by
  refine loop_of (Unr B N Q) n (unr_step h) ?_
  intro n s hs
  rw [Unr_eq] at hs
  have he : roundK (Unr B N Q) N n Q = unrK B N Q n := by
    funext e s'
    cases e <;> simp only [roundK, unrK]
  rw [he]
  exact hs
end
theorem wrap64 {x : Int} (h0 : -9223372036854775808 ≤ x) (h1 : x ≤ 9223372036854775807) : IntKind.i64.wrap x = x := IntWalk.i64_in _ ⟨h0, h1⟩
theorem wrapU8 {x : Int} (h0 : 0 ≤ x) (h1 : x < 256) : IntKind.u8.wrap x = x := IntWalk.u8_in _ ⟨h0, by omega⟩
theorem wrap_succ {k n : Nat} (h : k < n) (hn : n ≤ 9223372036854775807) : IntKind.i64.wrap ((k : Int) + 1) = ((k + 1 : Nat) : Int) := by
  rw [wrap64 (by omega) (by omega)]
  rfl
theorem drop_at {α : Type} {l : List α} {k : Nat} (h : k < l.length) : ∃ x, l[k]? = some x ∧ l.drop k = x :: l.drop (k + 1) :=
  ⟨l[k], List.getElem?_eq_getElem h, List.drop_eq_getElem_cons h⟩
theorem map_at {α β : Type} {l : List α} {f : α → β} {k : Nat} {x : α} (h : l[k]? = some x) : (l.map f)[k]? = some (f x) := by simp [h]
theorem IF_t {b : Bool} {A B : Prop} (h : b = true) (hA : A) : IF b A B := by subst h; exact hA
theorem IF_f {b : Bool} {A B : Prop} (h : b = false) (hB : B) : IF b A B := by subst h; exact hB
theorem IF_dec {p : Prop} [Decidable p] {A B : Prop} (hA : p → A) (hB : ¬ p → B) : IF (decide p) A B := IF_of (fun h => hA (of_decide_eq_true h)) (fun h => hB (of_decide_eq_false h))
theorem IF_beq {a b : Int} {A B : Prop} (hA : a = b → A) (hB : ¬ a = b → B) : IF (a == b) A B := IF_of (fun h => hA (by simpa using h)) (fun h => hB (by simpa using h))
theorem IF_bne {a b : Int} {A B : Prop} (hA : ¬ a = b → A) (hB : a = b → B) : IF (a != b) A B := IF_of (fun h => hA (by simpa using h)) (fun h => hB (by simpa using h))
theorem IF_not {b : Bool} {A B : Prop} (h : IF b B A) : IF (!b) A B := by cases b <;> exact h
/-- Two ways that meet again. -/
theorem IF_join {b c : Bool} {A L P Q : Prop} (h1 : b = true → P ∧ Q ∧ (c = true → A)) (h2 : (b && c) = false → L) : IF b (P ∧ Q ∧ IF c A L) L := by
  cases b
  · exact h2 rfl
  · obtain ⟨hp, hq, ha⟩ := h1 rfl
    refine ⟨hp, hq, ?_⟩
    cases c
    · exact h2 rfl
    · exact ha rfl
theorem IF_cond (b c : Bool) (A B : Prop) : IF (cond b c false) A B = IF b (IF c A B) B := by cases b <;> cases c <;> rfl
theorem wrapL0 : IntKind.i64.wrap 0 = 0 := by decide
theorem wrapL1 : IntKind.i64.wrap 1 = 1 := by decide
theorem wrapL2 : IntKind.i64.wrap 2 = 2 := by decide
theorem wrapL3 : IntKind.i64.wrap 3 = 3 := by decide
theorem wrapL4 : IntKind.i64.wrap 4 = 4 := by decide
theorem wrapL5 : IntKind.i64.wrap 5 = 5 := by decide
theorem wrapL6 : IntKind.i64.wrap 6 = 6 := by decide
theorem wrapL7 : IntKind.i64.wrap 7 = 7 := by decide
theorem wrapL8 : IntKind.i64.wrap 8 = 8 := by decide
theorem wrapL9 : IntKind.i64.wrap 9 = 9 := by decide
theorem wrapL10 : IntKind.i64.wrap 10 = 10 := by decide
theorem wrapL11 : IntKind.i64.wrap 11 = 11 := by decide
theorem wrapL12 : IntKind.i64.wrap 12 = 12 := by decide
theorem wrapN1 : IntKind.i64.wrap (-1) = -1 := by decide
theorem take_map {α : Type} (f : α → List AV) (l : List α) (n : Nat) : (l.map f).take n = (l.take n).map f := List.map_take.symm
theorem drop_map {α : Type} (f : α → List AV) (l : List α) (n : Nat) : (l.map f).drop n = (l.drop n).map f := List.map_drop.symm
/-- What simp wants beside. -/
theorem XV : type_of% (And.intro @take_map (And.intro @drop_map (And.intro @mk_size (And.intro @mk_append (And.intro @mk_extract (And.intro @mk_lit (And.intro @mk_getD (And.intro @mk_strEq (And.intro @mk_strLt (And.intro @mk_bytesA (And.intro @stepK_normal (And.intro @stepK_ret (And.intro @stepK_exit (And.intro @cutK_normal (And.intro @cutK_ret (And.intro @cutK_exit (And.intro @unrK_ret (And.intro @unrK_exit (And.intro @wrapL0 (And.intro @wrapL1 (And.intro @wrapL2 (And.intro @wrapL3 (And.intro @wrapL4 (And.intro @wrapL5 (And.intro @wrapL6 (And.intro @wrapL7 (And.intro @wrapL8 (And.intro @wrapL9 (And.intro @wrapL10 (And.intro @wrapL11 (And.intro @wrapL12 (And.intro @wrapN1 (And.intro @Int.natCast_nonneg (And.intro @Option.some.injEq.{0} (And.intro @List.cons.injEq.{0} (And.intro @AV.v.injEq (And.intro @Value.int.injEq (And.intro @Value.string.injEq (And.intro @Value.bool.injEq (And.intro @exists_eq_left.{1} (And.intro @exists_eq_left'.{1} (And.intro @exists_eq_right.{1} (@exists_eq_right'.{1}))))))))))))))))))))))))))))))))))))))))))) := And.intro @take_map (And.intro @drop_map (And.intro @mk_size (And.intro @mk_append (And.intro @mk_extract (And.intro @mk_lit (And.intro @mk_getD (And.intro @mk_strEq (And.intro @mk_strLt (And.intro @mk_bytesA (And.intro @stepK_normal (And.intro @stepK_ret (And.intro @stepK_exit (And.intro @cutK_normal (And.intro @cutK_ret (And.intro @cutK_exit (And.intro @unrK_ret (And.intro @unrK_exit (And.intro @wrapL0 (And.intro @wrapL1 (And.intro @wrapL2 (And.intro @wrapL3 (And.intro @wrapL4 (And.intro @wrapL5 (And.intro @wrapL6 (And.intro @wrapL7 (And.intro @wrapL8 (And.intro @wrapL9 (And.intro @wrapL10 (And.intro @wrapL11 (And.intro @wrapL12 (And.intro @wrapN1 (And.intro @Int.natCast_nonneg (And.intro @Option.some.injEq.{0} (And.intro @List.cons.injEq.{0} (And.intro @AV.v.injEq (And.intro @Value.int.injEq (And.intro @Value.string.injEq (And.intro @Value.bool.injEq (And.intro @exists_eq_left.{1} (And.intro @exists_eq_left'.{1} (And.intro @exists_eq_right.{1} (@exists_eq_right'.{1}))))))))))))))))))))))))))))))))))))))))))
end Go.Ai

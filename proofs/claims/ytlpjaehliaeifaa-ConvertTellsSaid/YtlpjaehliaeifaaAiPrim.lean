/- What is told by hand: the methods of strings.Builder that the machine does not run, and varint.Put. -/
import Derived.Test.YtlpjaehliaeifaaAiDef
namespace Go.Ai
/-- A string's bytes as a list. -/
def mk (l : List UInt8) : ByteArray := ⟨l.toArray⟩
/-- The bytes of a number (of at most k bytes). -/
def putF : Nat → Nat → List UInt8
  | 0, _ => []
  | k + 1, n => if n < 128 then [UInt8.ofNat n] else UInt8.ofNat (n % 128 + 128) :: putF k (n / 128)
/-- Bytes as elements. -/
def cellsB (l : List UInt8) : List (List AV) := l.map fun c => [.v (.int .u8 (c.toNat : Int))]
def selfA (id : Nat) : AV → Prop
  | .v (.pointer none) => True
  | .ptr j 0 => j = id
  | _ => False
def primCheck (T : TypeId) : Prim := fun args H K =>
  match args with
  | [.ptr id 0] =>
    match blk H id with
    | some (.var t [p, q]) => t = T ∧ selfA id p ∧ K (.tup []) (H.set id (some (.var t [.ptr id 0, q])))
    | _ => False
  | _ => False
def stringB (U : TypeId) (H : Hp) (K : AV → Hp → Prop) (n : Nat) (j : Nat) : Option Blk → Prop
  | some (.row u sz xs) => u = U ∧ sz = 1 ∧ n = xs.length ∧ ∃ l, xs = cellsB l ∧ K (.v (.string (mk l))) (H.set j none)
  | _ => False
def stringA (U : TypeId) (H : Hp) (K : AV → Hp → Prop) : AV → Prop
  | .v (.slice none 0 0) => K (.v (.string (mk []))) H
  | .row j sz off n => sz = 1 ∧ off = 0 ∧ 0 < n ∧ stringB U H K n j (blk H j)
  | _ => False
def primString (T U : TypeId) : Prim := fun args H K =>
  match args with
  | [.ptr id 0] =>
    match blk H id with
    | some (.var t [_, q]) => t = T ∧ stringA U H K q
    | _ => False
  | _ => False
def putA (m : Int) : AV := if 0 ≤ m ∧ m ≤ 9007199254740992 then .tup [.v (.string (mk (putF 8 m.toNat))), .v (.int .i64 0)] else .tup [.v (.string (mk [])), .v (.int .i64 1)]
def primPut : Prim := fun args H K =>
  match args with
  | [.v (.int .i64 m)] => K (putA m) H
  | _ => False
/-! ### Functions that the model has an entry of its own for -/
def overB : Option Blk → Option Blk → Option AV
  | some (.row _ _ _), some (.rowc _ _ _ _) => some (.v (.bool false))
  | _, _ => none
def extOverlaps : ExtA := fun H args =>
  match args with
  | [.row a _ _ la, .row b _ _ lb] => if a = b then none else if la = 0 then none else if lb = 0 then none else overB (blk H a) (blk H b)
  | _ => none
def cmpL : List UInt8 → List UInt8 → Int
  | [], [] => 0
  | [], _ :: _ => -1
  | _ :: _, [] => 1
  | a :: x, b :: y => if a < b then -1 else if b < a then 1 else cmpL x y
def extCmp : ExtA := fun _ args =>
  match args with
  | [.v (.string a), .v (.string b)] => some (.v (.int .i64 (cmpL a.data.toList b.data.toList)))
  | _ => none
theorem extOverlaps_eq (H : Hp) (a sa oa la b sb ob lb : Nat) : extOverlaps H [.row a sa oa la, .row b sb ob lb] = if a = b then none else if la = 0 then none else if lb = 0 then none else overB (blk H a) (blk H b) := rfl
theorem overB_eq (t u : TypeId) (s s' c : Nat) (x y : List (List AV)) : overB (some (.row t s x)) (some (.rowc u s' c y)) = some (.v (.bool false)) := rfl
theorem extCmp_eq (H : Hp) (a b : ByteArray) : extCmp H [.v (.string a), .v (.string b)] = some (.v (.int .i64 (cmpL a.data.toList b.data.toList))) := rfl
end Go.Ai

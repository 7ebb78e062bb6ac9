/- What is told by hand: the methods of strings.Builder that the machine does not run, and varint.Put. -/
import Derived.Test.YtlklggododajiaaAiDef
namespace Go.Ai
/-- A string's bytes as a list. -/
def mk (l : List UInt8) : ByteArray := ⟨l.toArray⟩
/-- The bytes of a number (of at most k bytes). -/
def putF : Nat → Nat → List UInt8
  | 0, _ => []
  | k + 1, n => if n < 128 then [UInt8.ofNat n] else UInt8.ofNat (n % 128 + 128) :: putF k (n / 128)
/-- Bytes as elements. -/
def cellsB (l : List UInt8) : List (List AV) := l.map fun c => [.v (.int .u8 (c.toNat : Int))]
def selfA (id : Nat) : AV → Prop
  | .v (.pointer none) => True
  | .ptr j 0 => j = id
  | _ => False
def primCheck (T : TypeId) : Prim := fun args H K =>
  match args with
  | [.ptr id 0] =>
    match blk H id with
    | some (.var t [p, q]) => t = T ∧ selfA id p ∧ K (.tup []) (H.set id (some (.var t [.ptr id 0, q])))
    | _ => False
  | _ => False
def stringB (U : TypeId) (H : Hp) (K : AV → Hp → Prop) (n : Nat) (j : Nat) : Option Blk → Prop
  | some (.row u sz xs) => u = U ∧ sz = 1 ∧ n = xs.length ∧ ∃ l, xs = cellsB l ∧ K (.v (.string (mk l))) (H.set j none)
  | _ => False
def stringA (U : TypeId) (H : Hp) (K : AV → Hp → Prop) : AV → Prop
  | .v (.slice none 0 0) => K (.v (.string (mk []))) H
  | .row j sz off n => sz = 1 ∧ off = 0 ∧ 0 < n ∧ stringB U H K n j (blk H j)
  | _ => False
def primString (T U : TypeId) : Prim := fun args H K =>
  match args with
  | [.ptr id 0] =>
    match blk H id with
    | some (.var t [_, q]) => t = T ∧ stringA U H K q
    | _ => False
  | _ => False
def putA (m : Int) : AV := if 0 ≤ m ∧ m ≤ 9007199254740992 then .tup [.v (.string (mk (putF 8 m.toNat))), .v (.int .i64 0)] else .tup [.v (.string (mk [])), .v (.int .i64 1)]
def primPut : Prim := fun args H K =>
  match args with
  | [.v (.int .i64 m)] => K (putA m) H
  | _ => False
end Go.Ai

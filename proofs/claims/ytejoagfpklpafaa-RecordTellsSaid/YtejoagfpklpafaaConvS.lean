/- Records, up and down: what is computed. -/
import Derived.Test.YtejoagfpklpafaaRecS
set_option linter.unusedVariables false
set_option linter.unusedSimpArgs false
namespace Go.Ai
def upGo : Rec → List Fld → Option Rec
  | r, [] => some r
  | r, f :: l =>
    if f.1 = 4 then (if (takeS f.2).err = 0 ∧ (takeS f.2).len = f.2.length ∧ (takeS f.2).num ≠ 0 then upGo { r with life := (takeS f.2).num } l else none) else
    if f.1 = 5 then (if f.2 = [] ∨ 40 < f.2.length then none else upGo { r with note := f.2 } l) else
    upGo { r with extra := r.extra ++ [f] } l
def upS (r : Rec) : RE := if rightR 1 r = true then (match upGo { r with extra := [] } r.extra with
  | none => ⟨rec0, 21⟩
  | some r' => ⟨r', 0⟩) else ⟨rec0, 1⟩
/-- What version 2 knows, as fields. -/
def ownF (r : Rec) : List Fld := (if 0 < r.life then [(4, putF 8 r.life.toNat)] else []) ++ (if r.note = [] then [] else [(5, r.note)])
def downR (r : Rec) : Rec := { r with life := 0, note := [], extra := ownF r ++ r.extra }
def downS (r : Rec) : RE := if rightR 2 r = true then ⟨downR r, 0⟩ else ⟨rec0, 1⟩
def toS (a b : Int) (r : Rec) : RE := if rightR a r = true ∧ lastS b ≠ 0 then (if a < b then upS r else if b < a then downS r else ⟨r, 0⟩) else ⟨rec0, 1⟩
/-- The document's own. -/
def downF (r : Rec) : Rec := { r with life := 0, note := [], extra := (decodeR 1 (encodeR 2 ⟨[107], [], 0, r.life, r.note, []⟩).s).r.extra ++ r.extra }
def upN (r : Rec) : Nat := (r.extra.takeWhile fun f => decide (f.1 ≤ 5)).length
def upF (r : Rec) : RE :=
  let y := decodeR 2 (encodeR 1 ⟨[107], [], 0, 0, [], r.extra.take (upN r)⟩).s
  if y.e = 0 then ⟨{ r with life := y.r.life, note := y.r.note, extra := r.extra.drop (upN r) }, 0⟩ else ⟨rec0, y.e⟩
def byS (a b : Int) (r : Rec) : RE :=
  let x := encodeR a r
  if x.e = 1 then ⟨rec0, 1⟩ else if x.e = 0 then decodeR b x.s else if a = 2 then ⟨downF r, 0⟩ else upF r
def rtoS (a b : Int) (r : Rec) : RE := if rightR a r = true ∧ (b = 1 ∨ b = 2) then (if a = b then ⟨r, 0⟩ else byS a b r) else ⟨rec0, 1⟩
/-- Of raw numbers, a record that may be, by a version. -/
def shiftF (v : Int) (f : Fld) : Fld := (f.1 + 3 + 2 * (v - 1), f.2)
def keyS (n : Int) : List UInt8 := if n = 0 then [97] else if n = 1 then [98, 111, 98] else if n = 2 then [107, 101, 121, 57] else [48, 49, 50, 51, 52, 53, 54, 55, 56, 57, 97, 98, 99, 100, 101, 102]
def noteS (n : Int) : List UInt8 := if n = 0 then [] else if n = 1 then [120] else if n = 2 then [97, 32, 110, 111, 116, 101] else [0, 128]
def recordS (v : Int) (a0 a1 a2 a3 a4 : Int) (raw : List (Int × Int)) (texts : List (List UInt8)) : Rec :=
  ⟨keyS (pickN a0 4), if texts = [] then [] else (texts.getD (pickN a1 texts.length).toNat []).take 200, if a2.tmod 7 = 0 then 9007199254740992 else pickN a2 400,
   if v = 2 then pickN a3 300 else 0, if v = 2 then noteS (pickN a4 4) else [], ((fieldsS raw texts).take 6).map (shiftF v)⟩
end Go.Ai

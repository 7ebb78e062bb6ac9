/- Records: what is computed. -/
import Derived.Test.YtmebpmghmghhkaaFieldS
set_option linter.unusedVariables false
set_option linter.unusedSimpArgs false
namespace Go.Ai
structure Rec where
  key : List UInt8
  value : List UInt8
  rev : Int
  life : Int
  note : List UInt8
  extra : List Fld
deriving DecidableEq
def rcv (r : Rec) : List AV := [.v (.string (mk r.key)), .v (.string (mk r.value)), .v (.int .i64 r.rev), .v (.int .i64 r.life), .v (.string (mk r.note)), .lst 2 (r.extra.map fv)]
/-- No record. -/
def rec0 : Rec := ⟨[], [], 0, 0, [], []⟩
structure RE where
  r : Rec
  e : Int
deriving DecidableEq
def RE.av (x : RE) : AV := .tup [.agg (rcv x.r), .v (.int .i64 x.e)]
/-- The last tag that a version knows. -/
def lastS (v : Int) : Int := if v = 1 then 3 else if v = 2 then 5 else 0
/-- Does a version know a tag? -/
def knows (v t : Int) : Bool := decide (1 ≤ t) && (decide (v = 1) && decide (t ≤ 3) || decide (v = 2) && decide (t ≤ 5))
def isOther (f : Fld) : Bool := !(f.1 == 4 || f.1 == 5)
/-- May fields be carried? -/
def extraS (v : Int) (l : List Fld) : Bool := l.all (fun f => !knows v f.1) && (rightS l && decide ((l.filter isOther).length ≤ 8))
def RightP (v : Int) (r : Rec) : Prop := (v = 1 ∨ v = 2) ∧ 1 ≤ r.key.length ∧ r.key.length ≤ 16 ∧ r.value.length ≤ 200 ∧ 0 ≤ r.rev ∧ r.rev ≤ 9007199254740992 ∧ (v = 1 → r.life = 0 ∧ r.note = []) ∧ 0 ≤ r.life ∧ r.life ≤ 9007199254740992 ∧ r.note.length ≤ 40 ∧ extraS v r.extra = true
instance (v : Int) (r : Rec) : Decidable (RightP v r) := inferInstanceAs (Decidable (_ ∧ _))
/-- May a record be, by a version? -/
def rightR (v : Int) (r : Rec) : Bool := decide (RightP v r)
/-- A number's bytes; none of 0. -/
def numS (n : Int) : List UInt8 := if n = 0 then [] else putF 8 n.toNat
def knownA (r : Rec) : List Fld := [(1, r.key), (2, r.value), (3, numS r.rev), (4, numS r.life), (5, r.note)]
def hasData (f : Fld) : Bool := !decide (f.2 = [])
/-- The known fields of a record. -/
def knownF (r : Rec) : List Fld := (knownA r).filter hasData
def encodeR (v : Int) (r : Rec) : BE := if rightR v r = true then encodeS (knownF r ++ r.extra) else ⟨[], 1⟩
/-- The number whose bytes a text is; 0: there is none. -/
def wholeS (s : List UInt8) : Int := if (takeS s).err = 0 ∧ (takeS s).len = s.length then (takeS s).num else 0
/-- A record with one field more. -/
def setF (v : Int) (r : Rec) (f : Fld) : Option Rec :=
  if knows v f.1 = true then
    if f.2 = [] then none else
    if f.1 = 1 then some { r with key := f.2 } else
    if f.1 = 2 then some { r with value := f.2 } else
    if f.1 = 3 then (if wholeS f.2 = 0 then none else some { r with rev := wholeS f.2 }) else
    if f.1 = 4 then (if wholeS f.2 = 0 then none else some { r with life := wholeS f.2 }) else
    some { r with note := f.2 }
  else some { r with extra := r.extra ++ [f] }
def setAll (v : Int) : Rec → List Fld → Option Rec
  | r, [] => some r
  | r, f :: l => match setF v r f with
    | none => none
    | some r' => setAll v r' l
def decodeR (v : Int) (s : List UInt8) : RE :=
  if v = 1 ∨ v = 2 then
    match decodeS s with
    | .no e => ⟨rec0, e⟩
    | .ok l =>
      if (findS l 1).isSome = true then
        match setAll v rec0 l with
        | none => ⟨rec0, 21⟩
        | some r => if rightR v r = true then ⟨r, 0⟩ else ⟨rec0, 21⟩
      else ⟨rec0, 20⟩
  else ⟨rec0, 1⟩
end Go.Ai

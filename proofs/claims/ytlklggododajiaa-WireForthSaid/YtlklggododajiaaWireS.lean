/- Messages: what is computed. -/
import Derived.Test.YtlklggododajiaaFieldP
set_option linter.unusedVariables false
set_option linter.unusedSimpArgs false
namespace Go.Ai
structure Msg where
  kind : Int
  frm : Int
  to : Int
  seq : Int
  body : List UInt8
  trace : Int
deriving DecidableEq
def mv (x : Msg) : List AV := [.v (.int .i64 x.kind), .v (.int .i64 x.frm), .v (.int .i64 x.to), .v (.int .i64 x.seq), .v (.string (mk x.body)), .v (.int .i64 x.trace)]
def kindsV (v : Int) : Int := if v = 1 then 9 else if v = 2 then 20 else 0
def fitsN (n : Int) : Prop := 0 ≤ n ∧ n ≤ 9007199254740992
instance (n : Int) : Decidable (fitsN n) := by unfold fitsN; infer_instance
def rightM (v : Int) (x : Msg) : Prop := 1 ≤ x.kind ∧ x.kind ≤ kindsV v ∧ fitsN x.frm ∧ fitsN x.to ∧ fitsN x.seq ∧ fitsN x.trace ∧ x.body.length ≤ 1000 ∧ (v = 2 ∨ x.trace = 0)
instance (v : Int) (x : Msg) : Decidable (rightM v x) := by unfold rightM; infer_instance
/-- A field of a number above 0. -/
def numF (tag n : Int) : List Fld := if n = 0 then [] else [(tag, putF 8 n.toNat)]
def bodyF (b : List UInt8) : List Fld := if b = [] then [] else [(5, b)]
def fieldsM (x : Msg) : List Fld := numF 1 x.kind ++ numF 2 x.frm ++ numF 3 x.to ++ numF 4 x.seq ++ bodyF x.body ++ numF 6 x.trace
def encM (v : Int) (x : Msg) : BE := if rightM v x then ⟨UInt8.ofNat v.toNat :: encL (fieldsM x), 0⟩ else if v = 1 ∧ rightM 2 x then ⟨[], 22⟩ else ⟨[], 1⟩
def msg0 : Msg := ⟨0, 0, 0, 0, [], 0⟩
/-- The number whose bytes a text is; 0: there is none. -/
def wholeS (s : List UInt8) : Int := if (takeS s).err = 0 ∧ (takeS s).len = s.length then (takeS s).num else 0
def setM (x : Msg) (f : Fld) : Option Msg :=
  if f.1 = 5 then (if f.2 = [] then none else some { x with body := f.2 }) else
  if wholeS f.2 = 0 then none else
  if f.1 = 1 then some { x with kind := wholeS f.2 } else
  if f.1 = 2 then some { x with frm := wholeS f.2 } else
  if f.1 = 3 then some { x with to := wholeS f.2 } else
  if f.1 = 4 then some { x with seq := wholeS f.2 } else
  if f.1 = 6 then some { x with trace := wholeS f.2 } else none
def setsM : Msg → List Fld → Option Msg
  | x, [] => some x
  | x, f :: r => match setM x f with
    | none => none
    | some y => setsM y r
structure DecR where
  v : Int
  m : Msg
  e : Int
deriving DecidableEq
def decM (s : List UInt8) : DecR :=
  match s with
  | [] => ⟨0, msg0, 22⟩
  | c :: r =>
    if c.toNat = 1 ∨ c.toNat = 2 then
      match decodeS r with
      | .no e => ⟨0, msg0, e⟩
      | .ok l => match setsM msg0 l with
        | none => ⟨0, msg0, 21⟩
        | some x => if rightM c.toNat x then ⟨c.toNat, x, 0⟩ else ⟨0, msg0, 21⟩
    else ⟨0, msg0, 22⟩
end Go.Ai

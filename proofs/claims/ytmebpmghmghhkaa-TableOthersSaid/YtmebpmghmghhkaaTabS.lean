/- Tables: what is computed. -/
import Derived.Test.YtmebpmghmghhkaaVarintS
import Derived.Test.YtmebpmghmghhkaaRecS
import Derived.Test.YtmebpmghmghhkaaTabO
set_option linter.unusedVariables false
set_option linter.unusedSimpArgs false
namespace Go.Ai
structure Opr where
  kind : Int
  key : List UInt8
  value : List UInt8
  rev : Int
  to : List UInt8
  life : Int
  note : List UInt8
deriving DecidableEq
def opv (o : Opr) : List AV := [.v (.int .i64 o.kind), .v (.string (mk o.key)), .v (.string (mk o.value)), .v (.int .i64 o.rev), .v (.string (mk o.to)), .v (.int .i64 o.life), .v (.string (mk o.note))]
/-- A reply to an op. -/
structure Rpy where
  errno : Int
  rev : Int
  value : List UInt8
  keys : List (List UInt8)
deriving DecidableEq
def rpv (r : Rpy) : List AV := [.v (.int .i64 r.errno), .v (.int .i64 r.rev), .v (.string (mk r.value)), .lst 1 (r.keys.map tv)]
def faultS (e : Int) : Rpy := ⟨e, 0, [], []⟩
def deskv (n : Nat) (o : Opr) (i : Nat) (h : Bool) : List AV := [.row 1 6 0 n, .v (.int .i64 o.kind), .v (.string (mk o.key)), .v (.string (mk o.value)), .v (.int .i64 o.rev), .v (.string (mk o.to)), .v (.int .i64 o.life), .v (.string (mk o.note)), .v (.int .i64 i), .v (.bool h)]
/-- Is a table one that may be? -/
def tabGo (last : List UInt8) : List Rec → Bool
  | [] => true
  | r :: t => rightR 2 r && decide (cmpL last r.key < 0) && tabGo r.key t
def tabR (t : List Rec) : Bool := tabGo [] t && decide (t.length ≤ 20)
def numP (n : Int) : Prop := 0 ≤ n ∧ n ≤ 9007199254740992
instance (n : Int) : Decidable (numP n) := inferInstanceAs (Decidable (_ ∧ _))
/-- What is wrong with an op. -/
def checkS (v : Int) (o : Opr) : Int :=
  if ¬ (v = 1 ∨ v = 2) ∨ o.kind < 1 ∨ 6 < o.kind ∨ (o.key = [] ∧ o.kind ≠ 6) then 1 else
  if 16 < o.key.length ∨ 16 < o.to.length ∨ 200 < o.value.length ∨ 40 < o.note.length ∨ ¬ numP o.rev ∨ ¬ numP o.life then 1 else
  if v = 1 ∧ o.kind = 5 then 22 else 0
/-- Where a key is, or would be. -/
def posT (k : List UInt8) (t : List Rec) : Nat := (t.takeWhile fun r => decide (cmpL r.key k < 0)).length
def hereT (k : List UInt8) (t : List Rec) (i : Nat) : Bool := decide ((t[i]?).map (·.key) = some k)
/-- A table and a reply. -/
structure DoR where
  t : List Rec
  r : Rpy
deriving DecidableEq
def DoR.av (x : DoR) : AV := .tup [.lst 6 (x.t.map rcv), .agg (rpv x.r)]
def changeS (t : List Rec) (i : Nat) (f : Rec → Rec) : DoR := match t[i]? with
  | none => ⟨t, faultS 0⟩
  | some r => if r.rev = 9007199254740992 then ⟨t, faultS 50⟩ else ⟨t.set i { f r with rev := r.rev + 1 }, ⟨0, r.rev + 1, [], []⟩⟩
def putS (t : List Rec) (o : Opr) (i : Nat) (h : Bool) : DoR :=
  if h = true then changeS t i fun r => { r with value := o.value } else
  if 20 ≤ t.length then ⟨t, faultS 50⟩ else ⟨t.take i ++ ⟨o.key, o.value, 1, 0, [], []⟩ :: t.drop i, ⟨0, 1, [], []⟩⟩
def revS (t : List Rec) (i : Nat) (h : Bool) : Int := if h = true then match t[i]? with
  | none => 0
  | some r => r.rev else 0
def scanS (t : List Rec) (o : Opr) (i : Nat) : List (List UInt8) := (((t.drop i).takeWhile fun r => !(!decide (o.to = []) && !decide (cmpL r.key o.to < 0))).take 5).map (·.key)
def stepS (t : List Rec) (o : Opr) (i : Nat) (h : Bool) : DoR :=
  if o.kind = 1 then (if h = true then ⟨t, ⟨0, revS t i h, (t[i]?.map (·.value)).getD [], []⟩⟩ else ⟨t, faultS 70⟩) else
  if o.kind = 2 then putS t o i h else
  if o.kind = 3 then (if h = true then ⟨t.take i ++ t.drop (i + 1), ⟨0, revS t i h, [], []⟩⟩ else ⟨t, faultS 70⟩) else
  if o.kind = 4 then (if revS t i h = o.rev then putS t o i h else ⟨t, ⟨71, revS t i h, [], []⟩⟩) else
  if o.kind = 5 then (if h = true then changeS t i fun r => { r with life := o.life, note := o.note } else ⟨t, faultS 70⟩) else
  ⟨t, ⟨0, 0, [], scanS t o i⟩⟩
def doS (t : List Rec) (o : Opr) : DoR :=
  if tabR t = true ∧ checkS 2 o = 0 then stepS t o (posT o.key t) (hereT o.key t (posT o.key t)) else ⟨t, faultS 1⟩
end Go.Ai

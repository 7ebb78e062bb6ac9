/- Replies that are kept: what is computed. -/
import Derived.Test.YtinklhniabhaiaaVarintS
import Derived.Test.YtinklhniabhaiaaFieldS
set_option linter.unusedVariables false
set_option linter.unusedSimpArgs false
namespace Go.Ai
structure Rep where
  errno : Int
  rev : Int
  value : List UInt8
  keys : List (List UInt8)
deriving DecidableEq
structure Dn where
  client : Int
  id : Int
  rep : Rep
deriving DecidableEq
def repv (r : Rep) : List AV := [.v (.int .i64 r.errno), .v (.int .i64 r.rev), .v (.string (mk r.value)), .lst 1 (r.keys.map tv)]
def dnv (d : Dn) : List AV := [.v (.int .i64 d.client), .v (.int .i64 d.id), .v (.int .i64 d.rep.errno), .v (.int .i64 d.rep.rev), .v (.string (mk d.rep.value)), .lst 1 (d.rep.keys.map tv)]
def rep0 : Rep := ⟨0, 0, [], []⟩
/-- May a reply be? -/
def MayP (r : Rep) : Prop := 0 ≤ r.rev ∧ r.rev ≤ 9007199254740992 ∧ r.value.length ≤ 200 ∧ 0 ≤ r.errno ∧ r.errno ≤ 255 ∧ r.keys.length ≤ 5 ∧ ∀ k ∈ r.keys, k.length ≤ 16
instance (r : Rep) : Decidable (MayP r) := inferInstanceAs (Decidable (_ ∧ _))
def NamedP (c i : Int) : Prop := 1 ≤ c ∧ c ≤ 1000 ∧ 1 ≤ i ∧ i ≤ 9007199254740992
instance (c i : Int) : Decidable (NamedP c i) := inferInstanceAs (Decidable (_ ∧ _))
def OneD (last : Int) (d : Dn) : Prop := last < d.client ∧ NamedP d.client d.id ∧ MayP d.rep
instance (c : Int) (d : Dn) : Decidable (OneD c d) := inferInstanceAs (Decidable (_ ∧ _))
def dnGo (last : Int) : List Dn → Bool
  | [] => true
  | d :: r => decide (OneD last d) && dnGo d.client r
def rightD (l : List Dn) : Bool := dnGo 0 l && decide (l.length ≤ 8)
def findD (l : List Dn) (c : Int) : Option Dn := l.find? fun d => d.client == c
/-- What a client's call was replied, and an error. -/
structure LookR where
  rep : Rep
  e : Int
def LookR.av (x : LookR) : AV := .tup [.agg (repv x.rep), .v (.int .i64 x.e)]
def lookS (l : List Dn) (c i : Int) : LookR :=
  if rightD l = true ∧ NamedP c i then
    match findD l c with
    | none => ⟨rep0, 70⟩
    | some d => if d.id < i then ⟨rep0, 70⟩ else if i < d.id then ⟨rep0, 81⟩ else ⟨d.rep, 0⟩
  else ⟨rep0, 1⟩
/-- One more, in its place. -/
def insD (d : Dn) : List Dn → List Dn
  | [] => [d]
  | x :: l => if x.client < d.client then x :: insD d l else if x.client = d.client then d :: l else d :: x :: l
structure KeepR where
  l : List Dn
  e : Int
def KeepR.av (x : KeepR) : AV := .tup [.lst 6 (x.l.map dnv), .v (.int .i64 x.e)]
def keepS (l : List Dn) (c i : Int) (r : Rep) : KeepR :=
  if (lookS l c i).e = 1 ∨ (lookS l c i).e = 0 ∨ ¬ MayP r then ⟨[], 1⟩ else
  if (lookS l c i).e = 81 then ⟨[], 81⟩ else
  if findD l c = none ∧ 8 ≤ l.length then ⟨[], 50⟩ else ⟨insD ⟨c, i, r⟩ l, 0⟩
end Go.Ai

/- Sessions: what is computed. -/
import Derived.Test.YtakibkfalckhiaaFieldS
set_option linter.unusedVariables false
set_option linter.unusedSimpArgs false
namespace Go.Ai
/-- A number as an element. -/
def iv (n : Int) : List AV := [.v (.int .i64 n)]
/-- A session: the number that is sent next, the last below which all came, what came ahead. -/
structure Ses where
  next : Int
  seen : Int
  ahead : List Int
deriving DecidableEq
def sv (s : Ses) : List AV := [.v (.int .i64 s.next), .v (.int .i64 s.seen), .lst 1 (s.ahead.map iv)]
def rightG (last hi : Int) : List Int → Bool
  | [] => true
  | n :: r => !(decide (n ≤ last) || decide (hi < n)) && rightG n hi r
/-- May a session be? -/
def sright (s : Ses) : Bool := decide (1 ≤ s.next ∧ s.next ≤ 9007199254740992 ∧ 0 ≤ s.seen ∧ s.seen ≤ 9007199254740992) && rightG (s.seen + 1) (min (s.seen + 64) 9007199254740992) s.ahead
structure StampR where
  s : Ses
  n : Int
  e : Int
deriving DecidableEq
def StampR.av (r : StampR) : AV := .tup [.agg (sv r.s), .v (.int .i64 r.n), .v (.int .i64 r.e)]
def stampS (s : Ses) : StampR := if sright s = true then (if s.next = 9007199254740992 then ⟨s, 0, 50⟩ else ⟨{ s with next := s.next + 1 }, s.next, 0⟩) else ⟨s, 0, 1⟩
structure TakeR where
  s : Ses
  is : Bool
  e : Int
deriving DecidableEq
def TakeR.av (r : TakeR) : AV := .tup [.agg (sv r.s), .v (.bool r.is), .v (.int .i64 r.e)]
/-- What came ahead and is next in turn counts as seen. -/
def absorb : Int → List Int → Int × List Int
  | seen, [] => (seen, [])
  | seen, n :: r => if n = seen + 1 then absorb n r else (seen, n :: r)
def takeS' (s : Ses) (q : Int) : TakeR :=
  if sright s = true ∧ 1 ≤ q ∧ q ≤ 9007199254740992 then
    if s.seen + 64 < q then ⟨s, false, 60⟩ else
    if q ≤ s.seen then ⟨s, false, 0⟩ else
    if q ∈ s.ahead then ⟨s, false, 0⟩ else
    let r := absorb s.seen (s.ahead.filter (fun n => decide (n < q)) ++ q :: s.ahead.filter fun n => decide (q < n))
    ⟨⟨s.next, r.1, r.2⟩, true, 0⟩
  else ⟨s, false, 1⟩
end Go.Ai

/- A machine for whole functions: an abstract run of the program's code over plain data (wpF, wpA), of which XAiSound shows that the model's call does the same. -/
import Derived.Calls
import Derived.WalkKit
import Derived.KernelRfl
import Derived.Orders
set_option linter.unusedVariables false
namespace Go.Ai

/-! ### Values -/
inductive AV where
  | junk
  | v (x : Value)
  | nl
  | ptr (id f : Nat)
  | rptr (id sz i f : Nat)
  | row (id sz off len : Nat)
  | lst (sz : Nat) (xs : List (List AV))
  | eptr (cs : List AV)
  | agg (cs : List AV)
  | tup (vs : List AV)
  | fn (f : FuncId) (first cap : List AV)
  | ifc (t : TypeId) (x : AV)
  | map (id : Nat)

inductive Blk where
  | var (t : TypeId) (cs : List AV)
  | row (t : TypeId) (sz : Nat) (xs : List (List AV))
  | rowc (t : TypeId) (sz c : Nat) (xs : List (List AV))   -- a row whose room is told
  | map (t : TypeId) (es : List (Int × AV))

abbrev Hp := List (Option Blk)

structure St where
  t : List (Nat × AV)
  H : Hp

def find (n : Nat) : List (Nat × AV) → AV
  | [] => .junk
  | (k, a) :: r => if k = n then a else find n r

def St.tmp (s : St) (n : Nat) : AV := find n s.t
def St.put (s : St) (d : Option Nat) (a : AV) : St :=
  match d with
  | none => s
  | some d => ⟨(d, a) :: s.t, s.H⟩

def oneV : Value → Bool
  | .agg _ => false
  | .tuple _ => false
  | _ => true
def av : Value → AV
  | .agg cs => if cs.toList.all oneV = true then .agg (cs.toList.map .v) else .junk
  | x => .v x

def St.get (s : St) : Operand → AV
  | .tmp n => s.tmp n
  | .const x => av x
  | .global g => .v (.pointer (some ⟨g, 0, none⟩))
  | .func f => .fn f [] []

def blk (H : Hp) (id : Nat) : Option Blk := (H[id]?).bind fun b => b

/-! ### Names of blocks -/
/-- The blocks told by other names; what has no new name is told no more. -/
def AV.ren0 (f : Nat → Option Nat) : AV → AV
  | .ptr id o =>
    match f id with
    | some i => .ptr i o
    | none => .junk
  | .rptr id sz i o =>
    match f id with
    | some k => .rptr k sz i o
    | none => .junk
  | .row id sz o l =>
    match f id with
    | some k => .row k sz o l
    | none => .junk
  | .map id =>
    match f id with
    | some k => .map k
    | none => .junk
  | .v x => .v x
  | .nl => .nl
  | .lst sz xs => .lst sz xs
  | .eptr cs => .eptr cs
  | _ => .junk
def AV.ren1 (f : Nat → Option Nat) : AV → AV
  | .agg cs => .agg (cs.map (AV.ren0 f))
  | .fn g a b => .fn g (a.map (AV.ren0 f)) (b.map (AV.ren0 f))
  | .ifc t x => .ifc t (x.ren0 f)
  | x => x.ren0 f
def AV.ren2 (f : Nat → Option Nat) : AV → AV
  | .tup vs => .tup (vs.map (AV.ren1 f))
  | x => x.ren1 f
def Blk.ren (f : Nat → Option Nat) : Blk → Blk
  | .var t cs => .var t (cs.map (AV.ren1 f))
  | .row t sz xs => .row t sz xs
  | .rowc t sz c xs => .rowc t sz c xs
  | .map t es => .map t (es.map fun e => (e.1, e.2.ren1 f))

def AV.ids0 : AV → List Nat
  | .ptr id _ => [id]
  | .rptr id _ _ _ => [id]
  | .row id _ _ _ => [id]
  | .map id => [id]
  | _ => []
def AV.ids1 : AV → List Nat
  | .agg cs => cs.flatMap AV.ids0
  | .fn _ a b => a.flatMap AV.ids0 ++ b.flatMap AV.ids0
  | .ifc _ x => x.ids0
  | x => x.ids0
def AV.ids2 : AV → List Nat
  | .tup vs => vs.flatMap AV.ids1
  | x => x.ids1
def Blk.ids : Blk → List Nat
  | .var _ cs => cs.flatMap AV.ids1
  | .row .. => []
  | .rowc .. => []
  | .map _ es => es.flatMap fun e => e.2.ids1

def has (n : Nat) : List Nat → Bool
  | [] => false
  | k :: r => if k = n then true else has n r
/-- What is not yet there and is a block still. -/
def addAll (H : Hp) (seen : List Nat) : List Nat → List Nat
  | [] => seen
  | k :: r => addAll H (if has k seen = true then seen else if (blk H k).isSome = true then seen ++ [k] else seen) r
/-- All that is reached from some blocks, in the order in which it is met. -/
def reach (H : Hp) : Nat → Nat → List Nat → List Nat
  | 0, _, seen => seen
  | n + 1, i, seen =>
    match seen[i]? with
    | none => seen
    | some k => reach H n (i + 1) (addAll H seen (((blk H k).map Blk.ids).getD []))
def place (n : Nat) : List Nat → Option Nat
  | [] => none
  | k :: r => if k = n then some 0 else (place n r).map (· + 1)
/-- Some blocks alone, renamed. -/
def pickR (H : Hp) (f : Nat → Option Nat) (ids : List Nat) : Hp := ids.map fun k => (blk H k).map (Blk.ren f)
def pickH (H : Hp) (ids : List Nat) : Hp := pickR H (place · ids) ids

/-! ### What is kept at a loop's head -/
structure Norm where
  keep : List Nat
  out : List Nat                     -- what is read behind the loop
  rows : List (Nat × TypeId × Nat)   -- slots whose nil slice becomes a row of the call's own
  base : Nat                         -- how many blocks were handed in: they stay in their places
  frz : List Nat                     -- slots whose rows nobody writes any more

def rowZ (n : Nat) (t : TypeId) (sz : Nat) (s : St) : St :=
  match sz with
  | 0 => s
  | k + 1 => ⟨(n, .row s.H.length (k + 1) 0 0) :: s.t, s.H ++ [some (.row t (k + 1) [])]⟩
def rowify (rs : List (Nat × TypeId × Nat)) (s : St) : St :=
  match rs with
  | [] => s
  | (n, t, sz) :: r =>
    rowify r (match s.tmp n with
      | .v (.slice none 0 0) => rowZ n t sz s
      | .nl => rowZ n t sz s
      | _ => s)
def rangeL : Nat → List Nat
  | 0 => []
  | n + 1 => rangeL n ++ [n]
def withBase (b : Nat) (N : Norm) : Norm := ⟨N.keep, N.out, N.rows, b, N.frz⟩
def normTo (b : Nat) (keep : List Nat) (s : St) : St :=
  let kept := keep.map fun n => (n, s.tmp n)
  let ids := reach s.H (s.H.length + 1) 0 (addAll s.H (rangeL b) (kept.flatMap fun x => x.2.ids2))
  ⟨kept.map fun x => (x.1, x.2.ren2 (place · ids)), pickH s.H ids⟩

/-! ### Types -/
def szOf (P : Program) (t : TypeId) : Nat := ((P.info? t).map (·.size)).getD 0
def szO (P : Program) (t : TypeId) : Option Nat := (P.info? t).map (·.size)
def isAg (P : Program) (t : TypeId) : Option Bool :=
  (P.underlying t).map fun d => match d with
    | .struct _ => true
    | .array _ _ => true
    | _ => false
inductive Sh where
  | int (k : IntKind)
  | bool
  | str
  | sl (sz : Nat)
  | other
def shapes (P : Program) : Nat → TypeId → List Sh
  | 0, _ => [.other]
  | n + 1, t =>
    match P.underlying t with
    | some .bool => [.bool]
    | some (.int k) => [.int k]
    | some .string => [.str]
    | some (.slice e) => [.sl (szOf P e)]
    | some (.struct fs) => fs.toList.flatMap fun f => shapes P n f.type
    | some (.array l e) => (List.replicate l (shapes P n e)).flatten
    | _ => [.other]
def exSh : List Sh → (List AV → Prop) → Prop
  | [], K => K []
  | .int k :: r, K => ∃ n : Int, exSh r fun cs => K (.v (.int k n) :: cs)
  | .bool :: r, K => ∃ b : Bool, exSh r fun cs => K (.v (.bool b) :: cs)
  | .str :: r, K => ∃ s : ByteArray, exSh r fun cs => K (.v (.string s) :: cs)
  | .sl sz :: r, K => ∃ ys : List (List AV), exSh r fun cs => K (.lst sz ys :: cs)
  | .other :: r, K => ∃ a : AV, exSh r fun cs => K (a :: cs)
def cellsOf : AV → Option (List AV)
  | .agg cs => some cs
  | .junk => none
  | .tup _ => none
  | .v (.agg _) => none
  | .v (.tuple _) => none
  | x => some [x]
def closed0 : AV → Bool
  | .v _ => true
  | .nl => true
  | .lst _ _ => true
  | .eptr _ => true
  | .junk => false
  | .ptr _ _ => false
  | .rptr _ _ _ _ => false
  | .row _ _ _ _ => false
  | .agg _ => false
  | .tup _ => false
  | .fn _ _ _ => false
  | .ifc _ _ => false
  | .map _ => false
/-- A cell as it is told within a row: no block of the call's own. -/
def normC : Sh → AV → Option AV
  | .sl sz, .v (.slice none 0 0) => some (.lst sz [])
  | .sl sz, .lst sz' xs => if sz = sz' then some (.lst sz xs) else none
  | .sl _, _ => none
  | _, .v (.agg _) => none
  | _, .v (.tuple _) => none
  | _, .v x => some (.v x)
  | .other, .fn f a b => cond (a.all closed0 && b.all closed0) (some (.fn f a b)) none
  | _, _ => none
def normL : List Sh → List AV → Option (List AV)
  | [], [] => some []
  | s :: ss, c :: cs => (normC s c).bind fun c => (normL ss cs).map fun cs => c :: cs
  | _, _ => none
def ldv (P : Program) (t : TypeId) (cs : List AV) (f : Nat) : Option AV :=
  match isAg P t with
  | some true => if f + szOf P t ≤ cs.length then some (.agg ((cs.drop f).take (szOf P t))) else none
  | some false => cs[f]?
  | none => none
def zeroC (P : Program) (t : TypeId) : Option (List AV) := ((P.info? t).bind (·.zero)).bind fun z => if z.cells.toList.all oneV = true then some (z.cells.toList.map .v) else none
def fillA (cs : List AV) (off size : Nat) (x : AV) : Option (List AV) :=
  match cellsOf x with
  | some c => if c.length = size ∧ off + size ≤ cs.length then some (cs.take off ++ c ++ cs.drop (off + size)) else none
  | none => none
def fillsA (pl : Nat → Option (Nat × Nat)) (cs : List AV) : List (Nat × AV) → Option (List AV)
  | [] => some cs
  | (i, x) :: r =>
    match pl i with
    | some (off, size) => (fillA cs off size x).bind fun cs => fillsA pl cs r
    | none => none

/-! ### Operations on values -/
def bitsA (op : BinOp) (k : IntKind) (x y : Int) : Int :=
  let a := BitVec.ofInt k.bits x
  let b := BitVec.ofInt k.bits y
  match op with
  | .and => k.wrap (a &&& b).toNat
  | .or => k.wrap (a ||| b).toNat
  | .xor => k.wrap (a ^^^ b).toNat
  | _ => k.wrap (a &&& ~~~b).toNat
def intA (op : BinOp) (k : IntKind) (a b : Int) (K : AV → Prop) : Prop :=
  match op with
  | .add => K (.v (.int k (k.wrap (a + b))))
  | .sub => K (.v (.int k (k.wrap (a - b))))
  | .mul => K (.v (.int k (k.wrap (a * b))))
  | .quo => b ≠ 0 ∧ K (.v (.int k (k.wrap (a.tdiv b))))
  | .rem => b ≠ 0 ∧ K (.v (.int k (a.tmod b)))
  | .and | .or | .xor | .andNot => K (.v (.int k (bitsA op k a b)))
  | .eql => K (.v (.bool (a == b)))
  | .neq => K (.v (.bool (a != b)))
  | .lss => K (.v (.bool (decide (a < b))))
  | .leq => K (.v (.bool (decide (a ≤ b))))
  | .gtr => K (.v (.bool (decide (a > b))))
  | .geq => K (.v (.bool (decide (a ≥ b))))
  | _ => False
def strEq (a b : ByteArray) : Bool := a.toList == b.toList
def strLt (a b : ByteArray) : Bool := Op.bytesLess a.toList b.toList
def strA (op : BinOp) (a b : ByteArray) (K : AV → Prop) : Prop :=
  match op with
  | .add => a.size + b.size ≤ 9223372036854775807 ∧ K (.v (.string (a ++ b)))
  | .eql => K (.v (.bool (strEq a b)))
  | .neq => K (.v (.bool (!strEq a b)))
  | .lss => K (.v (.bool (strLt a b)))
  | .leq => K (.v (.bool (strLt a b || strEq a b)))
  | .gtr => K (.v (.bool (!(strLt a b || strEq a b))))
  | .geq => K (.v (.bool (!strLt a b)))
  | _ => False
/-- '==' of structs whose fields are numbers, bools and strings. -/
def flatFs (P : Program) : Nat → List Field → Option (List Sh)
  | _, [] => some []
  | k, f :: fs =>
    if f.name = "_" ∨ f.offset ≠ k then none else
    match P.underlying f.type with
    | some .bool => (flatFs P (k + 1) fs).map fun l => .bool :: l
    | some (.int n) => (flatFs P (k + 1) fs).map fun l => .int n :: l
    | some .string => (flatFs P (k + 1) fs).map fun l => .str :: l
    | _ => none
def flatSh (P : Program) (t : TypeId) : Option (List Sh) :=
  match P.underlying t with
  | some (.struct fs) => if P.stoodInHeld t = false ∧ P.eqGuardType P.depth t = false then flatFs P 0 fs.toList else none
  | _ => none
def eqSh : List Sh → List AV → List AV → Option Bool
  | [], [], [] => some true
  | .int _ :: sh, .v (.int j a) :: xs, .v (.int k b) :: ys => if j = k then (eqSh sh xs ys).map fun r => a == b && r else none
  | .bool :: sh, .v (.bool a) :: xs, .v (.bool b) :: ys => (eqSh sh xs ys).map fun r => a == b && r
  | .str :: sh, .v (.string a) :: xs, .v (.string b) :: ys => (eqSh sh xs ys).map fun r => strEq a b && r
  | _, _, _ => none
def ptrOf (P : Program) (t : TypeId) : Option TypeId :=
  match P.underlying t with
  | some (.pointer e) => some e
  | _ => none
def elemOfS (P : Program) (t : TypeId) : Option TypeId :=
  match P.underlying t with
  | some (.slice e) => some e
  | _ => none
def aggEq (op : BinOp) (b : Option Bool) (K : AV → Prop) : Prop :=
  match op, b with
  | .eql, some b => K (.v (.bool b))
  | .neq, some b => K (.v (.bool (!b)))
  | _, _ => False
def binA (P : Program) (op : BinOp) (t : TypeId) (x y : AV) (K : AV → Prop) : Prop :=
  match x, y with
  | .v (.int k a), .v (.int k' b) =>
    match op with
    | .shl => 0 ≤ b ∧ K (.v (.int k (k.wrap (a * 2 ^ min b.toNat k.bits))))
    | .shr => 0 ≤ b ∧ K (.v (.int k (a.fdiv (2 ^ min b.toNat k.bits))))
    | _ => k = k' ∧ intA op k a b K
  | .v (.string a), .v (.string b) => strA op a b K
  | .v (.bool a), .v (.bool b) =>
    match op with
    | .eql => P.underlying t = some .bool ∧ K (.v (.bool (a == b)))
    | .neq => P.underlying t = some .bool ∧ K (.v (.bool (!(a == b))))
    | _ => False
  | .agg xs, .agg ys => aggEq op ((flatSh P t).bind fun sh => eqSh sh xs ys) K
  | .v (.slice none 0 0), .v (.slice none 0 0) =>
    match op with
    | .eql => (elemOfS P t).isSome = true ∧ K (.v (.bool true))
    | .neq => (elemOfS P t).isSome = true ∧ K (.v (.bool false))
    | _ => False
  | .lst _ xs, .v (.slice none 0 0) =>
    match op with
    | .eql => (elemOfS P t).isSome = true ∧ ∀ b : Bool, (b = true → xs = []) → K (.v (.bool b))
    | .neq => (elemOfS P t).isSome = true ∧ ∀ b : Bool, (b = true → xs = []) → K (.v (.bool (!b)))
    | _ => False
  | .v (.pointer none), .v (.pointer none) =>
    match op with
    | .eql => (ptrOf P t).isSome = true ∧ K (.v (.bool true))
    | .neq => (ptrOf P t).isSome = true ∧ K (.v (.bool false))
    | _ => False
  | .ptr _ _, .v (.pointer none) =>
    match op with
    | .eql => (ptrOf P t).isSome = true ∧ K (.v (.bool false))
    | .neq => (ptrOf P t).isSome = true ∧ K (.v (.bool true))
    | _ => False
  | _, _ => False

def optA (x : Option AV) (s : St) (K : AV → St → Prop) : Prop :=
  match x with
  | some r => K r s
  | none => False

/-! ### Operations on memory -/
def loadA (P : Program) (t : TypeId) (a : AV) (s : St) (K : AV → St → Prop) : Prop :=
  match a with
  | .ptr id f =>
    match blk s.H id with
    | some (.var _ cs) => optA (ldv P t cs f) s K
    | _ => False
  | .eptr cs => optA (ldv P t cs 0) s K
  | .rptr id sz i f =>
    match blk s.H id with
    | some (.row e sz' xs) => sz' = sz ∧ exSh (shapes P 10 e) fun cs => xs[i]? = some cs ∧ optA (ldv P t cs f) s K
    | _ => False
  | _ => False
def storeR (e : TypeId) (sz : Nat) (xs : List (List AV)) (i f : Nat) (cs : List AV) (id : Nat) (c : Option (List AV)) (s : St) (K : AV → St → Prop) : Prop :=
  match c with
  | some c => K .junk ⟨s.t, s.H.set id (some (.row e sz (xs.set i (cs.take f ++ c ++ cs.drop (f + c.length)))))⟩
  | none => False
def storeC (P : Program) (t : TypeId) (a : AV) (x : Option (List AV)) (s : St) (K : AV → St → Prop) : Prop :=
  match a, x with
  | .ptr id f, some c =>
    match blk s.H id with
    | some (.var e cs) => szO P t = some c.length ∧ f + c.length ≤ cs.length ∧
      K .junk ⟨s.t, s.H.set id (some (.var e (cs.take f ++ c ++ cs.drop (f + c.length))))⟩
    | _ => False
  | .rptr id sz i f, some c =>
    match blk s.H id with
    | some (.row e sz' xs) => sz' = sz ∧ exSh (shapes P 10 e) fun cs => xs[i]? = some cs ∧
      szO P t = some c.length ∧ f + c.length ≤ cs.length ∧
      storeR e sz xs i f cs id (normL (((shapes P 10 e).drop f).take c.length) c) s K
    | _ => False
  | _, _ => False
def sizedS (P : Program) (t : TypeId) (sz : Nat) : Prop :=
  match elemOfS P t with
  | some e => szO P e = some sz
  | none => False
def sizedA (P : Program) (t : TypeId) : Prop :=
  match elemOfS P t with
  | some e => (szO P e).isSome = true
  | none => False
def sliceL (size : Nat) (lo hi : Option AV) (K : Nat → Nat → Prop) : Prop :=
  match hi, lo with
  | none, none => K 0 size
  | none, some (.v (.int _ l)) => 0 ≤ l ∧ l ≤ (size : Int) ∧ K l.toNat size
  | some (.v (.int _ h)), none => 0 ≤ h ∧ h ≤ (size : Int) ∧ K 0 h.toNat
  | some (.v (.int _ h)), some (.v (.int _ l)) => 0 ≤ h ∧ h ≤ (size : Int) ∧ 0 ≤ l ∧ l ≤ h ∧ K l.toNat h.toNat
  | _, _ => False
/-- How many elements there is room for, where that is told. -/
def roomA (H : Hp) : AV → Option Nat
  | .row id _ 0 _ =>
    match blk H id with
    | some (.rowc _ _ c _) => some c
    | _ => none
  | _ => none
def sliceW (len : Nat) (rm : Option Nat) (lo hi : Option AV) (K : Nat → Nat → Prop) : Prop :=
  match rm, hi with
  | some r, some h => sliceL r lo (some h) K
  | some _, none => sliceL len lo none K
  | none, h => sliceL len lo h K
def sliceA (P : Program) (t : TypeId) (x : AV) (lo hi mx : Option AV) (rm : Option Nat) (K : AV → Prop) : Prop :=
  match mx with
  | some (.v (.int _ m)) =>
    match x, lo, hi with
    | .lst sz xs, none, some (.v (.int _ h)) => h = 0 ∧ m = 0 ∧ sizedS P t sz ∧ K .nl
    | .row _ sz _ len, some (.v (.int _ l)), some (.v (.int _ h)) => 0 ≤ l ∧ l ≤ h ∧ h ≤ m ∧ m ≤ (len : Int) ∧ sizedS P t sz ∧ K .junk
    | _, _, _ => False
  | some _ => False
  | none =>
    match x with
    | .v (.string s) => P.underlying t = some .string ∧ sliceL s.size lo hi fun l h => K (.v (.string (s.extract l h)))
    | .lst sz xs => sizedS P t sz ∧ sliceL xs.length lo hi fun l h => K (.lst sz ((xs.take h).drop l))
    | .row id sz off len => sizedS P t sz ∧ sliceW len rm lo hi fun l h => K (.row id sz (off + l) (h - l))
    | .v (.slice none 0 0) => sizedA P t ∧ sliceL 0 lo hi fun _ _ => K (.v (.slice none 0 0))
    | _ => False
def fieldOf (P : Program) (t : TypeId) (i : Nat) : Option (Nat × TypeId) :=
  match P.underlying t with
  | some (.struct fs) => (fs[i]?).map fun f => (f.offset, f.type)
  | _ => none
def arrOf (P : Program) (t : TypeId) : Option (Nat × TypeId) :=
  match P.underlying t with
  | some (.array n e) => some (n, e)
  | _ => none
def moveA (x : AV) (n : Nat) (K : AV → Prop) : Prop :=
  match x with
  | .ptr id f => K (.ptr id (f + n))
  | .rptr id sz i f => K (.rptr id sz i (f + n))
  | .eptr cs => K (.eptr (cs.drop n))
  | _ => False
def indexAddrA (P : Program) (t : TypeId) (x i : AV) (K : AV → Prop) : Prop :=
  match i with
  | .v (.int _ i) =>
    match x with
    | .lst sz xs =>
      match elemOfS P t with
      | some e => szO P e = some sz ∧ 0 ≤ i ∧ exSh (shapes P 10 e) fun cs => xs[i.toNat]? = some cs ∧ K (.eptr cs)
      | none => False
    | .row id sz off len =>
      match elemOfS P t with
      | some e => szO P e = some sz ∧ 0 ≤ i ∧ i < (len : Int) ∧ K (.rptr id sz (off + i.toNat) 0)
      | none => False
    | x =>
      match arrOf P t with
      | some (n, e) =>
        match szO P e with
        | some sz => 0 ≤ i ∧ i < (n : Int) ∧ moveA x (i.toNat * sz) K
        | none => False
      | none => False
  | _ => False
def optV (x : Option AV) (K : AV → Prop) : Prop :=
  match x with
  | some r => K r
  | none => False
def indexA (P : Program) (t : TypeId) (x i : AV) (K : AV → Prop) : Prop :=
  match i with
  | .v (.int _ i) =>
    match x with
    | .v (.string s) => P.underlying t = some .string ∧ 0 ≤ i ∧ i < (s.size : Int) ∧ K (.v (.int .u8 ((s.data.getD i.toNat 0).toNat : Int)))
    | .agg cs =>
      match arrOf P t with
      | some (n, e) =>
        match szO P e with
        | some sz => 0 ≤ i ∧ i < (n : Int) ∧ optV (ldv P e cs (i.toNat * sz)) K
        | none => False
      | none => False
    | _ => False
  | _ => False
def convA (P : Program) (src dst : TypeId) (x : AV) (K : AV → Prop) : Prop :=
  match x with
  | .v (.int _ n) =>
    match P.underlying src, P.underlying dst with
    | some (.int _), some (.int k) => K (.v (.int k (k.wrap n)))
    | _, _ => False
  | .v (.string s) =>
    match P.underlying src, P.underlying dst with
    | some .string, some .string => K (.v (.string s))
    | _, _ => False
  | .lst _ xs =>
    match P.underlying src, P.underlying dst with
    | some (.slice e), some .string =>
      match P.underlying e with
      | some (.int .u8) => ∃ s : ByteArray, xs = s.data.toList.map (fun b => [.v (.int .u8 (b.toNat : Int))]) ∧ K (.v (.string s))
      | _ => False
    | _, _ => False
  | _ => False
def borrow (H : Hp) : AV → AV
  | .row id sz off len =>
    match blk H id with
    | some (.row _ sz' xs) => if sz = sz' then .lst sz ((xs.drop off).take len) else .junk
    | _ => .junk
  | x => x
/-- A row that becomes part of another row: from then on it is told as it stands. -/
def frz0 (H : Hp) : AV → AV
  | .junk => .junk
  | .v x => .v x
  | .nl => .nl
  | .ptr id f => .ptr id f
  | .rptr id sz i f => .rptr id sz i f
  | .row id sz off len => borrow H (.row id sz off len)
  | .lst sz xs => .lst sz xs
  | .eptr cs => .eptr cs
  | .agg cs => .agg cs
  | .tup vs => .tup vs
  | .fn f a b => .fn f a b
  | .ifc t x => .ifc t x
  | .map id => .map id
/-- A captured variable as it stands. -/
def capB (id f : Nat) (b : Option Blk) : AV :=
  match b with
  | some (.var _ cs) => cond ((f == 0) && cs.all closed0) (.eptr cs) (.ptr id f)
  | some (.row _ _ _) => .ptr id f
  | some (.rowc _ _ _ _) => .ptr id f
  | some (.map _ _) => .ptr id f
  | none => .ptr id f
def capZ (H : Hp) : AV → AV
  | .junk => .junk
  | .v x => .v x
  | .nl => .nl
  | .ptr id f => capB id f (blk H id)
  | .rptr id sz i f => .rptr id sz i f
  | .row id sz off len => .row id sz off len
  | .lst sz xs => .lst sz xs
  | .eptr cs => .eptr cs
  | .agg cs => .agg cs
  | .tup vs => .tup vs
  | .fn f a b => .fn f a b
  | .ifc t x => .ifc t x
  | .map id => .map id
def idsC : AV → List Nat
  | .ptr id _ => [id]
  | .row _ _ _ _ => []
  | .junk => []
  | .v _ => []
  | .nl => []
  | .rptr _ _ _ _ => []
  | .lst _ _ => []
  | .eptr _ => []
  | .agg _ => []
  | .tup _ => []
  | .fn _ _ _ => []
  | .ifc _ _ => []
  | .map _ => []
def frzV (H : Hp) : AV → AV
  | .junk => .junk
  | .v x => .v x
  | .nl => .nl
  | .ptr id f => .ptr id f
  | .rptr id sz i f => .rptr id sz i f
  | .row id sz off len => frz0 H (.row id sz off len)
  | .lst sz xs => .lst sz xs
  | .eptr cs => .eptr cs
  | .agg cs => .agg (cs.map (frz0 H))
  | .tup vs => .tup vs
  | .fn f a b => .fn f (a.map (capZ H)) (b.map (capZ H))
  | .ifc t x => .ifc t x
  | .map id => .map id
def idsR0 : AV → List Nat
  | .row id _ _ _ => [id]
  | .junk => []
  | .v _ => []
  | .nl => []
  | .ptr _ _ => []
  | .rptr _ _ _ _ => []
  | .lst _ _ => []
  | .eptr _ => []
  | .agg _ => []
  | .tup _ => []
  | .fn _ _ _ => []
  | .ifc _ _ => []
  | .map _ => []
def idsR : AV → List Nat
  | .row id _ _ _ => [id]
  | .agg cs => cs.flatMap idsR0
  | .junk => []
  | .v _ => []
  | .nl => []
  | .ptr _ _ => []
  | .rptr _ _ _ _ => []
  | .lst _ _ => []
  | .eptr _ => []
  | .tup _ => []
  | .fn _ a b => a.flatMap idsC ++ b.flatMap idsC
  | .ifc _ _ => []
  | .map _ => []
def clr : Hp → List Nat → Hp
  | H, [] => H
  | H, i :: r => clr (H.set i none) r
def idsP (s : St) : List (Nat × Operand) → List Nat
  | [] => []
  | p :: r => idsR (s.get p.2) ++ idsP s r
def storeA (P : Program) (t : TypeId) (a x : AV) (s : St) (K : AV → St → Prop) : Prop :=
  match a with
  | .rptr id sz i f => storeC P t (.rptr id sz i f) (cellsOf (frzV s.H x)) ⟨s.t, clr s.H (idsR x)⟩ K
  | .ptr id f => storeC P t (.ptr id f) (cellsOf x) s K
  | _ => False
def elems (H : Hp) (sz : Nat) (x : AV) : Option (List (List AV)) :=
  match x with
  | .lst sz' ys => if sz = sz' then some ys else none
  | .v (.slice none 0 0) => some []
  | .nl => some []
  | .row id sz' off len =>
    match blk H id with
    | some (.row _ sz2 xs) => if sz = sz' ∧ sz2 = sz' then some ((xs.drop off).take len) else none
    | some (.rowc _ sz2 _ xs) => if sz = sz' ∧ sz2 = sz' ∧ off + len ≤ xs.length then some ((xs.drop off).take len) else none
    | _ => none
  | _ => none
def byOf (P : Program) (t : TypeId) : Nat := ((P.info? t).map (·.bytes)).getD 0
/-- Elements written over those of a row. -/
def putRow (xs : List (List AV)) (o : Nat) (ys : List (List AV)) : List (List AV) := xs.take o ++ ys ++ xs.drop (o + ys.length)
/-- Two ways. -/
def IF (b : Bool) (A B : Prop) : Prop := if b = true then A else B
def appendB (P : Program) (e : TypeId) (x : AV) (y : Option (List (List AV))) (s : St) (K : AV → St → Prop) : Prop :=
  match x, y with
  | .v (.slice none 0 0), some ys => ys.length * byOf P e ≤ 140737488355328 ∧
    K (.row s.H.length (szOf P e) 0 ys.length) ⟨s.t, s.H ++ [some (.row e (szOf P e) ys)]⟩
  | .nl, some ys => ys.length * byOf P e ≤ 140737488355328 ∧
    K (.row s.H.length (szOf P e) 0 ys.length) ⟨s.t, s.H ++ [some (.row e (szOf P e) ys)]⟩
  | .row id sz off len, some ys =>
    match blk s.H id with
    | some (.row e' sz' xs) => e' = e ∧ sz' = sz ∧ sz = szOf P e ∧ off = 0 ∧
      IF (decide (len = xs.length))
        ((xs.length + ys.length) * byOf P e ≤ 140737488355328 ∧
          K (.row s.H.length sz 0 (xs.length + ys.length)) ⟨s.t, (s.H.set id none) ++ [some (.row e sz (xs ++ ys))]⟩)
        (len + ys.length ≤ xs.length ∧ K (.row id sz 0 (len + ys.length)) ⟨s.t, s.H.set id (some (.row e sz (putRow xs len ys)))⟩)
    | some (.rowc e' sz' c xs) => e' = e ∧ sz' = sz ∧ sz = szOf P e ∧ off = 0 ∧ len ≤ xs.length ∧
      IF (decide (len + ys.length ≤ c))
        (K (.row id sz 0 (len + ys.length)) ⟨s.t, s.H.set id (some (.rowc e sz c (putRow xs len ys)))⟩)
        ((len + ys.length) * byOf P e ≤ 140737488355328 ∧ K (.row s.H.length sz 0 (len + ys.length)) ⟨s.t, s.H ++ [some (.row e sz (xs.take len ++ ys))]⟩)
    | _ => False
  | _, _ => False
/-- What append asks of the elements' type. -/
def appOk (P : Program) (e : TypeId) : Bool :=
  match zeroC P e with
  | some zs => zs.length == szOf P e && decide (0 < szOf P e) && decide (0 < byOf P e)
  | none => false
/-- Some elements, each nothing. -/
def zerosA (P : Program) (e : TypeId) (n : Nat) : Option (List (List AV)) :=
  (zeroC P e).bind fun z => if z.length = szOf P e then (normL (shapes P 10 e) z).map fun z => List.replicate n z else none
/-- A string's bytes as elements. -/
def bytesA (b : ByteArray) : List (List AV) := b.data.toList.map fun c => [.v (.int .u8 (c.toNat : Int))]
def appendA (P : Program) (t tx : TypeId) (x y : AV) (s : St) (K : AV → St → Prop) : Prop :=
  match elemOfS P t with
  | none => False
  | some e => appOk P e = true ∧ match y with
    | .v (.string b) => P.underlying tx = some .string ∧ szOf P e = 1 ∧ appendB P e x (some (bytesA b)) s K
    | .v (.int k n) => P.underlying tx = some (.int k) ∧ k = .i64 ∧ 0 ≤ n ∧ n * (byOf P e : Int) ≤ 140737488355328 ∧ appendB P e x (zerosA P e n.toNat) s K
    | y => t = tx ∧ appendB P e x (elems s.H (szOf P e) y) s K
def lenA (P : Program) (t : TypeId) (x : AV) (K : AV → Prop) : Prop :=
  match x with
  | .v (.string s) => P.underlying t = some .string ∧ K (.v (.int .i64 (s.size : Int)))
  | .v (.slice none 0 0) => (elemOfS P t).isSome = true ∧ K (.v (.int .i64 0))
  | .nl => (elemOfS P t).isSome = true ∧ K (.v (.int .i64 0))
  | .lst _ xs => (elemOfS P t).isSome = true ∧ K (.v (.int .i64 (xs.length : Int)))
  | .row _ _ _ len => (elemOfS P t).isSome = true ∧ K (.v (.int .i64 (len : Int)))
  | _ => False
def overA (P : Program) (t : TypeId) (x : AV) (ys : Option (List (List AV))) (r : AV) (s : St) (K : AV → St → Prop) : Prop :=
  match x, ys with
  | .row id sz off len, some ys =>
    match blk s.H id with
    | some (.row e sz' xs) => elemOfS P t = some e ∧ sz' = sz ∧ sz = szOf P e ∧ ys.length ≤ len ∧ K r ⟨s.t, s.H.set id (some (.row e sz (putRow xs off ys)))⟩
    | some (.rowc e sz' c xs) => elemOfS P t = some e ∧ sz' = sz ∧ sz = szOf P e ∧ ys.length ≤ len ∧ off ≤ xs.length ∧ K r ⟨s.t, s.H.set id (some (.rowc e sz c (putRow xs off ys)))⟩
    | _ => False
  | _, _ => False
def rowLen : AV → Nat
  | .row _ _ _ len => len
  | _ => 0
/-- The first elements of a slice. -/
def firstE (H : Hp) (sz n : Nat) (x : AV) : Option (List (List AV)) :=
  match x with
  | .lst sz' ys => if sz = sz' then some (ys.take n) else none
  | .v (.slice none 0 0) => some []
  | .nl => some []
  | .row id sz' off _ =>
    match blk H id with
    | some (.row _ sz2 xs) => if sz = sz' ∧ sz2 = sz' then some ((xs.drop off).take n) else none
    | some (.rowc _ sz2 _ xs) => if sz = sz' ∧ sz2 = sz' ∧ off + n ≤ xs.length then some ((xs.drop off).take n) else none
    | _ => none
  | _ => none
def sliceLen : AV → Nat
  | .row _ _ _ len => len
  | .lst _ xs => xs.length
  | _ => 0
def copyA (P : Program) (t : TypeId) (x y : AV) (s : St) (K : AV → St → Prop) : Prop :=
  match elemOfS P t with
  | some e => overA P t x (firstE s.H (szOf P e) (min (sliceLen y) (rowLen x)) y) (.v (.int .i64 ((min (sliceLen y) (rowLen x) : Nat) : Int))) s K
  | none => False
def clearA (P : Program) (t : TypeId) (x : AV) (s : St) (K : AV → St → Prop) : Prop :=
  match elemOfS P t with
  | some e => overA P t x (zerosA P e (rowLen x)) (.v (.tuple #[])) s K
  | none => False
def capA (P : Program) (t : TypeId) (rm : Option Nat) (s : St) (K : AV → St → Prop) : Prop :=
  match rm with
  | some r => (elemOfS P t).isSome = true ∧ K (.v (.int .i64 (r : Int))) s
  | none => False
def makeB (e : TypeId) (sz : Nat) (xs : Option (List (List AV))) (s : St) (K : AV → St → Prop) : Prop :=
  match xs with
  | some xs => K (.row s.H.length sz 0 xs.length) ⟨s.t, s.H ++ [some (.row e sz xs)]⟩
  | none => False
def makeA (P : Program) (t : TypeId) (n m : AV) (s : St) (K : AV → St → Prop) : Prop :=
  match elemOfS P t, n, m with
  | some e, .v (.int _ n), .v (.int _ m) => n = m ∧ 0 ≤ n ∧ n ≤ 1000000 ∧ appOk P e = true ∧ byOf P e ≤ 1000000 ∧ makeB e (szOf P e) (zerosA P e n.toNat) s K
  | _, _, _ => False
/-! ### Maps -/
/-- A map whose keys are int numbers. -/
def mapOk (P : Program) (t : TypeId) : Bool :=
  match P.underlying t with
  | some (.map k _) =>
    match P.underlying k with
    | some (.int .i64) => true
    | _ => false
  | _ => false
def hasK (n : Int) : List (Int × AV) → Bool
  | [] => false
  | e :: r => cond (e.1 == n) true (hasK n r)
def findK (n : Int) : List (Int × AV) → Option AV
  | [] => none
  | e :: r => cond (e.1 == n) (some e.2) (findK n r)
def makeMapA (P : Program) (t : TypeId) (s : St) (K : AV → St → Prop) : Prop := mapOk P t = true ∧ K (.map s.H.length) ⟨s.t, s.H ++ [some (.map t [])]⟩
def insertB (P : Program) (t : TypeId) (id : Nat) (n : Int) (x : AV) (b : Option Blk) (s : St) (K : AV → St → Prop) : Prop :=
  match b with
  | some (.map t' es) => mapOk P t = true ∧ hasK n es = false ∧ K .junk ⟨s.t, s.H.set id (some (.map t' (es ++ [(n, x)])))⟩
  | _ => False
def insertA (P : Program) (t : TypeId) (m k x : AV) (s : St) (K : AV → St → Prop) : Prop :=
  match m, k with
  | .map id, .v (.int .i64 n) => insertB P t id n x (blk s.H id) s K
  | _, _ => False
def lookupB (P : Program) (t : TypeId) (n : Int) (b : Option Blk) (s : St) (K : AV → St → Prop) : Prop :=
  match b with
  | some (.map _ es) => mapOk P t = true ∧ optA (findK n es) s K
  | _ => False
def lookupA (P : Program) (t : TypeId) (m k : AV) (s : St) (K : AV → St → Prop) : Prop :=
  match m, k with
  | .map id, .v (.int .i64 n) => lookupB P t n (blk s.H id) s K
  | _, _ => False
/-! ### The program's functions -/
/-- A region in which a map is made: its making and what is put into it may come at any time; what comes ahead and behind. -/
structure Flo where
  pre : List Nat
  y : Nat
  ins : List Nat
  post : List Nat
/-- Orders of a region's operations. -/
inductive OT where
  | done
  | step (i : Nat) (t : OT)
  | fork (a b : OT)
abbrev ExtA := Hp → List AV → Option AV
abbrev Prim := List AV → Hp → (AV → Hp → Prop) → Prop
structure Cfg where
  P : Program
  norms : FuncId → Nat → Norm
  cuts : FuncId → Nat → Option Norm   -- ahead of which regions the state is normed, too
  heap : FuncId → Bool
  prim : FuncId → Option Prim   -- functions told by hand
  ext : FuncId → Option ExtA   -- functions that the model has an entry of its own for
  quiet : FuncId → Bool   -- handed memory, it leaves it as it was
  shp : FuncId → List (List (Option Nat))   -- of each parameter's cells: how wide an element is, where it is a slice
  draws : FuncId → Nat → Option (List Nat)   -- a region that draws its order: the order in which this machine runs it
  drawm : FuncId → Nat → Option OT   -- or the orders
  drawf : FuncId → Nat → Option Flo   -- or the order, with operations that come at any time
  opn : FuncId → Bool   -- its first argument, a row, is told with all that its memory has room for
  cold : FuncId → Bool   -- the rows that it is handed are written by nobody any more
  ice : FuncId → Option (List (List (Option Nat)))   -- what it yields is written by nobody any more; where its cells are slices
  shut : FuncId → Option (TypeId × Nat)   -- the row that it yields is told as long as it is; its elements' type and how wide they are

abbrev Callee := FuncId → List AV → Hp → (AV → Hp → Prop) → Prop

def AV.flat : AV → Bool
  | .v _ => true
  | .tup vs => vs.all fun x => match x with
    | .v _ => true
    | _ => false
  | .ifc _ (.v _) => true
  | .ifc _ (.agg []) => true
  | _ => false
def AV.isRow : AV → Bool
  | .row .. => true
  | _ => false
/-- A value lent to a callee: rows as they stand, no block of one's own. -/
def lend0 (H : Hp) : AV → AV
  | .row id sz off len => borrow H (.row id sz off len)
  | .v x => .v x
  | .nl => .nl
  | .lst sz xs => .lst sz xs
  | .eptr cs => .eptr cs
  | _ => .junk
/-- What a function has captured: a variable as it stands. -/
def lendV (H : Hp) : AV → AV
  | .ptr id f =>
    match blk H id with
    | some (.var _ cs) => .eptr ((cs.drop f).map (lend0 H))
    | _ => .junk
  | x => lend0 H x
def AV.isOwn : AV → Bool
  | .row .. => true
  | .ptr .. => true
  | _ => false
def lend (H : Hp) : AV → AV
  | .agg cs => .agg (cs.map (lend0 H))
  | .fn g a b => .fn g (a.map (lendV H)) (b.map (lendV H))
  | .ifc t x => .ifc t (lend0 H x)
  | x => lend0 H x
def lends : AV → Bool
  | .row .. => true
  | .agg cs => cs.any AV.isRow
  | .fn _ a b => a.any AV.isOwn || b.any AV.isOwn
  | .ifc _ x => x.isRow
  | _ => false
/-- Blocks written over others. -/
def setIds : Hp → List Nat → Hp → Hp
  | H, i :: r, b :: bs => setIds (H.set i b) r bs
  | H, _, _ => H
def backF (n : Nat) (ids : List Nat) (len : Nat) (j : Nat) : Option Nat := if j < n then ids[j]? else some (j - n + len)
/-- Blocks of which everything is told. -/
def stiffC : AV → Bool
  | .v _ => true
  | _ => false
def stiffB : Option Blk → Bool
  | none => true
  | some (.var _ cs) => cs.all stiffC
  | some (.row _ _ _) => false
  | some (.rowc _ _ _ _) => false
  | some (.map _ _) => false
def stiffH : Hp → Bool
  | [] => true
  | b :: r => stiffB b && stiffH r
def quietK (q : Bool) (A B : Hp) (Q : Prop) : Prop :=
  match q with
  | true => stiffH A = true ∧ B = A ∧ Q
  | false => Q
def callR (C : Cfg) (call : Callee) (g : FuncId) (args : List AV) (s : St) (K : AV → St → Prop) : Prop :=
  if C.heap g = true then
    (let ids := reach s.H (s.H.length + 1) 0 (addAll s.H [] (args.flatMap AV.ids1))
     call g (args.map (AV.ren1 (place · ids))) (pickH s.H ids) fun r H' =>
       let f := backF ids.length ids s.H.length
       quietK (C.quiet g) (pickH s.H ids) (H'.take ids.length) (K (r.ren2 f) ⟨s.t, setIds s.H ids ((H'.take ids.length).map fun b => b.map (Blk.ren f)) ++ (H'.drop ids.length).map fun b => b.map (Blk.ren f)⟩))
  else call g (args.map (lend s.H)) [] fun r H' =>
       if r.flat = true then K r s else args.any lends = false ∧
           (let ids := reach H' (H'.length + 1) 0 (addAll H' [] r.ids2)
            let f := fun j => (place j ids).map (· + s.H.length)
            K (r.ren2 f) ⟨s.t, s.H ++ pickR H' f ids⟩)

/-- A nil slice is handed on as a list of nothing. -/
def nilL : Option Nat → AV → AV
  | some sz, .v (.slice none 0 0) => .lst sz []
  | some sz, .nl => .lst sz []
  | _, a => a
def nilLs : List (Option Nat) → List AV → List AV
  | o :: os, c :: cs => nilL o c :: nilLs os cs
  | _, cs => cs
def nilArg : List (Option Nat) → AV → AV
  | os, .agg cs => .agg (nilLs os cs)
  | [o], a => nilL o a
  | _, a => a
def nilArgs : List (List (Option Nat)) → List AV → List AV
  | sh :: shs, a :: as => nilArg sh a :: nilArgs shs as
  | _, as => as
def argsFor (h : Bool) (shs : List (List (Option Nat))) (args : List AV) : List AV :=
  match h with
  | true => args
  | false => nilArgs shs args
def coldA (c : Bool) (args : List AV) (s : St) (K : List AV → St → Prop) : Prop :=
  match c with
  | true => K (args.map (frzV s.H)) ⟨s.t, clr s.H (args.flatMap idsR)⟩
  | false => K args s
def callA (C : Cfg) (call : Callee) (g : FuncId) (args : List AV) (s : St) (K : AV → St → Prop) : Prop :=
  coldA (C.cold g) (argsFor (C.heap g) (C.shp g) args) s fun as s => callR C call g as s K

def pickA (c a b : AV) (s : St) (K : AV → St → Prop) : Prop :=
  match c, a, b with
  | .v (.bool c), .v (.bool x), .v (.bool y) => K (.v (.bool (cond c x y))) s
  | .v (.bool c), x, y => if c = true then K x s else K y s
  | _, _, _ => False
def newVarA (e : TypeId) (cs : Option (List AV)) (s : St) (K : AV → St → Prop) : Prop :=
  match cs with
  | some cs => K (.ptr s.H.length 0) ⟨s.t, s.H ++ [some (.var e cs)]⟩
  | none => False
def placesA (P : Program) (t : TypeId) : Nat → Option (Nat × Nat) :=
  match P.underlying t with
  | some (.struct fs) =>
    match fs.toList.mapM (fun f => (P.info? f.type).map fun i => (f.offset, i.size)) with
    | some ps => fun i => ps.toArray[i]?
    | none => fun _ => none
  | some (.array _ e) =>
    match P.info? e with
    | some ie => fun i => some (i * ie.size, ie.size)
    | none => fun _ => none
  | _ => fun _ => none
def placed (P : Program) (t : TypeId) : Bool :=
  match P.underlying t with
  | some (.struct fs) => (fs.toList.mapM fun f => (P.info? f.type).map fun i => (f.offset, i.size)).isSome
  | some (.array _ e) => (P.info? e).isSome
  | _ => false
def buildA (P : Program) (t : TypeId) (parts : List (Nat × AV)) : Option AV :=
  if placed P t = true then ((zeroC P t).bind fun z => fillsA (placesA P t) z parts).map .agg else none
def elemsA (sh : List Sh) : List (Nat × AV) → List (List AV) → Option (List (List AV))
  | [], xs => some xs
  | (i, x) :: r, xs =>
    match cellsOf x with
    | some c => (normL sh c).bind fun c => if i < xs.length then elemsA sh r (xs.set i c) else none
    | none => none
def buildSliceA (P : Program) (t : TypeId) (len : Nat) (parts : List (Nat × AV)) : Option (TypeId × List (List AV)) :=
  (elemOfS P t).bind fun e => (zeroC P e).bind fun z => if z.length = szOf P e ∧ 0 < szOf P e ∧ len * szOf P e ≤ 16777216 then (normL (shapes P 10 e) z).bind fun z =>
    (elemsA (shapes P 10 e) parts (List.replicate len z)).map fun xs => (e, xs) else none
def newRowA (P : Program) (x : Option (TypeId × List (List AV))) (s : St) (K : AV → St → Prop) : Prop :=
  match x with
  | some (e, xs) => K (.row s.H.length (szOf P e) 0 xs.length) ⟨s.t, s.H ++ [some (.row e (szOf P e) xs)]⟩
  | none => False
def nilA (x : AV) (s : St) (K : AV → St → Prop) : Prop :=
  match x with
  | .ptr id f => K (.ptr id f) s
  | .rptr id sz i f => K (.rptr id sz i f) s
  | .eptr cs => K (.eptr cs) s
  | _ => False
def unA (op : UnOp) (x : AV) (s : St) (K : AV → St → Prop) : Prop :=
  match op, x with
  | .not, .v (.bool b) => K (.v (.bool (!b))) s
  | .neg, .v (.int k n) => K (.v (.int k (k.wrap (0 - n)))) s
  | _, _ => False
def fieldAddrA (P : Program) (t : TypeId) (x : AV) (i : Nat) (K : AV → Prop) : Prop :=
  match fieldOf P t i with
  | some (off, ft) => szOf P ft ≠ 0 ∧ moveA x off K
  | none => False
def fieldB (P : Program) (x : AV) (f : Option (Nat × TypeId)) : Option AV :=
  match x, f with
  | .agg cs, some (off, ft) => ldv P ft cs off
  | _, _ => none
def fieldA (P : Program) (t : TypeId) (x : AV) (i : Nat) : Option AV := fieldB P x (fieldOf P t i)
def extractA (x : AV) (j : Nat) : Option AV :=
  match x with
  | .tup vs => vs[j]?
  | _ => none
def isIface (P : Program) (t : TypeId) : Option Bool :=
  match P.underlying t with
  | some (.interface _) => some true
  | some _ => some false
  | none => none
/-- A value as an interface. -/
def ifcA (P : Program) (t : TypeId) (x : AV) (s : St) (K : AV → St → Prop) : Prop :=
  match isIface P t with
  | some false => K (.ifc t x) s
  | _ => False
/-- A type's zero value. -/
def zeroV (P : Program) (t : TypeId) : Option AV := ((P.info? t).bind (·.zero)).map av
def assertB (P : Program) (x : AV) (t : TypeId) (i : Option Bool) (ok : Bool) : Option AV :=
  match x, i, ok with
  | .ifc t' y, some false, true => if t = t' then some (.tup [y, .v (.bool true)]) else
      (zeroV P t).map fun z => .tup [z, .v (.bool false)]
  | .ifc t' y, some false, false => if t = t' then some y else none
  | _, _, _ => none
def assertA (P : Program) (x : AV) (t : TypeId) (ok : Bool) : Option AV := assertB P x t (isIface P t) ok
def minA (xs : List AV) : Option AV :=
  match xs with
  | [.v (.int k x), .v (.int _ y)] => some (.v (.int k (if y < x then y else x)))
  | _ => none
def callX (C : Cfg) (call : Callee) (e : Option ExtA) (g : FuncId) (args : List AV) (s : St) (K : AV → St → Prop) : Prop :=
  match e with
  | none => callA C call g args s K
  | some e => optA (e s.H args) s K
def callV (C : Cfg) (call : Callee) (f : AV) (args : List AV) (s : St) (K : AV → St → Prop) : Prop :=
  match f with
  | .fn g first cap => callX C call (C.ext g) g (first ++ args ++ cap) s K
  | _ => False
def builtinA (P : Program) (b : Builtin) (ts : List TypeId) (args : List AV) (s : St) (K : AV → St → Prop) : Prop :=
  match b, ts, args with
  | .len, t :: _, [x] => lenA P t x fun r => K r s
  | .min, _, xs => optA (minA xs) s K
  | .append, [t, t'], [x, y] => appendA P t t' x y s K
  | .cap, [t], [x] => capA P t (roomA s.H x) s K
  | .copy, [t, _], [x, y] => copyA P t x y s K
  | .clear, [t], [x] => clearA P t x s K
  | _, _, _ => False
def getO (s : St) : Option Operand → Option AV
  | none => none
  | some x => some (s.get x)

def opA (C : Cfg) (call : Callee) (o : Oper) (s : St) (K : AV → St → Prop) : Prop :=
  match o.op with
  | .move x => K (s.get x) s
  | .assign x => K (s.get x) s
  | .pick c a b => pickA (s.get c) (s.get a) (s.get b) s K
  | .alloc e => newVarA e (zeroC C.P e) s K
  | .box e x => newVarA e (cellsOf (s.get x)) s K
  | .build t parts => optA (buildA C.P t (parts.toList.map fun p => (p.1, s.get p.2))) s K
  | .buildSlice t len parts => newRowA C.P (buildSliceA C.P t len (parts.toList.map fun p => (p.1, frzV s.H (s.get p.2)))) ⟨s.t, clr s.H (idsP s parts.toList)⟩ K
  | .load t a => loadA C.P t (s.get a) s K
  | .store t a x => storeA C.P t (s.get a) (s.get x) s K
  | .nilCheck x => nilA (s.get x) s K
  | .binOp op t x y _ => binA C.P op t (s.get x) (s.get y) fun r => K r s
  | .unOp op _ x => unA op (s.get x) s K
  | .convert src dst x => convA C.P src dst (borrow s.H (s.get x)) fun r => K r s
  | .makeInterface t x => ifcA C.P t (s.get x) s K
  | .makeFunc (.func f) first cap => K (.fn f (first.toList.map s.get) (cap.toList.map s.get)) s
  | .slice t x lo hi mx => sliceA C.P t (s.get x) (getO s lo) (getO s hi) (getO s mx) (roomA s.H (s.get x)) fun r => K r s
  | .makeMap t none => makeMapA C.P t s K
  | .insert t m k x => insertA C.P t (s.get m) (s.get k) (s.get x) s K
  | .lookup t m k false => lookupA C.P t (s.get m) (s.get k) s K
  | .makeSlice t n m => makeA C.P t (s.get n) (s.get m) s K
  | .fieldAddr t x i => fieldAddrA C.P t (s.get x) i fun r => K r s
  | .field t x i => optA (fieldA C.P t (s.get x) i) s K
  | .indexAddr t x i => indexAddrA C.P t (s.get x) (s.get i) fun r => K r s
  | .index t x i => indexA C.P t (s.get x) (s.get i) fun r => K r s
  | .extract x j => optA (extractA (s.get x) j) s K
  | .typeAssert x xt t ok => optA (assertA C.P (s.get x) t ok) s K
  | .call { callee := .builtin b, args, argTypes } => builtinA C.P b argTypes.toList (args.toList.map s.get) s K
  | .call { callee := .value f, args, argTypes := _ } => callV C call (s.get f) (args.toList.map s.get) s K
  | _ => False

def wpOpsA (C : Cfg) (call : Callee) (ops : List Oper) : List Oper → St → (St → Prop) → Prop
  | [], s, K => K s
  | o :: rest, s, K =>
    match o.guard with
    | none => opA C call o s fun r s' => wpOpsA C call ops rest (s'.put o.dst r) K
    | some (j, want) =>
      let d := (ops[j]?).bind (·.dst)
      match d.map s.tmp with
      | some (.v (.bool b)) => if b = want then opA C call o (s.put d (.v (.bool want))) fun r s' => wpOpsA C call ops rest (s'.put o.dst r) K
          else wpOpsA C call ops rest ((s.put d (.v (.bool (!want)))).put o.dst (.v (.tuple #[]))) K
      | some (.v (.tuple _)) => wpOpsA C call ops rest (s.put o.dst (.v (.tuple #[]))) K
      | _ => False

/-- The operations of a region in another order. -/
def pickOps (ops : List Oper) : List Nat → List Oper
  | [] => []
  | i :: r =>
    match ops[i]? with
    | some o => o :: pickOps ops r
    | none => []
def drawT (C : Cfg) (call : Callee) (ops : List Oper) : OT → St → (St → Prop) → Prop
  | .done, s, K => K s
  | .step i t, s, K => wpOpsA C call ops (pickOps ops [i]) s fun s => drawT C call ops t s K
  | .fork a b, s, K => drawT C call ops a s K ∧ drawT C call ops b s K
def partOf (s : St) (op : Op) (l : Option (List (Int × AV))) : Option (List (Int × AV)) :=
  match op, l with
  | .insert _ _ (.const (.int .i64 n)) x, some l => some ((n, s.get x) :: l)
  | _, _ => none
def mapParts (s : St) : List Oper → Option (List (Int × AV))
  | [] => some []
  | o :: r => partOf s o.op (mapParts s r)
def mkMapB (P : Program) (op : Op) (d : Option Nat) (es : Option (List (Int × AV))) (s : St) (K : St → Prop) : Prop :=
  match op, d, es with
  | .makeMap t none, some d, some es => mapOk P t = true ∧ K ⟨(d, .map s.H.length) :: s.t, s.H ++ [some (.map t es)]⟩
  | _, _, _ => False
def mkMapA (P : Program) (o : Option Oper) (es : Option (List (Int × AV))) (s : St) (K : St → Prop) : Prop :=
  match o with
  | some o => mkMapB P o.op o.dst es s K
  | none => False
def drawF (C : Cfg) (call : Callee) (ops : List Oper) (f : Flo) (s : St) (K : St → Prop) : Prop :=
  wpOpsA C call ops (pickOps ops f.pre) (s.put ((ops[f.y]?).bind (·.dst)) .junk) fun s => mkMapA C.P (ops[f.y]?) (mapParts s (pickOps ops f.ins)) s fun s => wpOpsA C call ops (pickOps ops f.post) s K
def drawA (C : Cfg) (call : Callee) (ops : List Oper) (l : Option (List Nat)) (t : Option OT) (f : Option Flo) (s : St) (K : St → Prop) : Prop :=
  match l, t, f with
  | some l, _, _ => wpOpsA C call ops (pickOps ops l) s K
  | none, some t, _ => drawT C call ops t s K
  | none, none, some f => drawF C call ops f s K
  | none, none, none => False

/-! ### When an order stands for all orders -/
/-- looks at no memory -/
def isF0 (o : Oper) : Bool :=
  match o.op with
  | .move _ => true
  | .assign _ => true
  | .pick .. => true
  | .binOp .. => true
  | .unOp .. => true
  | .makeFunc .. => true
  | .makeInterface .. => true
  | .field .. => true
  | .extract .. => true
  | .slice .. => true
  | .fieldAddr .. => true
  | .index .. => true
  | .indexAddr .. => true
  | .nilCheck _ => true
  | .build .. => true
  | .typeAssert .. => true
  | .call { callee := .builtin .len, args := _, argTypes := _ } => true
  | .call { callee := .builtin .min, args := _, argTypes := _ } => true
  | _ => false
/-- reads memory -/
def isF1 (o : Oper) : Bool :=
  match o.op with
  | .load .. => true
  | .convert .. => true
  | _ => false
/-- a new variable that nothing of the region is told of before its turn -/
def isY (o : Oper) : Bool :=
  match o.op with
  | .alloc _ => o.guard.isNone && o.dst.isSome
  | _ => false
/-- memory grows, and nothing that stood changes -/
def isE (C : Cfg) (o : Oper) : Bool :=
  match o.op with
  | .alloc _ => true
  | .box .. => true
  | .buildSlice .. => true
  | .makeMap .. => true
  | .call { callee := .value (.func g), args := _, argTypes := _ } => !C.heap g || C.quiet g
  | _ => false

def rmv (i : Nat) : List Nat → List Nat
  | [] => []
  | k :: r => if k = i then rmv i r else k :: rmv i r
/-- A slot's rows told as they stand: nobody writes them any more. -/
def frzB (id : Nat) (s : St) : Option Blk → St
  | some (.var t cs) => ⟨s.t, (clr s.H (rmv id (cs.flatMap idsR0))).set id (some (.var t (cs.map (frz0 s.H))))⟩
  | _ => s
def frzS (n : Nat) (s : St) (x : AV) : St :=
  match x with
  | .ptr id 0 => frzB id s (blk s.H id)
  | .row id sz off len => ⟨(n, frz0 s.H (.row id sz off len)) :: s.t, clr s.H [id]⟩
  | .agg cs => ⟨(n, .agg (cs.map (frz0 s.H))) :: s.t, clr s.H (cs.flatMap idsR0)⟩
  | _ => s
def frzAll : List Nat → St → St
  | [], s => s
  | n :: r, s => frzAll r (frzS n s (s.tmp n))
def norm (N : Norm) (s : St) : St := normTo N.base N.keep (frzAll N.frz (rowify N.rows s))
/-- A loop: what holds at its head, and a number that each round lowers. -/
def LoopA (B : St → (Exit → St → Prop) → Prop) (N : Norm) (s : St) (Q : Exit → St → Prop) : Prop :=
  ∃ I : Nat → St → Prop, (∃ n, I n s) ∧ ∀ n s, I n s → B s fun e s' => match e with
    | .normal => ∃ n', n' < n ∧ I n' (norm N s')
    | e => Q e (normTo N.base N.out s')

/-- The number of the first region of a piece of code: by it a loop is named. -/
def firstRegion : Code → Nat
  | .region id _ _ => id
  | .seq a _ => firstRegion a
  | .cond _ a _ => firstRegion a
  | .block _ a => firstRegion a
  | .loop a => firstRegion a
  | .scope a => firstRegion a
  | _ => 0

def seqK (k : St → Prop) (Q : Exit → St → Prop) : Exit → St → Prop := fun e s => match e with
  | .normal => k s
  | e => Q e s
def blkK (id : Nat) (Q : Exit → St → Prop) : Exit → St → Prop := fun e s => match e with
  | .exit k => if k = id then Q .normal s else Q (.exit k) s
  | e => Q e s
/-- One piece of code behind another; where it is so said the state is normed between them. -/
def CutSeq (N : Option Norm) (A B : St → (Exit → St → Prop) → Prop) (s : St) (Q : Exit → St → Prop) : Prop :=
  match N with
  | none => A s (seqK (fun s => B s Q) Q)
  | some N => ∃ I : St → Prop, A s (seqK (fun s => I (norm N s)) Q) ∧ ∀ s', I s' → B s' Q
def cutN (nb : Nat) : Option Norm → Option Norm
  | none => none
  | some N => some (withBase nb N)
def wpA (C : Cfg) (f : FuncId) (nb : Nat) (call : Callee) : Code → St → (Exit → St → Prop) → Prop
  | .skip, s, Q => Q .normal s
  | .label _, s, Q => Q .normal s
  | .region _ ops false, s, Q => wpOpsA C call ops.toList ops.toList s (Q .normal)
  | .region id ops true, s, Q => drawA C call ops.toList (C.draws f id) (C.drawm f id) (C.drawf f id) s (Q .normal)
  | .seq a b, s, Q => CutSeq (cutN nb (C.cuts f (firstRegion b))) (wpA C f nb call a) (wpA C f nb call b) s Q
  | .cond c a b, s, Q =>
    match s.get c with
    | .v (.bool x) => if x = true then wpA C f nb call a s Q else wpA C f nb call b s Q
    | _ => False
  | .block id a, s, Q => wpA C f nb call a s (blkK id Q)
  | .loop a, s, Q => LoopA (wpA C f nb call a) (withBase nb (C.norms f (firstRegion a))) (norm (withBase nb (C.norms f (firstRegion a))) s) Q
  | .exit id, s, Q => Q (.exit id) s
  | .scope a, s, Q => wpA C f nb call a s Q
  | .ret, s, Q => Q .ret s
  | _, _, _ => False

def resA (P : Program) (s : St) : List ResultVar → Option (List AV)
  | [] => some []
  | .tmp t :: r => (resA P s r).map fun l => s.tmp t :: l
  | .cell a t :: r =>
    match s.tmp a with
    | .ptr id f =>
      match blk s.H id with
      | some (.var _ cs) => (ldv P t cs f).bind fun x => (resA P s r).map fun l => x :: l
      | _ => none
    | _ => none
def retA (P : Program) (fn : Func) (s : St) (K : AV → Hp → Prop) : Prop :=
  match resA P s fn.results.toList with
  | some [x] => K x s.H
  | some l => K (.tup l) s.H
  | none => False
def enterA (n : Nat) : List AV → List (Nat × AV)
  | [] => []
  | a :: r => (n, a) :: enterA (n + 1) r
def retK (P : Program) (fn : Func) (K : AV → Hp → Prop) : Exit → St → Prop := fun e s => match e with
  | .normal => retA P fn s K
  | .ret => retA P fn s K
  | _ => False
def dstsOk (n : Nat) : Code → Bool
  | .region _ ops _ => ops.toList.all fun o => match o.dst with
    | none => true
    | some d => decide (d < n)
  | .seq a b => dstsOk n a && dstsOk n b
  | .cond _ a b => dstsOk n a && dstsOk n b
  | .block _ a => dstsOk n a
  | .loop a => dstsOk n a
  | .scope a => dstsOk n a
  | _ => true
/-- Is it told to wait for another by an edge that binds? -/
def waitsFor (o : Oper) (i : Nat) : Bool := o.after.any fun e => Region.binds .any e && e.on == i
def readyB (o : Oper) (i : Nat) (listed : List Nat) : Bool := !has i listed && o.after.all fun e => !Region.binds .any e || has e.on listed
/-- Is it told to wait for another, be it by way of others? -/
def waitsT (ops : Array Oper) (i : Nat) (done : List Nat) : Nat → Nat → Bool
  | 0, _ => false
  | n + 1, j => match ops[j]? with
    | some oj => !has j done && !isY oj && oj.after.any fun e => Region.binds .any e && (e.on == i || waitsT ops i done n e.on)
    | none => false
/-- Those that stand beside the one at the head (neither of the two is told to wait) go well with it. -/
def restOk (C : Cfg) (ops : Array Oper) (oi : Oper) (i : Nat) (done : List Nat) : Bool :=
  (List.range ops.size).all fun j => has j done || j == i || match ops[j]? with
    | some oj => waitsFor oj i || (Oper.apart ops oi oj && (isF0 oi || isF0 oj || isF1 oj || isE C oj)) || waitsT ops i done 6 j
    | none => true
/-- At the head is what is not looked at: nothing else may come up but new variables. -/
def aloneOk (ops : Array Oper) (i : Nat) (known : List Nat) : Bool :=
  (List.range ops.size).all fun j => j == i || match ops[j]? with
    | some oj => isY oj || !readyB oj j known
    | none => true
def others (i : Nat) : List Nat → List Nat
  | [] => []
  | y :: r => if y = i then others i r else y :: others i r
def orderOk (C : Cfg) (ops : Array Oper) (ys : List Nat) : List Nat → List Nat → Bool
  | done, [] => (List.range ops.size).all fun j => has j done
  | done, i :: r =>
    match ops[i]? with
    | some oi => readyB oi i done && (if isF0 oi || isF1 oi then restOk C ops oi i done else aloneOk ops i (others i ys ++ done)) && orderOk C ops ys (i :: done) r
    | none => false
/-- A new variable's slot is no other's business till its turn. -/
def varOk (ops : Array Oper) (y : Nat) (oy : Oper) : Bool :=
  (List.range ops.size).all fun j => j == y || match ops[j]? with
    | some oj => !isY oj && (waitsFor oj y || (Oper.apart ops oy oj && Oper.apart ops oj oy))
    | none => true
/-- One new variable at most. -/
def drawOk (C : Cfg) (ops : Array Oper) (l : List Nat) : Bool :=
  Region.noSelect ops && decide (l.length ≤ ops.size) &&
  match (List.range ops.size).find? fun i => match ops[i]? with
    | some o => isY o
    | none => false with
  | none => orderOk C ops [] [] l
  | some y => orderOk C ops [y] [] l && has y l && match ops[y]? with
    | some oy => varOk ops y oy && match oy.op with
      | .alloc e => (zeroC C.P e).isSome
      | _ => false
    | none => false
def headsT : OT → List Nat
  | .done => []
  | .step i _ => [i]
  | .fork a b => headsT a ++ headsT b
def subT (j : Nat) : OT → Option OT
  | .done => none
  | .step i t => if i = j then some t else none
  | .fork a b => match subT j a with
    | some t => some t
    | none => subT j b
/-- Nothing else may come up. -/
def loneOk (ops : Array Oper) (i : Nat) (done : List Nat) : Bool :=
  (List.range ops.size).all fun j => j == i || match ops[j]? with
    | some oj => !readyB oj j done
    | none => true
def treeOk (C : Cfg) (ops : Array Oper) : Nat → List Nat → OT → Bool
  | _, done, .done => (List.range ops.size).all fun j => has j done
  | 0, _, _ => false
  | n + 1, done, .step i t =>
    match ops[i]? with
    | some oi => readyB oi i done && (if isF0 oi || isF1 oi then restOk C ops oi i done || loneOk ops i done else loneOk ops i done) && treeOk C ops n (i :: done) t
    | none => false
  | n + 1, done, .fork a b => ((List.range ops.size).any fun j => match ops[j]? with
      | some oj => readyB oj j done
      | none => false) && (List.range ops.size).all fun j => match ops[j]? with
    | some oj => !readyB oj j done || match subT j (.fork a b) with
      | some t => treeOk C ops n (j :: done) t
      | none => false
    | none => true
def drawmOk (C : Cfg) (ops : Array Oper) (t : OT) : Bool := Region.noSelect ops && treeOk C ops ops.size [] t
/-- Those that stand beside the one at the head go well with it. -/
def restOkF (C : Cfg) (ops : Array Oper) (oi : Oper) (i : Nat) (done : List Nat) : Bool :=
  (List.range ops.size).all fun j => has j done || j == i || match ops[j]? with
    | some oj => waitsFor oj i || (Oper.apart ops oi oj && (isF0 oi || isF0 oj || isF1 oj || isE C oj))
    | none => true
/-- At the head is what is not looked at: nothing else may come up but what may come at any time. -/
def aloneOkF (ops : Array Oper) (i : Nat) (fl known : List Nat) : Bool :=
  (List.range ops.size).all fun j => j == i || has j fl || match ops[j]? with
    | some oj => !readyB oj j known
    | none => true
def orderOkF (C : Cfg) (ops : Array Oper) (fl : List Nat) : List Nat → List Nat → Bool
  | _, [] => true
  | done, i :: r =>
    match ops[i]? with
    | some oi => readyB oi i done && (if isF0 oi || isF1 oi then restOkF C ops oi i done else aloneOkF ops i fl (others i fl ++ done)) && orderOkF C ops fl (i :: done) r
    | none => false
def allDone (ops : Array Oper) (l : List Nat) : Bool := (List.range ops.size).all fun j => has j l
/-- What is put into a map: at which number, which slot it looks at. -/
def insOf (o : Oper) (d : Nat) : Option (Int × Operand) :=
  match o.op, o.dst, o.guard with
  | .insert t (.tmp d') (.const (.int .i64 n)) x, none, none => if d' = d then some (n, x) else none
  | _, _, _ => none
def insOk (C : Cfg) (ops : Array Oper) (y d : Nat) (pre : List Nat) (i : Nat) : Bool :=
  match ops[i]? with
  | some o =>
    match insOf o d with
    | some (n, x) => readyB o i (y :: pre) && waitsFor o y && (match o.op with
      | .insert t _ _ _ => mapOk C.P t
      | _ => false) && match x with
      | .tmp e => (e != d) && (List.range ops.size).all fun j => match ops[j]? with
        | some oj => oj.dst != some e || waitsFor o j
        | none => true
      | _ => true
    | none => false
  | none => false
def keysOf (ops : Array Oper) (d : Nat) (ins : List Nat) : List Int := ins.filterMap fun i => match ops[i]? with
  | some o => (insOf o d).map (·.1)
  | none => none
def freshI : List Int → Bool
  | [] => true
  | n :: r => !r.contains n && freshI r
def freshN : List Nat → Bool
  | [] => true
  | n :: r => !has n r && freshN r
def mapOkF (C : Cfg) (ops : Array Oper) (pre : List Nat) (y : Nat) (ins post : List Nat) : Bool :=
  match ops[y]? with
  | some oy =>
    match oy.op, oy.dst, oy.guard with
    | .makeMap t none, some d, none => mapOk C.P t && (oy.after.all fun e => !Region.binds .any e) && orderOkF C ops (y :: ins) [] pre && ins.all (insOk C ops y d pre) && freshI (keysOf ops d ins) && freshN (y :: (ins ++ pre)) &&
        post.all (fun p => match ops[p]? with
          | some o => (y :: (ins ++ pre)).all fun j => waitsFor o j
          | none => false) &&
        (pre.all fun j => match ops[j]? with
          | some oj => (oj.dst != some d) && Oper.apart ops oy oj && Oper.apart ops oj oy && oj.guard.isNone
          | none => false) && (List.range ops.size).all (fun j => match ops[j]? with
          | some oj => !isY oj
          | none => true) && allDone ops (y :: (ins ++ (pre ++ post))) && orderOk C ops [] (y :: (ins ++ pre)) post
    | _, _, _ => false
  | none => false
def drawfOk (C : Cfg) (ops : Array Oper) (f : Flo) : Bool := Region.noSelect ops && decide ((f.y :: (f.ins ++ (f.pre ++ f.post))).length ≤ ops.size) && mapOkF C ops f.pre f.y f.ins f.post
def drawsOk (C : Cfg) (f : FuncId) : Code → Bool
  | .region id ops true => match C.draws f id with
    | some l => drawOk C ops l
    | none => match C.drawm f id with
      | some t => drawmOk C ops t
      | none => match C.drawf f id with
        | some fl => drawfOk C ops fl
        | none => true
  | .seq a b => drawsOk C f a && drawsOk C f b
  | .cond _ a b => drawsOk C f a && drawsOk C f b
  | .block _ a => drawsOk C f a
  | .loop a => drawsOk C f a
  | .scope a => drawsOk C f a
  | _ => true
def okF (C : Cfg) (g : FuncId) (fn : Func) : Bool :=
  match fn.body with
  | some c => dstsOk fn.ntmps c && drawsOk C g c && C.P.follows .mixedOrders && fn.name != "runtime.NumGoroutine"
  | none => false
/-- A row that is handed in, told with all that its memory has room for. -/
def openA (args : List AV) (H : Hp) (Q : List AV → Hp → Prop) : Prop :=
  match args with
  | .row id sz 0 len :: r =>
    match blk H id with
    | some (.row t sz' xs) => sz' = sz ∧ ∀ c : Nat, xs.length ≤ c → Q (.row H.length sz 0 len :: r) (H.set id none ++ [some (.rowc t sz c xs)])
    | _ => Q args H
  | _ => Q args H
def opensA (b : Bool) (args : List AV) (H : Hp) (Q : List AV → Hp → Prop) : Prop :=
  match b with
  | true => openA args H Q
  | false => Q args H
def shutB (id sz len : Nat) (b : Option Blk) (r : AV) (H : Hp) (K : AV → Hp → Prop) : Prop :=
  match b with
  | some (.row t sz' xs) => sz' = sz ∧ K (.row H.length sz 0 len) (H.set id none ++ [some (.row t sz (xs.take len))])
  | some (.rowc t sz' _ xs) => sz' = sz ∧ len ≤ xs.length ∧ K (.row H.length sz 0 len) (H.set id none ++ [some (.row t sz (xs.take len))])
  | _ => K r H
def shutN (sz : Nat) (t : TypeId) (r : AV) (H : Hp) (K : AV → Hp → Prop) : Prop :=
  match sz with
  | 0 => K r H
  | n + 1 => K (.row H.length (n + 1) 0 0) (H ++ [some (.row t (n + 1) [])])
def shutA (t : TypeId) (sz : Nat) (r : AV) (H : Hp) (K : AV → Hp → Prop) : Prop :=
  match r with
  | .row id sz 0 len => shutB id sz len (blk H id) r H K
  | .v (.slice none 0 0) => shutN sz t r H K
  | .nl => shutN sz t r H K
  | r => K r H
/-- What is reached from a result, behind the blocks that were handed in. -/
def tidyA (nb : Nat) (K : AV → Hp → Prop) (r : AV) (H : Hp) : Prop :=
  let ids := reach H (H.length + 1) 0 (addAll H (rangeL nb) r.ids2)
  K (r.ren2 (place · ids)) (pickH H ids)
def shutsA (b : Option (TypeId × Nat)) (nb : Nat) (K : AV → Hp → Prop) (r : AV) (H : Hp) : Prop :=
  match b with
  | some (t, sz) => shutA t sz r H (tidyA nb K)
  | none => K r H
/-- A part that has no shape stays as it is. -/
def frzL (H : Hp) : List (List (Option Nat)) → List AV → List AV
  | [] :: shs, v :: vs => v :: frzL H shs vs
  | (_ :: _) :: shs, v :: vs => frzV H v :: frzL H shs vs
  | [], vs => vs.map (frzV H)
  | _ :: _, [] => []
def idsL : List (List (Option Nat)) → List AV → List Nat
  | [] :: shs, _ :: vs => idsL shs vs
  | (_ :: _) :: shs, v :: vs => idsR v ++ idsL shs vs
  | [], vs => vs.flatMap idsR
  | _ :: _, [] => []
def frzT (H : Hp) (shs : List (List (Option Nat))) : AV → AV
  | .tup vs => .tup (frzL H shs vs)
  | .junk => .junk
  | .v x => .v x
  | .nl => .nl
  | .ptr id f => .ptr id f
  | .rptr id sz i f => .rptr id sz i f
  | .row id sz off len => frz0 H (.row id sz off len)
  | .lst sz xs => .lst sz xs
  | .eptr cs => .eptr cs
  | .agg cs => .agg (cs.map (frz0 H))
  | .fn f a b => .fn f a b
  | .ifc t x => .ifc t x
  | .map id => .map id
def idsT (shs : List (List (Option Nat))) : AV → List Nat
  | .tup vs => idsL shs vs
  | .junk => []
  | .v _ => []
  | .nl => []
  | .ptr _ _ => []
  | .rptr _ _ _ _ => []
  | .row id _ _ _ => [id]
  | .lst _ _ => []
  | .eptr _ => []
  | .agg cs => cs.flatMap idsR0
  | .fn _ _ _ => []
  | .ifc _ _ => []
  | .map _ => []
def iceV (shs : List (List (Option Nat))) (r : AV) : AV :=
  match shs with
  | [sh] => nilArg sh r
  | shs =>
    match r with
    | .tup vs => .tup (nilArgs shs vs)
    | r => r
def icesA (i : Option (List (List (Option Nat)))) (nb : Nat) (K : AV → Hp → Prop) (r : AV) (H : Hp) : Prop :=
  match i with
  | none => K r H
  | some shs => tidyA nb K (iceV shs (frzT H shs r)) (clr H (idsT shs r))
def bodyA (C : Cfg) (call : Callee) (g : FuncId) (args : List AV) (H : Hp) (K : AV → Hp → Prop) : Prop :=
  match C.P.funcs[g]? with
  | none => False
  | some fn => okF C g fn = true ∧ args.length ≤ fn.ntmps ∧
    match fn.body with
    | none => False
    | some c => (C.heap g || H.isEmpty) = true ∧ opensA (C.opn g) args H fun args H' => wpA C g H.length call c ⟨enterA 0 args, H'⟩ (retK C.P fn (shutsA (C.shut g) H.length (icesA (C.ice g) H.length K)))
def wpF (C : Cfg) : Nat → Callee
  | 0, _, _, _, _ => False
  | n + 1, g, args, H, K =>
    match C.prim g with
    | some c => c args H K
    | none => bodyA C (wpF C n) g args H K
end Go.Ai

/- How simp runs the abstract machine: what is looked at first, and what is not looked into. -/
import Derived.Test.YtmebpmghmghhkaaAiDef
set_option linter.unusedVariables false
namespace Go.Ai
/-- A word that simp always turns: by it a congruence counts as one that has changed something, and simp leaves the continuation alone. -/
def dumA : Nat := 0 + 0
theorem dumA_eq : dumA = 0 := by
  have h : dumA = 0 + 0 := rfl
  omega
section
variable {C : Cfg} {P : Program} {f : FuncId} {nb : Nat} {call : Callee}
@[congr] theorem wpA_congr {c : Code} {s s' : St} {Q : Exit → St → Prop} {dm : Nat} (hdm : dumA = dm) (h : s = s') : wpA C f nb call c s Q = wpA C f nb call c s' Q := by rw [h]
@[congr] theorem wpOpsA_congr {ops l : List Oper} {s s' : St} {K : St → Prop} {dm : Nat} (hdm : dumA = dm) (h : s = s') : wpOpsA C call ops l s K = wpOpsA C call ops l s' K := by rw [h]
@[congr] theorem opA_congr {o : Oper} {s s' : St} {K : AV → St → Prop} {dm : Nat} (hdm : dumA = dm) (h : s = s') : opA C call o s K = opA C call o s' K := by rw [h]
@[congr] theorem callA_congr {g : FuncId} {args args' : List AV} {s s' : St} {K : AV → St → Prop} {dm : Nat} (hdm : dumA = dm) (ha : args = args') (h : s = s') : callA C call g args s K = callA C call g args' s' K := by rw [h, ha]
@[congr] theorem callR_congr {g : FuncId} {args args' : List AV} {s s' : St} {K : AV → St → Prop} {dm : Nat} (hdm : dumA = dm) (ha : args = args') (h : s = s') : callR C call g args s K = callR C call g args' s' K := by rw [h, ha]
@[congr] theorem callX_congr {e e' : Option ExtA} {g : FuncId} {args args' : List AV} {s s' : St} {K : AV → St → Prop} {dm : Nat} (hdm : dumA = dm) (he : e = e') (ha : args = args') (h : s = s') : callX C call e g args s K = callX C call e' g args' s' K := by rw [he, h, ha]
@[congr] theorem wpF_congr {n : Nat} {g : FuncId} {args args' : List AV} {H H' : Hp} {K : AV → Hp → Prop} {dm : Nat} (hdm : dumA = dm) (ha : args = args') (h : H = H') : wpF C n g args H K = wpF C n g args' H' K := by rw [h, ha]
@[congr] theorem quietK_congr {q q' : Bool} {A B : Hp} {Q : Prop} {dm : Nat} (hdm : dumA = dm) (h : q = q') : quietK q A B Q = quietK q' A B Q := by rw [h]
theorem quietK_true (A B : Hp) (Q : Prop) : quietK true A B Q = (stiffH A = true ∧ B = A ∧ Q) := rfl
theorem quietK_false (A B : Hp) (Q : Prop) : quietK false A B Q = Q := rfl
@[congr] theorem LoopA_congr {B : St → (Exit → St → Prop) → Prop} {N N' : Norm} {s s' : St} {Q : Exit → St → Prop} {dm : Nat} (hdm : dumA = dm) (h : s = s') (hN : N = N') : LoopA B N s Q = LoopA B N' s' Q := by rw [h, hN]
@[congr] theorem seqK_congr {k : St → Prop} {Q : Exit → St → Prop} {e e' : Exit} {s s' : St} {dm : Nat} (hdm : dumA = dm) (h : e = e') (h' : s = s') : seqK k Q e s = seqK k Q e' s' := by rw [h, h']
@[congr] theorem blkK_congr {id : Nat} {Q : Exit → St → Prop} {e e' : Exit} {s s' : St} {dm : Nat} (hdm : dumA = dm) (h : e = e') (h' : s = s') : blkK id Q e s = blkK id Q e' s' := by rw [h, h']
@[congr] theorem retK_congr {fn : Func} {K : AV → Hp → Prop} {e e' : Exit} {s s' : St} {dm : Nat} (hdm : dumA = dm) (h : e = e') (h' : s = s') : retK P fn K e s = retK P fn K e' s' := by rw [h, h']
@[congr] theorem retA_congr {fn : Func} {K : AV → Hp → Prop} {s s' : St} {dm : Nat} (hdm : dumA = dm) (h : s = s') : retA P fn s K = retA P fn s' K := by rw [h]
@[congr] theorem binA_congr {op : BinOp} {t : TypeId} {x x' y y' : AV} {K : AV → Prop} {dm : Nat} (hdm : dumA = dm) (h : x = x') (h' : y = y') : binA P op t x y K = binA P op t x' y' K := by rw [h, h']
@[congr] theorem intA_congr {op : BinOp} {k k' : IntKind} {a a' b b' : Int} {K : AV → Prop} {dm : Nat} (hdm : dumA = dm) (h : a = a') (h' : b = b') (hk : k = k') : intA op k a b K = intA op k' a' b' K := by rw [h, h', hk]
@[congr] theorem strA_congr {op : BinOp} {a a' b b' : ByteArray} {K : AV → Prop} {dm : Nat} (hdm : dumA = dm) (h : a = a') (h' : b = b') : strA op a b K = strA op a' b' K := by rw [h, h']
@[congr] theorem loadA_congr {t : TypeId} {a a' : AV} {s s' : St} {K : AV → St → Prop} {dm : Nat} (hdm : dumA = dm) (h : a = a') (h' : s = s') : loadA P t a s K = loadA P t a' s' K := by rw [h, h']
@[congr] theorem storeA_congr {t : TypeId} {a a' x x' : AV} {s s' : St} {K : AV → St → Prop} {dm : Nat} (hdm : dumA = dm) (h : a = a') (h1 : x = x') (h' : s = s') : storeA P t a x s K = storeA P t a' x' s' K := by rw [h, h1, h']
@[congr] theorem sliceL_congr {n n' : Nat} {lo lo' hi hi' : Option AV} {K : Nat → Nat → Prop} {dm : Nat} (hdm : dumA = dm) (h1 : n = n') (h2 : lo = lo') (h3 : hi = hi') : sliceL n lo hi K = sliceL n' lo' hi' K := by rw [h1, h2, h3]
@[congr] theorem sliceA_congr {t : TypeId} {x x' : AV} {lo lo' hi hi' mx mx' : Option AV} {rm rm' : Option Nat} {K : AV → Prop} {dm : Nat} (hdm : dumA = dm) (h : x = x') (h1 : lo = lo') (h2 : hi = hi') (h3 : mx = mx') (h4 : rm = rm') : sliceA P t x lo hi mx rm K = sliceA P t x' lo' hi' mx' rm' K := by rw [h, h1, h2, h3, h4]
@[congr] theorem sliceW_congr {n n' : Nat} {rm rm' : Option Nat} {lo lo' hi hi' : Option AV} {K : Nat → Nat → Prop} {dm : Nat} (hdm : dumA = dm) (h1 : n = n') (h4 : rm = rm') (h2 : lo = lo') (h3 : hi = hi') : sliceW n rm lo hi K = sliceW n' rm' lo' hi' K := by rw [h1, h2, h3, h4]
@[congr] theorem overA_congr {t : TypeId} {x x' : AV} {ys ys' : Option (List (List AV))} {r r' : AV} {s s' : St} {K : AV → St → Prop} {dm : Nat} (hdm : dumA = dm) (h : x = x') (h1 : ys = ys') (h2 : r = r') (h3 : s = s') : overA P t x ys r s K = overA P t x' ys' r' s' K := by rw [h, h1, h2, h3]
@[congr] theorem copyA_congr {t : TypeId} {x x' y y' : AV} {s s' : St} {K : AV → St → Prop} {dm : Nat} (hdm : dumA = dm) (h : x = x') (h1 : y = y') (h3 : s = s') : copyA P t x y s K = copyA P t x' y' s' K := by rw [h, h1, h3]
@[congr] theorem clearA_congr {t : TypeId} {x x' : AV} {s s' : St} {K : AV → St → Prop} {dm : Nat} (hdm : dumA = dm) (h : x = x') (h3 : s = s') : clearA P t x s K = clearA P t x' s' K := by rw [h, h3]
@[congr] theorem capA_congr {t : TypeId} {rm rm' : Option Nat} {s s' : St} {K : AV → St → Prop} {dm : Nat} (hdm : dumA = dm) (h : rm = rm') (h3 : s = s') : capA P t rm s K = capA P t rm' s' K := by rw [h, h3]
@[congr] theorem makeA_congr {t : TypeId} {n n' m m' : AV} {s s' : St} {K : AV → St → Prop} {dm : Nat} (hdm : dumA = dm) (h : n = n') (h1 : m = m') (h3 : s = s') : makeA P t n m s K = makeA P t n' m' s' K := by rw [h, h1, h3]
@[congr] theorem makeB_congr {e : TypeId} {sz : Nat} {xs xs' : Option (List (List AV))} {s s' : St} {K : AV → St → Prop} {dm : Nat} (hdm : dumA = dm) (h : xs = xs') (h3 : s = s') : makeB e sz xs s K = makeB e sz xs' s' K := by rw [h, h3]
@[congr] theorem coldA_congr {c c' : Bool} {args args' : List AV} {s s' : St} {K : List AV → St → Prop} {dm : Nat} (hdm : dumA = dm) (h : c = c') (ha : args = args') (hs : s = s') : coldA c args s K = coldA c' args' s' K := by rw [h, ha, hs]
@[congr] theorem opensA_congr {b b' : Bool} {args : List AV} {H : Hp} {Q : List AV → Hp → Prop} {dm : Nat} (hdm : dumA = dm) (h : b = b') : opensA b args H Q = opensA b' args H Q := by rw [h]
@[congr] theorem shutsA_congr {b b' : Option (TypeId × Nat)} {nb nb' : Nat} {K : AV → Hp → Prop} {r r' : AV} {H H' : Hp} {dm : Nat} (hdm : dumA = dm) (h : b = b') (hn : nb = nb') (h1 : r = r') (h2 : H = H') : shutsA b nb K r H = shutsA b' nb' K r' H' := by rw [h, hn, h1, h2]
@[congr] theorem icesA_congr {b b' : Option (List (List (Option Nat)))} {nb nb' : Nat} {K : AV → Hp → Prop} {r r' : AV} {H H' : Hp} {dm : Nat} (hdm : dumA = dm) (h : b = b') (hn : nb = nb') (h1 : r = r') (h2 : H = H') : icesA b nb K r H = icesA b' nb' K r' H' := by rw [h, hn, h1, h2]
@[congr] theorem tidyA_congr {nb nb' : Nat} {K : AV → Hp → Prop} {r r' : AV} {H H' : Hp} {dm : Nat} (hdm : dumA = dm) (hn : nb = nb') (h1 : r = r') (h2 : H = H') : tidyA nb K r H = tidyA nb' K r' H' := by rw [hn, h1, h2]
@[congr] theorem shutB_congr {id sz sz' len len' : Nat} {b b' : Option Blk} {r r' : AV} {H H' : Hp} {K : AV → Hp → Prop} {dm : Nat} (hdm : dumA = dm) (h0 : sz = sz') (hl : len = len') (h : b = b') (h1 : r = r') (h2 : H = H') : shutB id sz len b r H K = shutB id sz' len' b' r' H' K := by rw [h0, hl, h, h1, h2]
@[congr] theorem makeMapA_congr {t : TypeId} {s s' : St} {K : AV → St → Prop} {dm : Nat} (hdm : dumA = dm) (h3 : s = s') : makeMapA P t s K = makeMapA P t s' K := by rw [h3]
@[congr] theorem insertA_congr {t : TypeId} {m m' k k' x x' : AV} {s s' : St} {K : AV → St → Prop} {dm : Nat} (hdm : dumA = dm) (h : m = m') (h1 : k = k') (h2 : x = x') (h3 : s = s') : insertA P t m k x s K = insertA P t m' k' x' s' K := by rw [h, h1, h2, h3]
@[congr] theorem insertB_congr {t : TypeId} {id id' : Nat} {n n' : Int} {x x' : AV} {b b' : Option Blk} {s s' : St} {K : AV → St → Prop} {dm : Nat} (hdm : dumA = dm) (h : id = id') (h1 : n = n') (h2 : x = x') (hb : b = b') (h3 : s = s') : insertB P t id n x b s K = insertB P t id' n' x' b' s' K := by rw [h, h1, h2, hb, h3]
@[congr] theorem lookupA_congr {t : TypeId} {m m' k k' : AV} {s s' : St} {K : AV → St → Prop} {dm : Nat} (hdm : dumA = dm) (h : m = m') (h1 : k = k') (h3 : s = s') : lookupA P t m k s K = lookupA P t m' k' s' K := by rw [h, h1, h3]
@[congr] theorem lookupB_congr {t : TypeId} {n n' : Int} {b b' : Option Blk} {s s' : St} {K : AV → St → Prop} {dm : Nat} (hdm : dumA = dm) (h1 : n = n') (hb : b = b') (h3 : s = s') : lookupB P t n b s K = lookupB P t n' b' s' K := by rw [h1, hb, h3]
@[congr] theorem mkMapA_congr {o o' : Option Oper} {es es' : Option (List (Int × AV))} {s s' : St} {K : St → Prop} {dm : Nat} (hdm : dumA = dm) (h : o = o') (h1 : es = es') (h3 : s = s') : mkMapA P o es s K = mkMapA P o' es' s' K := by rw [h, h1, h3]
@[congr] theorem moveA_congr {x x' : AV} {n n' : Nat} {K : AV → Prop} {dm : Nat} (hdm : dumA = dm) (h : x = x') (h' : n = n') : moveA x n K = moveA x' n' K := by rw [h, h']
@[congr] theorem indexAddrA_congr {t : TypeId} {x x' i i' : AV} {K : AV → Prop} {dm : Nat} (hdm : dumA = dm) (h : x = x') (h' : i = i') : indexAddrA P t x i K = indexAddrA P t x' i' K := by rw [h, h']
@[congr] theorem indexA_congr {t : TypeId} {x x' i i' : AV} {K : AV → Prop} {dm : Nat} (hdm : dumA = dm) (h : x = x') (h' : i = i') : indexA P t x i K = indexA P t x' i' K := by rw [h, h']
@[congr] theorem convA_congr {t u : TypeId} {x x' : AV} {K : AV → Prop} {dm : Nat} (hdm : dumA = dm) (h : x = x') : convA P t u x K = convA P t u x' K := by rw [h]
@[congr] theorem appendA_congr {t tx : TypeId} {x x' y y' : AV} {s s' : St} {K : AV → St → Prop} {dm : Nat} (hdm : dumA = dm) (h : x = x') (h1 : y = y') (h' : s = s') : appendA P t tx x y s K = appendA P t tx x' y' s' K := by rw [h, h1, h']
@[congr] theorem lenA_congr {t : TypeId} {x x' : AV} {K : AV → Prop} {dm : Nat} (hdm : dumA = dm) (h' : x = x') : lenA P t x K = lenA P t x' K := by rw [h']
end

/-! the code, step by step -/
section
variable (C : Cfg) (f : FuncId) (nb : Nat) (call : Callee) (Q : Exit → St → Prop) (s : St)
theorem wpA_skip : wpA C f nb call .skip s Q = Q .normal s := rfl
theorem wpA_label (l : Nat) : wpA C f nb call (.label l) s Q = Q .normal s := rfl
theorem wpA_region (id : Nat) (ops : List Oper) : wpA C f nb call (.region id ⟨ops⟩ false) s Q = wpOpsA C call ops ops s (Q .normal) := rfl
theorem wpA_region_draw (id : Nat) (ops : List Oper) : wpA C f nb call (.region id ⟨ops⟩ true) s Q = drawA C call ops (C.draws f id) (C.drawm f id) (C.drawf f id) s (Q .normal) := rfl
def drawB (C : Cfg) (call : Callee) (ops l : List Oper) (s : St) (K : St → Prop) : Prop := wpOpsA C call ops l s K
theorem drawA_some (ops : List Oper) (l : List Nat) (t : Option OT) (fl : Option Flo) (K : St → Prop) : drawA C call ops (some l) t fl s K = drawB C call ops (pickOps ops l) s K := by cases t <;> cases fl <;> rfl
theorem drawA_map (ops : List Oper) (pre ins post : List Nat) (y : Nat) (K : St → Prop) : drawA C call ops none none (some ⟨pre, y, ins, post⟩) s K = drawB C call ops (pickOps ops pre) (s.put ((ops[y]?).bind (·.dst)) .junk) fun s => mkMapA C.P (ops[y]?) (mapParts s (pickOps ops ins)) s fun s => drawB C call ops (pickOps ops post) s K := rfl
theorem drawA_tree (ops : List Oper) (t : OT) (fl : Option Flo) (K : St → Prop) : drawA C call ops none (some t) fl s K = drawT C call ops t s K := by cases fl <;> rfl
theorem drawT_done (ops : List Oper) (K : St → Prop) : drawT C call ops .done s K = K s := rfl
theorem drawT_step (ops : List Oper) (i : Nat) (t : OT) (K : St → Prop) : drawT C call ops (.step i t) s K = drawB C call ops (pickOps ops [i]) s fun s => drawT C call ops t s K := rfl
theorem drawT_fork (ops : List Oper) (a b : OT) (K : St → Prop) : drawT C call ops (.fork a b) s K = (drawT C call ops a s K ∧ drawT C call ops b s K) := rfl
theorem drawB_nil (ops : List Oper) (K : St → Prop) : drawB C call ops [] s K = wpOpsA C call ops [] s K := rfl
theorem drawB_cons (ops : List Oper) (o : Oper) (l : List Oper) (K : St → Prop) : drawB C call ops (o :: l) s K = wpOpsA C call ops (o :: l) s K := rfl
theorem wpA_seq (a b : Code) : wpA C f nb call (.seq a b) s Q = CutSeq (cutN nb (C.cuts f (firstRegion b))) (wpA C f nb call a) (wpA C f nb call b) s Q := rfl
@[congr] theorem CutSeq_congr {N N' : Option Norm} {A B : St → (Exit → St → Prop) → Prop} {s : St} {Q : Exit → St → Prop} {dm : Nat} (hdm : dumA = dm) (h : N = N') : CutSeq N A B s Q = CutSeq N' A B s Q := by rw [h]
theorem cutSeq_none (A B : St → (Exit → St → Prop) → Prop) (s : St) (Q : Exit → St → Prop) : CutSeq none A B s Q = A s (seqK (fun s => B s Q) Q) := rfl
end
@[congr] theorem drawB_congr {C : Cfg} {call : Callee} {ops l l' : List Oper} {s s' : St} {K : St → Prop} {dm : Nat} (hdm : dumA = dm) (h : l = l') (h1 : s = s') : drawB C call ops l s K = drawB C call ops l' s' K := by rw [h, h1]
@[congr] theorem drawA_congr {C : Cfg} {call : Callee} {ops : List Oper} {l l' : Option (List Nat)} {t t' : Option OT} {fl fl' : Option Flo} {s : St} {K : St → Prop} {dm : Nat} (hdm : dumA = dm) (h : l = l') (ht : t = t') (hf : fl = fl') : drawA C call ops l t fl s K = drawA C call ops l' t' fl' s K := by rw [h, ht, hf]
@[congr] theorem drawT_congr {C : Cfg} {call : Callee} {ops : List Oper} {t : OT} {s s' : St} {K : St → Prop} {dm : Nat} (hdm : dumA = dm) (h : s = s') : drawT C call ops t s K = drawT C call ops t s' K := by rw [h]
@[congr] theorem IF_congr {b b' : Bool} {A B : Prop} {dm : Nat} (hdm : dumA = dm) (h : b = b') : IF b A B = IF b' A B := by rw [h]
theorem IF_true (A B : Prop) : IF true A B = A := rfl
theorem IF_false (A B : Prop) : IF false A B = B := rfl
theorem IF_of {b : Bool} {A B : Prop} (hA : b = true → A) (hB : b = false → B) : IF b A B := by
  cases b
  · exact hB rfl
  · exact hA rfl
section
variable (C : Cfg) (f : FuncId) (nb : Nat) (call : Callee) (Q : Exit → St → Prop) (s : St)
/-- A test, its outcome told. -/
def condA (c : AV) (A B : Prop) : Prop := match c with
    | .v (.bool x) => if x = true then A else B
    | _ => False
theorem wpA_cond (c : Operand) (a b : Code) : wpA C f nb call (.cond c a b) s Q = condA (s.get c) (wpA C f nb call a s Q) (wpA C f nb call b s Q) := rfl
theorem wpA_block (id : Nat) (a : Code) : wpA C f nb call (.block id a) s Q = wpA C f nb call a s (blkK id Q) := rfl
theorem wpA_loop (a : Code) : wpA C f nb call (.loop a) s Q = LoopA (wpA C f nb call a) (withBase nb (C.norms f (firstRegion a))) (norm (withBase nb (C.norms f (firstRegion a))) s) Q := rfl
theorem wpA_exit (id : Nat) : wpA C f nb call (.exit id) s Q = Q (.exit id) s := rfl
theorem wpA_scope (a : Code) : wpA C f nb call (.scope a) s Q = wpA C f nb call a s Q := rfl
theorem wpA_ret : wpA C f nb call .ret s Q = Q .ret s := rfl
theorem seqK_normal (k : St → Prop) : seqK k Q .normal s = k s := rfl
theorem seqK_ret (k : St → Prop) : seqK k Q .ret s = Q .ret s := rfl
theorem seqK_exit (k : St → Prop) (id : Nat) : seqK k Q (.exit id) s = Q (.exit id) s := rfl
theorem blkK_normal (id : Nat) : blkK id Q .normal s = Q .normal s := rfl
theorem blkK_ret (id : Nat) : blkK id Q .ret s = Q .ret s := rfl
theorem blkK_exit (id k : Nat) : blkK id Q (.exit k) s = if k = id then Q .normal s else Q (.exit k) s := rfl
theorem retK_normal (P : Program) (fn : Func) (K : AV → Hp → Prop) : retK P fn K .normal s = retA P fn s K := rfl
theorem retK_ret (P : Program) (fn : Func) (K : AV → Hp → Prop) : retK P fn K .ret s = retA P fn s K := rfl
end
@[congr] theorem condA_congr {c c' : AV} {A B : Prop} {dm : Nat} (hdm : dumA = dm) (h : c = c') : condA c A B = condA c' A B := by rw [h]
theorem condA_bool (b : Bool) (A B : Prop) : condA (.v (.bool b)) A B = IF b A B := rfl

section
variable (C : Cfg) (call : Callee) (ops : List Oper) (rest : List Oper) (s : St) (K : St → Prop)
theorem wpOpsA_nil : wpOpsA C call ops [] s K = K s := rfl
theorem wpOpsA_cons (d : Option Nat) (op : Op) (ty : TypeId) (p : String) (af : Array Edge) :
    wpOpsA C call ops ({ dst := d, op := op, type := ty, pos := p, after := af, guard := none } :: rest) s K =
      opA C call { dst := d, op := op, type := ty, pos := p, after := af, guard := none } s fun r s' => wpOpsA C call ops rest (s'.put d r) K := rfl
/-- A guard, its outcome told. -/
def guardA (g : Option AV) (want : Bool) (A B D : Prop) : Prop := match g with
    | some (.v (.bool b)) => if b = want then A else B
    | some (.v (.tuple _)) => D
    | _ => False
theorem wpOpsA_guard (d : Option Nat) (op : Op) (ty : TypeId) (p : String) (af : Array Edge) (j : Nat) (want : Bool) :
    wpOpsA C call ops ({ dst := d, op := op, type := ty, pos := p, after := af, guard := some (j, want) } :: rest) s K =
      guardA (((ops[j]?).bind (·.dst)).map s.tmp) want (opA C call { dst := d, op := op, type := ty, pos := p, after := af, guard := some (j, want) } (s.put ((ops[j]?).bind (·.dst)) (.v (.bool want))) fun r s' => wpOpsA C call ops rest (s'.put d r) K)
        (wpOpsA C call ops rest ((s.put ((ops[j]?).bind (·.dst)) (.v (.bool (!want)))).put d (.v (.tuple #[]))) K)
        (wpOpsA C call ops rest (s.put d (.v (.tuple #[]))) K) := rfl
end
@[congr] theorem guardA_congr {g g' : Option AV} {w : Bool} {A B D : Prop} {dm : Nat} (hdm : dumA = dm) (h : g = g') : guardA g w A B D = guardA g' w A B D := by rw [h]
theorem guardA_true (b : Bool) (A B D : Prop) : guardA (some (.v (.bool b))) true A B D = IF b A B := rfl
theorem guardA_false (b : Bool) (A B D : Prop) : guardA (some (.v (.bool b))) false A B D = IF b B A := by cases b <;> simp [guardA, IF]
theorem guardA_undef (w : Bool) (A B D : Prop) : guardA (some (.v (.tuple #[]))) w A B D = D := rfl

theorem partOf_insert (s : St) (t : TypeId) (m x : Operand) (n : Int) (l : List (Int × AV)) : partOf s (.insert t m (.const (.int .i64 n)) x) (some l) = some ((n, s.get x) :: l) := rfl
theorem mapParts_nil (s : St) : mapParts s [] = some [] := rfl
theorem mapParts_cons (s : St) (d : Option Nat) (op : Op) (ty : TypeId) (p : String) (af : Array Edge) (g : Option (Nat × Bool)) (r : List Oper) : mapParts s (⟨d, op, ty, p, af, g⟩ :: r) = partOf s op (mapParts s r) := rfl
theorem mkMapA_some (P : Program) (d : Nat) (t ty : TypeId) (p : String) (af : Array Edge) (g : Option (Nat × Bool)) (es : List (Int × AV)) (s : St) (K : St → Prop) : mkMapA P (some ⟨some d, .makeMap t none, ty, p, af, g⟩) (some es) s K = (mapOk P t = true ∧ K ⟨(d, .map s.H.length) :: s.t, s.H ++ [some (.map t es)]⟩) := rfl

/-! the operations -/
section
variable (C : Cfg) (call : Callee) (s : St) (K : AV → St → Prop) (d : Option Nat) (ty : TypeId) (p : String) (af : Array Edge) (g : Option (Nat × Bool))
theorem opA_move (x : Operand) : opA C call ⟨d, .move x, ty, p, af, g⟩ s K = K (s.get x) s := rfl
theorem opA_assign (x : Operand) : opA C call ⟨d, .assign x, ty, p, af, g⟩ s K = K (s.get x) s := rfl
theorem opA_pick (c a b : Operand) : opA C call ⟨d, .pick c a b, ty, p, af, g⟩ s K = pickA (s.get c) (s.get a) (s.get b) s K := rfl
theorem opA_alloc (e : TypeId) : opA C call ⟨d, .alloc e, ty, p, af, g⟩ s K = newVarA e (zeroC C.P e) s K := rfl
theorem opA_box (e : TypeId) (x : Operand) : opA C call ⟨d, .box e x, ty, p, af, g⟩ s K = newVarA e (cellsOf (s.get x)) s K := rfl
theorem opA_build (t : TypeId) (parts : List (Nat × Operand)) : opA C call ⟨d, .build t ⟨parts⟩, ty, p, af, g⟩ s K = optA (buildA C.P t (parts.map fun p => (p.1, s.get p.2))) s K := rfl
theorem opA_buildSlice (t : TypeId) (len : Nat) (parts : List (Nat × Operand)) : opA C call ⟨d, .buildSlice t len ⟨parts⟩, ty, p, af, g⟩ s K = newRowA C.P (buildSliceA C.P t len (parts.map fun p => (p.1, frzV s.H (s.get p.2)))) ⟨s.t, clr s.H (idsP s parts)⟩ K := rfl
theorem opA_load (t : TypeId) (a : Operand) : opA C call ⟨d, .load t a, ty, p, af, g⟩ s K = loadA C.P t (s.get a) s K := rfl
theorem opA_store (t : TypeId) (a x : Operand) : opA C call ⟨d, .store t a x, ty, p, af, g⟩ s K = storeA C.P t (s.get a) (s.get x) s K := rfl
theorem opA_nilCheck (x : Operand) : opA C call ⟨d, .nilCheck x, ty, p, af, g⟩ s K = nilA (s.get x) s K := rfl
theorem opA_binOp (op : BinOp) (t u : TypeId) (x y : Operand) : opA C call ⟨d, .binOp op t x y u, ty, p, af, g⟩ s K = binA C.P op t (s.get x) (s.get y) fun r => K r s := rfl
theorem opA_unOp (op : UnOp) (t : TypeId) (x : Operand) : opA C call ⟨d, .unOp op t x, ty, p, af, g⟩ s K = unA op (s.get x) s K := rfl
theorem opA_convert (t u : TypeId) (x : Operand) : opA C call ⟨d, .convert t u x, ty, p, af, g⟩ s K = convA C.P t u (borrow s.H (s.get x)) fun r => K r s := rfl
theorem opA_makeInterface (t : TypeId) (x : Operand) : opA C call ⟨d, .makeInterface t x, ty, p, af, g⟩ s K = ifcA C.P t (s.get x) s K := rfl
theorem opA_makeFunc (f : FuncId) (a b : List Operand) : opA C call ⟨d, .makeFunc (.func f) ⟨a⟩ ⟨b⟩, ty, p, af, g⟩ s K = K (.fn f (a.map s.get) (b.map s.get)) s := rfl
theorem opA_slice (t : TypeId) (x : Operand) (lo hi mx : Option Operand) : opA C call ⟨d, .slice t x lo hi mx, ty, p, af, g⟩ s K = sliceA C.P t (s.get x) (getO s lo) (getO s hi) (getO s mx) (roomA s.H (s.get x)) fun r => K r s := rfl
theorem opA_makeMap (t : TypeId) : opA C call ⟨d, .makeMap t none, ty, p, af, g⟩ s K = makeMapA C.P t s K := rfl
theorem opA_insert (t : TypeId) (m k x : Operand) : opA C call ⟨d, .insert t m k x, ty, p, af, g⟩ s K = insertA C.P t (s.get m) (s.get k) (s.get x) s K := rfl
theorem opA_lookup (t : TypeId) (m k : Operand) : opA C call ⟨d, .lookup t m k false, ty, p, af, g⟩ s K = lookupA C.P t (s.get m) (s.get k) s K := rfl
theorem opA_makeSlice (t : TypeId) (n m : Operand) : opA C call ⟨d, .makeSlice t n m, ty, p, af, g⟩ s K = makeA C.P t (s.get n) (s.get m) s K := rfl
theorem opA_fieldAddr (t : TypeId) (x : Operand) (i : Nat) : opA C call ⟨d, .fieldAddr t x i, ty, p, af, g⟩ s K = fieldAddrA C.P t (s.get x) i fun r => K r s := rfl
theorem opA_field (t : TypeId) (x : Operand) (i : Nat) : opA C call ⟨d, .field t x i, ty, p, af, g⟩ s K = optA (fieldA C.P t (s.get x) i) s K := rfl
theorem opA_indexAddr (t : TypeId) (x i : Operand) : opA C call ⟨d, .indexAddr t x i, ty, p, af, g⟩ s K = indexAddrA C.P t (s.get x) (s.get i) fun r => K r s := rfl
theorem opA_index (t : TypeId) (x i : Operand) : opA C call ⟨d, .index t x i, ty, p, af, g⟩ s K = indexA C.P t (s.get x) (s.get i) fun r => K r s := rfl
theorem opA_extract (x : Operand) (j : Nat) : opA C call ⟨d, .extract x j, ty, p, af, g⟩ s K = optA (extractA (s.get x) j) s K := rfl
theorem opA_typeAssert (x : Operand) (t u : TypeId) (ok : Bool) : opA C call ⟨d, .typeAssert x t u ok, ty, p, af, g⟩ s K = optA (assertA C.P (s.get x) u ok) s K := rfl
theorem opA_builtin (b : Builtin) (args : List Operand) (ts : List TypeId) : opA C call ⟨d, .call { callee := .builtin b, args := ⟨args⟩, argTypes := ⟨ts⟩ }, ty, p, af, g⟩ s K = builtinA C.P b ts (args.map s.get) s K := rfl
theorem opA_call (x : Operand) (args : List Operand) (ts : List TypeId) : opA C call ⟨d, .call { callee := .value x, args := ⟨args⟩, argTypes := ⟨ts⟩ }, ty, p, af, g⟩ s K = callV C call (s.get x) (args.map s.get) s K := rfl
end
section
variable {P : Program} {C : Cfg} {call : Callee} {s s' : St} {K : AV → St → Prop}
@[congr] theorem pickA_congr {c c' a a' b b' : AV} {dm : Nat} (hdm : dumA = dm) (h1 : c = c') (h2 : a = a') (h3 : b = b') (h : s = s') : pickA c a b s K = pickA c' a' b' s' K := by rw [h1, h2, h3, h]
@[congr] theorem optA_congr {x x' : Option AV} {dm : Nat} (hdm : dumA = dm) (h1 : x = x') (h : s = s') : optA x s K = optA x' s' K := by rw [h1, h]
@[congr] theorem newVarA_congr {e : TypeId} {x x' : Option (List AV)} {dm : Nat} (hdm : dumA = dm) (h1 : x = x') (h : s = s') : newVarA e x s K = newVarA e x' s' K := by rw [h1, h]
@[congr] theorem newRowA_congr {x x' : Option (TypeId × List (List AV))} {dm : Nat} (hdm : dumA = dm) (h1 : x = x') (h : s = s') : newRowA P x s K = newRowA P x' s' K := by rw [h1, h]
@[congr] theorem nilA_congr {x x' : AV} {dm : Nat} (hdm : dumA = dm) (h1 : x = x') (h : s = s') : nilA x s K = nilA x' s' K := by rw [h1, h]
@[congr] theorem unA_congr {op : UnOp} {x x' : AV} {dm : Nat} (hdm : dumA = dm) (h1 : x = x') (h : s = s') : unA op x s K = unA op x' s' K := by rw [h1, h]
@[congr] theorem ifcA_congr {t : TypeId} {x x' : AV} {dm : Nat} (hdm : dumA = dm) (h1 : x = x') (h : s = s') : ifcA P t x s K = ifcA P t x' s' K := by rw [h1, h]
@[congr] theorem storeC_congr {P : Program} {t : TypeId} {a a' : AV} {x x' : Option (List AV)} {s s' : St} {K : AV → St → Prop} {dm : Nat} (hdm : dumA = dm) (h : a = a') (h1 : x = x') (h' : s = s') : storeC P t a x s K = storeC P t a' x' s' K := by rw [h, h1, h']
@[congr] theorem optV_congr {x x' : Option AV} {K : AV → Prop} {dm : Nat} (hdm : dumA = dm) (h1 : x = x') : optV x K = optV x' K := by rw [h1]
@[congr] theorem storeR_congr {e : TypeId} {sz : Nat} {xs xs' : List (List AV)} {i f : Nat} {cs cs' : List AV} {id : Nat} {c c' : Option (List AV)} {s s' : St} {K : AV → St → Prop} {dm : Nat} (hdm : dumA = dm) (h : xs = xs') (h1 : cs = cs') (h2 : c = c') (h3 : s = s') : storeR e sz xs i f cs id c s K = storeR e sz xs' i f cs' id c' s' K := by rw [h, h1, h2, h3]
@[congr] theorem appendB_congr {P : Program} {e : TypeId} {x x' : AV} {y y' : Option (List (List AV))} {s s' : St} {K : AV → St → Prop} {dm : Nat} (hdm : dumA = dm) (h : x = x') (h1 : y = y') (h' : s = s') : appendB P e x y s K = appendB P e x' y' s' K := by rw [h, h1, h']
@[congr] theorem aggEq_congr {op : BinOp} {b b' : Option Bool} {K : AV → Prop} {dm : Nat} (hdm : dumA = dm) (h : b = b') : aggEq op b K = aggEq op b' K := by rw [h]
@[congr] theorem fieldAddrA_congr {t : TypeId} {x x' : AV} {i : Nat} {K : AV → Prop} {dm : Nat} (hdm : dumA = dm) (h1 : x = x') : fieldAddrA P t x i K = fieldAddrA P t x' i K := by rw [h1]
@[congr] theorem callV_congr {f f' : AV} {args args' : List AV} {dm : Nat} (hdm : dumA = dm) (h1 : f = f') (h2 : args = args') (h : s = s') : callV C call f args s K = callV C call f' args' s' K := by rw [h1, h2, h]
@[congr] theorem builtinA_congr {b : Builtin} {ts : List TypeId} {args args' : List AV} {dm : Nat} (hdm : dumA = dm) (h2 : args = args') (h : s = s') : builtinA P b ts args s K = builtinA P b ts args' s' K := by rw [h2, h]
end
/-- What holds behind a round. -/
def roundK (I : Nat → St → Prop) (N : Norm) (n : Nat) (Q : Exit → St → Prop) : Exit → St → Prop := fun e s' => match e with
    | .normal => ∃ n', n' < n ∧ I n' (norm N s')
    | e => Q e (normTo N.base N.out s')
theorem loop_of {B : St → (Exit → St → Prop) → Prop} {N : Norm} {s : St} {Q : Exit → St → Prop} (I : Nat → St → Prop) (n : Nat) (h0 : I n s) (h : ∀ n s, I n s → B s (roundK I N n Q)) : LoopA B N s Q := ⟨I, ⟨n, h0⟩, h⟩
section
variable (I : Nat → St → Prop) (N : Norm) (n : Nat) (Q : Exit → St → Prop) (s : St)
theorem roundK_normal : roundK I N n Q .normal s = ∃ n', n' < n ∧ I n' (norm N s) := rfl
theorem roundK_ret : roundK I N n Q .ret s = Q .ret (normTo N.base N.out s) := rfl
theorem roundK_exit (id : Nat) : roundK I N n Q (.exit id) s = Q (.exit id) (normTo N.base N.out s) := rfl
end

/-! an element of a row, its cells told one by one -/
def getSh (sh : List Sh) (x : Option (List AV)) (K : List AV → Prop) : Prop := exSh sh fun cs => x = some cs ∧ K cs
@[congr] theorem getSh_congr {sh sh' : List Sh} {x x' : Option (List AV)} {K : List AV → Prop} {dm : Nat} (hdm : dumA = dm) (h : sh = sh') (h1 : x = x') : getSh sh x K = getSh sh' x' K := by rw [h, h1]
def fitC : Sh → AV → Prop
  | .int k, .v (.int k' _) => k = k'
  | .bool, .v (.bool _) => True
  | .str, .v (.string _) => True
  | .sl sz, .lst sz' _ => sz = sz'
  | .other, _ => True
  | _, _ => False
def fitSh : List Sh → List AV → Prop
  | [], [] => True
  | s :: r, c :: cs => fitC s c ∧ fitSh r cs
  | _, _ => False
theorem fitSh_nil : fitSh [] [] = True := rfl
theorem fitSh_cons (s : Sh) (r : List Sh) (c : AV) (cs : List AV) : fitSh (s :: r) (c :: cs) = (fitC s c ∧ fitSh r cs) := rfl
theorem fitC_int (k k' : IntKind) (n : Int) : fitC (.int k) (.v (.int k' n)) = (k = k') := rfl
theorem fitC_bool (b : Bool) : fitC .bool (.v (.bool b)) = True := rfl
theorem fitC_str (b : ByteArray) : fitC .str (.v (.string b)) = True := rfl
theorem fitC_sl (sz sz' : Nat) (xs : List (List AV)) : fitC (.sl sz) (.lst sz' xs) = (sz = sz') := rfl
theorem fitC_other (a : AV) : fitC .other a = True := by cases a <;> rfl
theorem exSh_intro : ∀ (sh : List Sh) (cs : List AV) (Q : List AV → Prop), fitSh sh cs → Q cs → exSh sh Q
  | [], [], Q, _, h => h
  | [], _ :: _, _, h, _ => h.elim
  | _ :: _, [], _, h, _ => h.elim
  | s :: r, c :: cs, Q, h, hq => by
    have ih := exSh_intro r cs (fun l => Q (c :: l)) h.2 hq
    have hc := h.1
    unfold fitC at hc
    split at hc
    · subst hc; exact ⟨_, ih⟩
    · exact ⟨_, ih⟩
    · exact ⟨_, ih⟩
    · subst hc; exact ⟨_, ih⟩
    · exact ⟨_, ih⟩
    · exact hc.elim
theorem exSh_elim : ∀ (sh : List Sh) (Q : List AV → Prop), exSh sh Q → ∃ cs, fitSh sh cs ∧ Q cs
  | [], Q, h => ⟨[], trivial, h⟩
  | .int k :: r, Q, ⟨n, h⟩ => by
    obtain ⟨cs, h1, h2⟩ := exSh_elim r _ h
    exact ⟨.v (.int k n) :: cs, ⟨rfl, h1⟩, h2⟩
  | .bool :: r, Q, ⟨n, h⟩ => by
    obtain ⟨cs, h1, h2⟩ := exSh_elim r _ h
    exact ⟨.v (.bool n) :: cs, ⟨trivial, h1⟩, h2⟩
  | .str :: r, Q, ⟨n, h⟩ => by
    obtain ⟨cs, h1, h2⟩ := exSh_elim r _ h
    exact ⟨.v (.string n) :: cs, ⟨trivial, h1⟩, h2⟩
  | .sl sz :: r, Q, ⟨n, h⟩ => by
    obtain ⟨cs, h1, h2⟩ := exSh_elim r _ h
    exact ⟨.lst sz n :: cs, ⟨rfl, h1⟩, h2⟩
  | .other :: r, Q, ⟨n, h⟩ => by
    obtain ⟨cs, h1, h2⟩ := exSh_elim r _ h
    exact ⟨n :: cs, ⟨by cases n <;> exact trivial, h1⟩, h2⟩
theorem getSh_some (sh : List Sh) (cs : List AV) (K : List AV → Prop) : getSh sh (some cs) K = (fitSh sh cs ∧ K cs) := by
  apply propext
  constructor
  · intro h
    obtain ⟨c, h1, h2, h3⟩ := exSh_elim _ _ h
    simp only [Option.some.injEq] at h2
    subst h2
    exact ⟨h1, h3⟩
  · rintro ⟨h1, h2⟩
    exact exSh_intro _ _ _ h1 ⟨rfl, h2⟩
section
variable (P : Program) (t : TypeId) (s : St) (KS : AV → St → Prop) (K : AV → Prop)
def optE (x : Option TypeId) (A : TypeId → Prop) : Prop := match x with
  | some e => A e
  | none => False
@[congr] theorem optE_congr {x x' : Option TypeId} {A : TypeId → Prop} {dm : Nat} (hdm : dumA = dm) (h : x = x') : optE x A = optE x' A := by rw [h]
theorem optE_some (e : TypeId) (A : TypeId → Prop) : optE (some e) A = A e := rfl
def optB (x : Option Blk) (A : Blk → Prop) : Prop := match x with
  | some e => A e
  | none => False
@[congr] theorem optB_congr {x x' : Option Blk} {A : Blk → Prop} {dm : Nat} (hdm : dumA = dm) (h : x = x') : optB x A = optB x' A := by rw [h]
theorem optB_some (e : Blk) (A : Blk → Prop) : optB (some e) A = A e := rfl
theorem indexAddrA_lst (sz : Nat) (xs : List (List AV)) (k : IntKind) (i : Int) : indexAddrA P t (.lst sz xs) (.v (.int k i)) K = optE (elemOfS P t) fun e => szO P e = some sz ∧ 0 ≤ i ∧ getSh (shapes P 10 e) (xs[i.toNat]?) fun cs => K (.eptr cs) := by
  cases h : elemOfS P t <;> simp [indexAddrA, optE, h, getSh]
theorem indexAddrA_row (id sz off len : Nat) (k : IntKind) (i : Int) : indexAddrA P t (.row id sz off len) (.v (.int k i)) K = optE (elemOfS P t) fun e => szO P e = some sz ∧ 0 ≤ i ∧ i < (len : Int) ∧ K (.rptr id sz (off + i.toNat) 0) := by
  cases h : elemOfS P t <;> simp [indexAddrA, optE, h]
def arrAt (x : Option (Nat × TypeId)) (a : AV) (i : Int) (K : AV → Prop) : Prop :=
  match x with
  | some (n, e) =>
    match szO P e with
    | some sz => 0 ≤ i ∧ i < (n : Int) ∧ moveA a (i.toNat * sz) K
    | none => False
  | none => False
def arrAt2 (x : Option Nat) (n : Nat) (a : AV) (i : Int) (K : AV → Prop) : Prop :=
  match x with
  | some sz => 0 ≤ i ∧ i < (n : Int) ∧ moveA a (i.toNat * sz) K
  | none => False
@[congr] theorem arrAt_congr {x x' : Option (Nat × TypeId)} {a : AV} {i : Int} {K : AV → Prop} {dm : Nat} (hdm : dumA = dm) (h : x = x') : arrAt P x a i K = arrAt P x' a i K := by rw [h]
@[congr] theorem arrAt2_congr {x x' : Option Nat} {n : Nat} {a : AV} {i : Int} {K : AV → Prop} {dm : Nat} (hdm : dumA = dm) (h : x = x') : arrAt2 x n a i K = arrAt2 x' n a i K := by rw [h]
theorem arrAt_some (n : Nat) (e : TypeId) (a : AV) (i : Int) : arrAt P (some (n, e)) a i K = arrAt2 (szO P e) n a i K := rfl
theorem arrAt2_some (sz n : Nat) (a : AV) (i : Int) : arrAt2 (some sz) n a i K = (0 ≤ i ∧ i < (n : Int) ∧ moveA a (i.toNat * sz) K) := rfl
theorem indexAddrA_ptr (id f : Nat) (k : IntKind) (i : Int) : indexAddrA P t (.ptr id f) (.v (.int k i)) K = arrAt P (arrOf P t) (.ptr id f) i K := rfl
theorem indexAddrA_rptr (id sz j f : Nat) (k : IntKind) (i : Int) : indexAddrA P t (.rptr id sz j f) (.v (.int k i)) K = arrAt P (arrOf P t) (.rptr id sz j f) i K := rfl
theorem indexAddrA_eptr (cs : List AV) (k : IntKind) (i : Int) : indexAddrA P t (.eptr cs) (.v (.int k i)) K = arrAt P (arrOf P t) (.eptr cs) i K := rfl
def loadB (t : TypeId) (f : Nat) (s : St) (KS : AV → St → Prop) : Blk → Prop
  | .var _ cs => optA (ldv P t cs f) s KS
  | _ => False
theorem loadB_var (f : Nat) (u : TypeId) (cs : List AV) : loadB P t f s KS (.var u cs) = optA (ldv P t cs f) s KS := rfl
theorem loadA_ptr (id f : Nat) : loadA P t (.ptr id f) s KS = optB (blk s.H id) (loadB P t f s KS) := by
  cases h : blk s.H id with
  | none => simp [loadA, optB, h]
  | some b => cases b <;> simp [loadA, optB, h, loadB]
theorem loadA_eptr (cs : List AV) : loadA P t (.eptr cs) s KS = optA (ldv P t cs 0) s KS := rfl
def loadR (t : TypeId) (sz i f : Nat) (s : St) (KS : AV → St → Prop) : Blk → Prop
  | .row e sz' xs => sz' = sz ∧ getSh (shapes P 10 e) (xs[i]?) fun cs => optA (ldv P t cs f) s KS
  | _ => False
theorem loadR_row (sz i f sz' : Nat) (e : TypeId) (xs : List (List AV)) : loadR P t sz i f s KS (.row e sz' xs) = (sz' = sz ∧ getSh (shapes P 10 e) (xs[i]?) fun cs => optA (ldv P t cs f) s KS) := rfl
theorem loadA_rptr (id sz i f : Nat) : loadA P t (.rptr id sz i f) s KS = optB (blk s.H id) (loadR P t sz i f s KS) := by
  cases h : blk s.H id with
  | none => simp [loadA, optB, h]
  | some b => cases b <;> simp [loadA, optB, h, loadR, getSh]
def storeV (t : TypeId) (id f : Nat) (c : List AV) (s : St) (KS : AV → St → Prop) : Blk → Prop
  | .var e cs => szO P t = some c.length ∧ f + c.length ≤ cs.length ∧ KS .junk ⟨s.t, s.H.set id (some (.var e (cs.take f ++ c ++ cs.drop (f + c.length))))⟩
  | _ => False
theorem storeV_var (id f : Nat) (c : List AV) (e : TypeId) (cs : List AV) : storeV P t id f c s KS (.var e cs) = (szO P t = some c.length ∧ f + c.length ≤ cs.length ∧ KS .junk ⟨s.t, s.H.set id (some (.var e (cs.take f ++ c ++ cs.drop (f + c.length))))⟩) := rfl
theorem storeC_ptr (id f : Nat) (c : List AV) : storeC P t (.ptr id f) (some c) s KS = optB (blk s.H id) (storeV P t id f c s KS) := by
  cases h : blk s.H id with
  | none => simp [storeC, optB, h]
  | some b => cases b <;> simp [storeC, optB, h, storeV]
def storeW (t : TypeId) (id sz i f : Nat) (c : List AV) (s : St) (KS : AV → St → Prop) : Blk → Prop
  | .row e sz' xs => sz' = sz ∧ getSh (shapes P 10 e) (xs[i]?) fun cs => szO P t = some c.length ∧ f + c.length ≤ cs.length ∧ storeR e sz xs i f cs id (normL (((shapes P 10 e).drop f).take c.length) c) s KS
  | _ => False
theorem storeW_row (id sz i f sz' : Nat) (c : List AV) (e : TypeId) (xs : List (List AV)) : storeW P t id sz i f c s KS (.row e sz' xs) = (sz' = sz ∧ getSh (shapes P 10 e) (xs[i]?) fun cs => szO P t = some c.length ∧ f + c.length ≤ cs.length ∧ storeR e sz xs i f cs id (normL (((shapes P 10 e).drop f).take c.length) c) s KS) := rfl
theorem storeC_rptr (id sz i f : Nat) (c : List AV) : storeC P t (.rptr id sz i f) (some c) s KS = optB (blk s.H id) (storeW P t id sz i f c s KS) := by
  cases h : blk s.H id with
  | none => simp [storeC, optB, h]
  | some b => cases b <;> simp [storeC, optB, h, storeW, getSh]
end
end Go.Ai

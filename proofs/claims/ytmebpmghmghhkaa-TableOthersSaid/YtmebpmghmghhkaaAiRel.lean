/- What the abstract values stand for in the model's memory. -/
import Derived.Test.YtmebpmghmghhkaaAiDef
import Derived.Laws.AppendOwn
import Derived.Laws.CopyRow
import Derived.Laws.Rows
import Derived.Laws.Cells
set_option linter.unusedVariables false
set_option linter.unusedSimpArgs false
namespace Go.Ai

/-- Memory that nobody writes any more; the values of the blocks that are one's own. -/
abbrev Im := Nat → Option Obj
abbrev Sg := Nat → Option Value
def sg0 : Sg := fun _ => none
def icell (hp : Im) (a : Addr) : Option Value :=
  match hp a.block with
  | some (.cells c _ _) => if a.spot.isSome then none else c[a.off]?
  | _ => none
def bn : Value → Option Nat
  | .pointer (some a) => some a.block
  | .slice (some a) _ _ => some a.block
  | .map (some r) => some r
  | _ => none

mutual
def Rel (hp : Im) (σ : Sg) : AV → Value → Prop
  | .junk, _ => True
  | .v x, y => y = x
  | .nl, y => ∃ A, y = .slice A 0 0
  | .ptr id f, y => ∃ k, σ id = some (.pointer (some ⟨k, 0, none⟩)) ∧ y = .pointer (some ⟨k, f, none⟩)
  | .rptr id sz i f, y => ∃ k n c, σ id = some (.slice (some ⟨k, 0, none⟩) n c) ∧ i < n ∧ y = .pointer (some ⟨k, i * sz + f, none⟩)
  | .row id sz off len, y => (∃ k n c, σ id = some (.slice (some ⟨k, 0, none⟩) n c) ∧ off + len ≤ n ∧ (∃ A c', y = .slice A len c' ∧ len ≤ c') ∧ (off = 0 ∨ 0 < len → y = .slice (some ⟨k, off * sz, none⟩) len (c - off))) ∨
      (σ id = some (.slice none 0 0) ∧ off = 0 ∧ len = 0 ∧ ∃ A, y = .slice A 0 0)
  | .lst sz xs, y => ∃ A cap, y = .slice A xs.length cap ∧ xs.length ≤ cap ∧ (xs ≠ [] → ∃ ad, A = some ad ∧ ad.spot = none ∧ RelRow hp ad 0 sz xs)
  | .eptr cs, y => ∃ ad, y = .pointer (some ad) ∧ ad.spot = none ∧ RelCs hp ad 0 cs
  | .agg cs, y => ∃ vs : List Value, y = .agg vs.toArray ∧ RelL hp σ cs vs
  | .tup cs, y => ∃ vs : List Value, y = .tuple vs.toArray ∧ RelT hp σ cs vs
  | .fn f a b, y => ∃ va vb : List Value, y = .func (.func f) va.toArray vb.toArray ∧ RelT hp σ a va ∧ RelT hp σ b vb
  | .ifc t x, y => ∃ v, y = .iface t v ∧ Rel hp σ x v
  | .map id, y => ∃ r, σ id = some (.map (some r)) ∧ y = .map (some r)
/-- Values one by one. -/
def RelT (hp : Im) (σ : Sg) : List AV → List Value → Prop
  | [], [] => True
  | c :: cs, u :: us => Rel hp σ c u ∧ RelT hp σ cs us
  | _, _ => False
/-- Cells one by one. -/
def RelL (hp : Im) (σ : Sg) : List AV → List Value → Prop
  | [], [] => True
  | c :: cs, u :: us => (Rel hp σ c u ∧ u.oneCell' = true) ∧ RelL hp σ cs us
  | _, _ => False
def RelCs (hp : Im) (ad : Addr) : Nat → List AV → Prop
  | _, [] => True
  | k, c :: cs => (∃ u, icell hp (ad.add k) = some u ∧ Rel hp sg0 c u ∧ u.oneCell' = true) ∧ RelCs hp ad (k + 1) cs
def RelRow (hp : Im) (ad : Addr) : Nat → Nat → List (List AV) → Prop
  | _, _, [] => True
  | k, sz, x :: xs => x.length = sz ∧ RelCs hp ad k x ∧ RelRow hp ad (k + sz) sz xs
end

/-! ### More memory, more names -/
def ImLe (hp hp' : Im) : Prop := ∀ k o, hp k = some o → hp' k = some o
def SgLe (σ σ' : Sg) : Prop := ∀ i v, σ i = some v → σ' i = some v
theorem ImLe.refl (hp : Im) : ImLe hp hp := fun _ _ h => h
theorem SgLe.refl (σ : Sg) : SgLe σ σ := fun _ _ h => h
theorem ImLe.trans {a b c : Im} (h : ImLe a b) (h' : ImLe b c) : ImLe a c := fun k o x => h' k o (h k o x)
theorem SgLe.trans {a b c : Sg} (h : SgLe a b) (h' : SgLe b c) : SgLe a c := fun k o x => h' k o (h k o x)
theorem sg0_le (σ : Sg) : SgLe sg0 σ := fun _ _ h => by simp [sg0] at h
theorem icell_mono {hp hp' : Im} (h : ImLe hp hp') {a : Addr} {u : Value} (hc : icell hp a = some u) : icell hp' a = some u := by
  unfold icell at hc ⊢
  split at hc
  · rename_i c e f hb
    rw [h _ _ hb]
    exact hc
  · simp at hc

mutual
theorem Rel.mono {hp hp' : Im} (hh : ImLe hp hp') {σ σ' : Sg} (hs : SgLe σ σ') : ∀ (a : AV) (y : Value), Rel hp σ a y → Rel hp' σ' a y
  | .junk, y, _ => by simp [Rel]
  | .v x, y, h => by simpa [Rel] using h
  | .nl, y, h => by simpa [Rel] using h
  | .ptr id f, y, h => by
    simp only [Rel] at h ⊢
    obtain ⟨k, h1, h2⟩ := h
    exact ⟨k, hs _ _ h1, h2⟩
  | .rptr id sz i f, y, h => by
    simp only [Rel] at h ⊢
    obtain ⟨k, n, c, h1, h2⟩ := h
    exact ⟨k, n, c, hs _ _ h1, h2⟩
  | .row id sz off len, y, h => by
    simp only [Rel] at h ⊢
    rcases h with ⟨k, n, c, h1, h2⟩ | ⟨h1, h2⟩
    · exact .inl ⟨k, n, c, hs _ _ h1, h2⟩
    · exact .inr ⟨hs _ _ h1, h2⟩
  | .lst sz xs, y, h => by
    simp only [Rel] at h ⊢
    obtain ⟨A, cap, h1, h2, h3⟩ := h
    refine ⟨A, cap, h1, h2, fun hx => ?_⟩
    obtain ⟨ad, h4, h5, h6⟩ := h3 hx
    exact ⟨ad, h4, h5, RelRow.mono hh ad 0 sz xs h6⟩
  | .eptr cs, y, h => by
    simp only [Rel] at h ⊢
    obtain ⟨ad, h1, h2, h3⟩ := h
    exact ⟨ad, h1, h2, RelCs.mono hh ad 0 cs h3⟩
  | .agg cs, y, h => by
    simp only [Rel] at h ⊢
    obtain ⟨vs, h1, h2⟩ := h
    exact ⟨vs, h1, RelL.mono hh hs cs vs h2⟩
  | .tup cs, y, h => by
    simp only [Rel] at h ⊢
    obtain ⟨vs, h1, h2⟩ := h
    exact ⟨vs, h1, RelT.mono hh hs cs vs h2⟩
  | .fn f a b, y, h => by
    simp only [Rel] at h ⊢
    obtain ⟨va, vb, h1, h2, h3⟩ := h
    exact ⟨va, vb, h1, RelT.mono hh hs a va h2, RelT.mono hh hs b vb h3⟩
  | .ifc t x, y, h => by
    simp only [Rel] at h ⊢
    obtain ⟨v, h1, h2⟩ := h
    exact ⟨v, h1, Rel.mono hh hs x v h2⟩
  | .map id, y, h => by
    simp only [Rel] at h ⊢
    obtain ⟨k, h1, h2⟩ := h
    exact ⟨k, hs _ _ h1, h2⟩
theorem RelT.mono {hp hp' : Im} (hh : ImLe hp hp') {σ σ' : Sg} (hs : SgLe σ σ') : ∀ (cs : List AV) (us : List Value), RelT hp σ cs us → RelT hp' σ' cs us
  | [], [], _ => by simp [RelT]
  | c :: cs, u :: us, h => by
    simp only [RelT] at h ⊢
    exact ⟨Rel.mono hh hs c u h.1, RelT.mono hh hs cs us h.2⟩
  | [], _ :: _, h => by simp [RelT] at h
  | _ :: _, [], h => by simp [RelT] at h
theorem RelL.mono {hp hp' : Im} (hh : ImLe hp hp') {σ σ' : Sg} (hs : SgLe σ σ') : ∀ (cs : List AV) (us : List Value), RelL hp σ cs us → RelL hp' σ' cs us
  | [], [], _ => by simp [RelL]
  | c :: cs, u :: us, h => by
    simp only [RelL] at h ⊢
    exact ⟨⟨Rel.mono hh hs c u h.1.1, h.1.2⟩, RelL.mono hh hs cs us h.2⟩
  | [], _ :: _, h => by simp [RelL] at h
  | _ :: _, [], h => by simp [RelL] at h
theorem RelCs.mono {hp hp' : Im} (hh : ImLe hp hp') (ad : Addr) : ∀ (k : Nat) (cs : List AV), RelCs hp ad k cs → RelCs hp' ad k cs
  | _, [], _ => by simp [RelCs]
  | k, c :: cs, h => by
    simp only [RelCs] at h ⊢
    obtain ⟨⟨u, h1, h2, h3⟩, h4⟩ := h
    exact ⟨⟨u, icell_mono hh h1, Rel.mono hh (SgLe.refl _) c u h2, h3⟩, RelCs.mono hh ad (k + 1) cs h4⟩
theorem RelRow.mono {hp hp' : Im} (hh : ImLe hp hp') (ad : Addr) : ∀ (k sz : Nat) (xs : List (List AV)), RelRow hp ad k sz xs → RelRow hp' ad k sz xs
  | _, _, [], _ => by simp [RelRow]
  | k, sz, x :: xs, h => by
    simp only [RelRow] at h ⊢
    exact ⟨h.1, RelCs.mono hh ad k x h.2.1, RelRow.mono hh ad (k + sz) sz xs h.2.2⟩
end

/-! ### The memory of one's own -/
def BlkRel (hp : Im) (σ : Sg) (W : World) : Blk → Value → Prop
  | .var t cs, v => ∃ k us, v = .pointer (some ⟨k, 0, none⟩) ∧ W.heap[k]? = some (.cells us.toArray t (0, 0)) ∧ RelL hp σ cs us
  | .row t sz xs, v => 0 < sz ∧ (∀ x ∈ xs, x.length = sz) ∧ ∃ us, W.ownsRow 0 t sz v xs.length us ∧ RelL hp sg0 xs.flatten us
  | .rowc t sz c xs, v => 0 < sz ∧ (∀ x ∈ xs, x.length = sz) ∧ ∃ us, RelL hp sg0 xs.flatten us ∧ ((v = .slice none 0 0 ∧ xs = [] ∧ c = 0) ∨ ∃ k cur, v = .slice (some ⟨k, 0, none⟩) c c ∧ xs.length ≤ c ∧ c ≤ maxLen ∧ W.heap[k]? = some (.cells cur t (0, 0)) ∧ cur.size = c * sz ∧ cur.toList.take (xs.length * sz) = us)
  | .map t es, v => ∃ r ms clock, v = .map (some r) ∧ W.heap[r]? = some (.map ms clock) ∧ (es.map (·.1)).Nodup ∧ ∃ vs : List Value, RelT hp σ (es.map (·.2)) vs ∧ (ms.toList.map fun m => (m.key, m.val)).Perm ((es.map fun e => Value.int .i64 e.1).zip vs)
structure HeapRel (hp : Im) (σ : Sg) (H : Hp) (W : World) : Prop where
  im : ∀ k o, hp k = some o → W.heap[k]? = some o
  own : ∀ id b, blk H id = some b → ∃ v, σ id = some v ∧ BlkRel hp σ W b v ∧ ∀ k, bn v = some k → hp k = none
  apart : ∀ i j b c v w k, blk H i = some b → blk H j = some c → σ i = some v → σ j = some w → bn v = some k → bn w = some k → i = j
  dom : ∀ id v, σ id = some v → id < H.length
  lt : ∀ id v k, σ id = some v → bn v = some k → k < W.heap.size
/-- What a function found when it began. -/
structure Ent where
  hp : Im
  σ : Sg
  W : World
  nt : Nat
def Ent.owns (E : Ent) (k : Nat) : Prop := ∃ id v, E.σ id = some v ∧ bn v = some k
structure Ev (E : Ent) (hp : Im) (σ : Sg) (W : World) : Prop where
  size : E.W.heap.size ≤ W.heap.size
  tape : W.tape = E.W.tape
  os : W.os = E.W.os
  out : W.output = E.W.output
  im : ImLe E.hp hp
  keep : ∀ k, k < E.W.heap.size → ¬ E.owns k → W.heap[k]? = E.W.heap[k]?
  imNew : ∀ k o, hp k = some o → E.hp k = some o ∨ E.W.heap.size ≤ k ∨ E.owns k
  sgNew : ∀ id v k, σ id = some v → bn v = some k → E.W.heap.size ≤ k ∨ E.owns k
structure Now (E : Ent) (s : St) (a : Act) (W : World) (hp : Im) (σ : Sg) : Prop where
  heap : HeapRel hp σ s.H W
  tmps : ∀ n, Rel hp σ (s.tmp n) (a.tmps.getD n undef)
  ev : Ev E hp σ W
  defers : a.defers = []
  nt : a.tmps.size = E.nt
  sg : SgLe E.σ σ
end Go.Ai

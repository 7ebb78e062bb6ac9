/- varint.Put, walked in the model: the bytes of a number, by way of its iterator. -/
import Derived.RangeFuncNested
import Derived.RangeFuncBound
import Derived.RangeFuncCalls
import Derived.RangeFuncBox
import Derived.RangeFuncLeaves
import Derived.Shelf.Abstract
import Derived.WalkKit
import Derived.OwnWalkIn
import Derived.TacticsInMore
import Derived.LoopNIn
import Derived.LoopIn
import Derived.Maps.AppendAt
import Derived.Laws.IdiomStrings
import Derived.IntWalk
import Derived.Test.YtejoagfpklpafaaProg
set_option linter.unusedVariables false
namespace Go.Proofs.Ytejoagfpklpafaa
open Go.RowKit Go.Shelf
attribute [local go_sem] Oper.semAt_some
/-- The bytes of a number (of at most k bytes). -/
def putF : Nat → Nat → List UInt8
  | 0, _ => []
  | k + 1, n => if n < 128 then [UInt8.ofNat n] else UInt8.ofNat (n % 128 + 128) :: putF k (n / 128)
section
variable {F : Fence} {n : Nat} {P : Program}
def cellPost {α : Type} (B c : Nat) (I : List α → World → Prop) (xs : List α) (W : World) : Exit → Act → World → Prop
  | .normal, _, W' => KeepsFrom B W W' ∧ W'.heap[c]? = W.heap[c]? ∧ I xs W'
  | _, _, _ => False
/-- A range over a function that keeps a number in a cell of its own (block c), by a body that always goes on. -/
theorem wpIn_rangeFunc_cell {α : Type} {g : Operand} {ps : Array Tmp} {assign body : Code} {Q : Exit → Act → World → Prop} {a : Act} {w : World} {c : Nat}
    (hro : F.round = none) (h1 : 1 ≤ n) {gf : Nat} {lb : Array Value} (hg : a.eval g = .func (.func gf) #[] lb) (hFg : F.fn gf) (eg : ∀ args w, (callFunc gf args).run P w = .ok (.enter gf args) w)
    {encs : α → Array Value} {xs : List α} (hcw : c < w.heap.size)
    (hseq : ∀ (l : Nat) (J : List α → World → Prop) (W : World), W.heap[c]? = w.heap[c]? → (∀ s W k, J s W → (∃ j, W.heap[c]? = some (.cells #[.int .i64 j] 3 (0, 0))) → J s (W.setCell ⟨c, 0, none⟩ (.int .i64 k))) →
      (∀ pre x W1, J pre W1 → pre.length < xs.length → YieldAt F (n - 1 - 1) P l (encs x) W1 fun e W' => e = .returned (.bool true) ∧ J (pre ++ [x]) W' ∧ W'.heap[c]? = W1.heap[c]?) →
      J [] W → CallsIn F (n - 1) P gf (#[.func (.yield l) #[] #[]] ++ lb) W fun e W' => (∃ v, e = .returned v) ∧ J xs W')
    (hps : ∀ x, (encs x).size = ps.size)
    (I : List α → World → Prop) (hI : OwnFrom w.heap.size I) (hIc : ∀ s W k, I s W → (∃ j, W.heap[c]? = some (.cells #[.int .i64 j] 3 (0, 0))) → I s (W.setCell ⟨c, 0, none⟩ (.int .i64 k))) (h0 : I [] w) (a₁ : α → Act)
    (hassign : ∀ (l : Nat) (x : α) (W : World) (K : Act → World → Prop), K (a₁ x) W →
      assign.wpIn (F.inRound l) (n - 1 - 1) P (Exit.then K (fun _ _ _ => False)) { tmps := (ps.zip (encs x)).foldl (fun t (p, v) => t.setIfInBounds p v) a.tmps, defers := [] } W)
    (hbody : ∀ (l : Nat) (pre : List α) (x : α) (W : World), I pre W → pre.length < xs.length → w.heap.size ≤ W.heap.size → body.wpIn (F.inRound l) (n - 1 - 1) P (cellPost w.heap.size c I (pre ++ [x]) W) (a₁ x) W)
    (hdone : ∀ (D : Nat) (W : World), w.heap.size ≤ D → I xs W → W.heap[D]? = some (.deferred (some [])) → Q .normal { a with defers := { target := .collected D, args := #[] } :: a.defers } W) :
    (Code.rangeFunc g ps assign body).wpIn F n P Q a w := by
  refine wpIn_rangeFunc ?_
  intro fn hfn
  rw [hro]
  obtain ⟨rec, hrec⟩ : ∃ rec : LoopState → Option Code → Loop, rec = fun st pe => { state := st, pending := pe, fn, tmps := a.tmps, params := ps, assign, body, defers := w.heap.size } := ⟨_, rfl⟩
  obtain ⟨W1, hW1⟩ : ∃ W1, (w.alloc (.deferred (some []))).alloc (.loop (rec .ready none)) = W1 := ⟨_, rfl⟩
  have hL1 : W1.heap[w.heap.size + 1]? = some (.loop (rec .ready none)) := by
    rw [← hW1]; have := World.alloc_heap_new (w.alloc (.deferred (some []))) (.loop (rec .ready none)); rwa [World.size_alloc] at this
  have hK1 : W1.heap[w.heap.size]? = some (.deferred (some [])) := by
    rw [← hW1]; exact (Below.heap_alloc _ _ _ (by simp)).trans (World.alloc_heap_new w _)
  have hI1 : I [] W1 := by rw [← hW1]; exact hI.alloc _ (hI.alloc _ h0)
  have hc1 : W1.heap[c]? = w.heap[c]? := by
    rw [← hW1]; exact (Below.heap_alloc _ _ _ (by simp; omega)).trans (Below.heap_alloc _ _ _ hcw)
  refine ⟨w.heap.size + 1, [{ target := .collected w.heap.size, args := #[] }], W1, { target := .fn (.func gf) lb, args := #[.func (.yield (w.heap.size + 1)) #[] #[]] }, W1, gf,
    #[.func (.yield (w.heap.size + 1)) #[] #[]] ++ lb, W1, ?_, ?_, ?_, ?_, fun _ => h1, ?_⟩
  · rw [← hW1, hrec]; exact run_enterLoop_outer _ _ _ _ _
  · simp only [resolve, hg]
    simp [go_sem]
  · intro f' hf'; simp [Target.leads] at hf'; subst hf'; exact hFg
  · simp [invoke, go_sem, eg]
  · refine (hseq (w.heap.size + 1)
      (fun pre W => (I pre W ∧ w.heap.size ≤ W.heap.size) ∧ W.heap[w.heap.size + 1]? = some (.loop (rec .ready none)) ∧ W.heap[w.heap.size]? = some (.deferred (some [])))
      W1 hc1
      (fun s A k hs hj => ⟨⟨hIc s A k hs.1.1 hj, Nat.le_trans hs.1.2 (KeepsWalks.setCell A _ _).size⟩, (Below.heap_setCell _ _ _ _ (by show w.heap.size + 1 ≠ c; omega)).trans hs.2.1, (Below.heap_setCell _ _ _ _ (by show w.heap.size ≠ c; omega)).trans hs.2.2⟩)
      ?_ ⟨⟨hI1, by rw [← hW1]; simp; omega⟩, hL1, hK1⟩).mono ?_
    · rintro pre x W ⟨⟨hi, hsz⟩, hl, hk⟩ hlen
      have hlt : w.heap.size + 1 < W.heap.size := (Array.getElem?_eq_some_iff.1 hl).1
      have hy := run_yield (P := P) (args := encs x) hl (by rw [hrec]; exact hps x)
      rw [hrec] at hy
      refine ⟨fn, _, assign, body, hy, roundIn_of_wpIn hfn (hassign _ x W _ ⟨_, run_beginRound hl (by rw [hrec]), ?_⟩)⟩
      have hl2 : (W.putObj (w.heap.size + 1) (.loop { rec .ready none with state := .busy })).heap[w.heap.size + 1]? = some (.loop { rec .ready none with state := .busy }) := World.putObj_heap_same hlt
      have hk2 : (W.putObj (w.heap.size + 1) (.loop { rec .ready none with state := .busy })).heap[w.heap.size]? = some (.deferred (some [])) := (World.putObj_heap_other (by omega)).trans hk
      have hcc2 : (W.putObj (w.heap.size + 1) (.loop { rec .ready none with state := .busy })).heap[c]? = W.heap[c]? := World.putObj_heap_other (by omega)
      refine wpIn_mono (hbody _ pre x _ (hI.putObj _ hi (by omega) hl rfl) hlen (by simpa using hsz)) ?_
      have fin : ∀ (jump : Option Code) (W3 : World), KeepsFrom w.heap.size (W.putObj (w.heap.size + 1) (.loop { rec .ready none with state := .busy })) W3 →
          (Instr.endRound (w.heap.size + 1) jump).run P W3 = .ok (.bool jump.isNone) (W3.putObj (w.heap.size + 1) (.loop (rec (if jump.isNone then .ready else .done) jump))) ∧
          W3.heap[w.heap.size + 1]? = some (.loop { rec .ready none with state := .busy }) ∧
          (W3.putObj (w.heap.size + 1) (.loop (rec (if jump.isNone then .ready else .done) jump))).heap[w.heap.size + 1]? = some (.loop (rec (if jump.isNone then .ready else .done) jump)) ∧
          (W3.putObj (w.heap.size + 1) (.loop (rec (if jump.isNone then .ready else .done) jump))).heap[w.heap.size]? = some (.deferred (some [])) := fun jump W3 hk3 => by
        have hl3 := hk3.same _ _ (by omega) hl2 rfl
        have := run_endRound (P := P) jump hl3
        rw [hrec] at this ⊢
        exact ⟨this, by rw [hrec] at hl3; exact hl3, World.putObj_heap_same (Array.getElem?_eq_some_iff.1 hl3).1, (World.putObj_heap_other (by omega)).trans (hk3.same _ _ (Nat.le_refl _) hk2 rfl)⟩
      rintro e a3 W3 hp
      cases e with
      | normal =>
        obtain ⟨hk3, hc3, hi3⟩ := hp
        obtain ⟨hr, hl3, hl4, hk4⟩ := fin none W3 hk3
        have hsz3 := hk3.size
        exact ⟨_, _, hr, rfl, ⟨⟨hI.putObj _ hi3 (by omega) hl3 rfl, by simp at hsz3 ⊢; omega⟩, hl4, hk4⟩, (World.putObj_heap_other (by omega)).trans (hc3.trans hcc2)⟩
      | ret => exact hp.elim
      | exit id => exact hp.elim
      | goto t => exact hp.elim
      | panic ch => exact hp.elim
      | outgrown => exact hp.elim
    · rintro e W2 ⟨⟨v, rfl⟩, ⟨hi, hsz⟩, hl, hk⟩
      exact ⟨none, _, by have := run_endLoop (P := P) hl (by rw [hrec]; simp); rw [hrec] at this; exact this, hdone _ _ (Nat.le_refl _) (hI.putObj _ hi (by omega) hl rfl) ((World.putObj_heap_other (by omega)).trans hk)⟩
end
theorem heap_setCell_one {W : World} {c : Nat} {t : TypeId} {u : Value} (v : Value) (h : W.heap[c]? = some (.cells #[u] t (0, 0))) : (W.setCell ⟨c, 0, none⟩ v).heap[c]? = some (.cells #[v] t (0, 0)) := Boxed.set (W := W) (B := c) v h
def cellNat (W : World) (c : Nat) : Nat := match W.cell? ⟨c, 0, none⟩ with
  | some (.int _ j) => j.toNat
  | _ => 0
theorem or_256 : ∀ x : Fin 256, bits .or .u8 (x.val : Int) 128 = ((x.val % 128 + 128 : Nat) : Int) := by decide +kernel
theorem or_128 (j : Nat) : bits .or .u8 ((j : Int) % 256) 128 = ((j % 128 + 128 : Nat) : Int) := by
  have h := or_256 ⟨j % 256, Nat.mod_lt _ (by omega)⟩
  simp only at h
  rw [show ((j : Int) % 256) = ((j % 256 : Nat) : Int) by omega, h]
  congr 2
  omega
theorem u8_small {j : Nat} (h : j < 256) : (((UInt8.ofNat j).toNat : Nat) : Int) = j := by simp; omega
set_option maxRecDepth 100000 in
set_option maxHeartbeats 1000000 in
/-- The iterator: all bytes of the number that its cell holds. -/
theorem digits1_in (F : Fence) (n : Nat) (h6 : F.fn 64) (hro : F.round = none) (hn : 1 ≤ n) (l c m : Nat) (hm : m < 72057594037927936) (J : List UInt8 → World → Prop) (W : World)
    (hc : W.heap[c]? = some (.cells #[.int .i64 m] 3 (0, 0))) (hJc : ∀ s W k, J s W → (∃ j, W.heap[c]? = some (.cells #[.int .i64 j] 3 (0, 0))) → J s (W.setCell ⟨c, 0, none⟩ (.int .i64 k)))
    (hY : ∀ pre x W1, J pre W1 → pre.length < (putF 8 m).length → YieldAt F (n - 1) Try.prog l #[.int .u8 x.toNat] W1 fun e W' => e = .returned (.bool true) ∧ J (pre ++ [x]) W' ∧ W'.heap[c]? = W1.heap[c]?) (h0 : J [] W) :
    CallsIn F n Try.prog 64 #[.func (.yield l) #[] #[], .pointer (some ⟨c, 0, none⟩)] W fun e W' => (∃ v, e = .returned v) ∧ J (putF 8 m) W' := by
  refine callsIn_of_wp Try.func64 rfl h6 ?_ hro
  simp only [Try.ntmps64, List.size_toArray, List.length_cons, List.length_nil, Nat.reduceAdd, Nat.reduceSub, Array.replicate_succ, Array.replicate_zero, List.push_toArray, List.append_toArray, List.nil_append, List.cons_append]
  gi_wp2
  gi_loopw [3] (fun _ wr => ∃ (pre : List UInt8) (k j : Nat), wr.heap[c]? = some (.cells #[.int .i64 j] 3 (0, 0)) ∧ putF 8 m = pre ++ putF (k + 1) j ∧ j < 128 ^ (k + 1) ∧ k < 8 ∧ J pre wr)
    (fun _ wr => cellNat wr c)
  case atStart =>
    exact ⟨[], 7, m, hc, rfl, by simpa using hm, by omega, h0⟩
  case round =>
    obtain ⟨pre, k, j, hj, hp, hlt, hk8, hJs⟩ := hrel
    have hbx : Boxed wr c 3 (.int .i64 j) := hj
    have hcell := hbx.cell
    have hfro := hbx.frozen
    by_cases h : (j : Int) < 128
    · have hge : ¬ (128 : Int) ≤ j := by omega
      have e1 : putF (k + 1) j = [UInt8.ofNat j] := by rw [putF, if_pos (by omega)]
      rw [e1] at hp
      obtain ⟨fn, tmps, assign, body, hy, hR⟩ := hY pre (UInt8.ofNat j) wr hJs (by rw [hp]; simp)
      rw [u8_small (by omega)] at hy
      gi_wp2
      refine hR.mono ?_
      rintro e W' ⟨rfl, hJ', hk⟩
      gi_wp2
      go_end0
      exact ⟨⟨_, rfl⟩, by rw [hp]; exact hJ'⟩
    · have hge : (128 : Int) ≤ j := by omega
      have e1 : putF (k + 1) j = UInt8.ofNat (j % 128 + 128) :: putF k (j / 128) := by rw [putF, if_neg (by omega)]
      rw [e1] at hp
      obtain ⟨fn, tmps, assign, body, hy, hR⟩ := hY pre (UInt8.ofNat (j % 128 + 128)) wr hJs (by rw [hp]; simp)
      rw [u8_small (by omega), ← or_128 j] at hy
      gi_wp2
      refine hR.mono ?_
      rintro e W' ⟨rfl, hJ', hk⟩
      have hj' : W'.heap[c]? = some (.cells #[.int .i64 j] 3 (0, 0)) := hk.trans hj
      have hbx' : Boxed W' c 3 (.int .i64 j) := hj'
      have hcell' := hbx'.cell
      have hfro' := hbx'.frozen
      gi_wp2
      have hdiv : ((j : Int) / 128) = ((j / 128 : Nat) : Int) := by omega
      rw [hdiv]
      cases k with
      | zero => simp at hlt; omega
      | succ k =>
        have hset := heap_setCell_one (.int .i64 ((j / 128 : Nat) : Int)) hj'
        go_roundw
        case rel =>
          refine ⟨pre ++ [UInt8.ofNat (j % 128 + 128)], k, j / 128, hset, by rw [hp]; simp, ?_, by omega, hJc _ _ _ hJ' ⟨_, hj'⟩⟩
          rw [Nat.pow_succ 128 (k + 1)] at hlt
          omega
        case measure =>
          have hcs := Boxed.cell (W := W'.setCell ⟨c, 0, none⟩ (.int .i64 ((j / 128 : Nat) : Int))) (B := c) hset
          unfold cellNat
          rw [hcs, hcell]
          simp
          omega
theorem digits_in (F : Fence) (n : Nat) (h5 : F.fn 61) (hro : F.round = none) (m : Int) (w : World) :
    CallsIn F n Try.prog 61 #[.int .i64 m] w fun e w' => e = .returned (.func (.func 64) #[] #[.pointer (some ⟨w.heap.size, 0, none⟩)]) ∧ w' = w.alloc (.cells #[.int .i64 m] 3) := by
  refine callsIn_of_wp Try.func61 rfl h5 ?_ hro
  simp only [Try.ntmps61, List.size_toArray, List.length_cons, List.length_nil, Nat.reduceAdd, Nat.reduceSub, Array.replicate_succ, Array.replicate_zero, List.push_toArray, List.append_toArray, List.nil_append, List.cons_append]
  gi_wp2
  go_ret
  exact ⟨rfl, rfl⟩
theorem putF_len : ∀ (k m : Nat), (putF k m).length ≤ k
  | 0, _ => by simp [putF]
  | k + 1, m => by
    have := putF_len k (m / 128)
    unfold putF
    split
    · simp
    · simp
      omega
theorem putF_ne (k m : Nat) : (putF (k + 1) m).length ≠ 0 := by
  unfold putF
  split <;> simp
theorem put_info5 : (Try.prog.info? 5).map (fun i => (i.zero, i.size, i.bytes)) = some (some (.int .u8 0), 1, 1) := by kernel_rfl
theorem ownsRow_cellset {W : World} {n₀ c : Nat} {t e : TypeId} {u v0 : Value} {k : Nat} {xs : List Value} (h : W.ownsRow n₀ e 1 v0 k xs) (hc : W.heap[c]? = some (.cells #[u] t (0, 0))) (hte : t ≠ e) (v : Value) : (W.setCell ⟨c, 0, none⟩ v).ownsRow n₀ e 1 v0 k xs :=
  h.kept (grownBy_setCell' W c v) (.inr (Boxed.not_row (W := W) (B := c) hc hte h).symm)
set_option maxRecDepth 100000 in
set_option maxHeartbeats 2000000 in
/-- Put at a number that may be. -/
theorem put_in (F : Fence) (n : Nat) (h3 : F.fn 47) (h4 : F.fn 61) (h5 : F.fn 64) (hro : F.round = none) (hn : 3 ≤ n) (m : Nat) (hm : m ≤ 9007199254740992) (w : World) :
    CallsIn F n Try.prog 47 #[.int .i64 m] w fun e W' => e = .returned (.tuple #[.string ⟨(putF 8 m).toArray⟩, .int .i64 0]) ∧ Below w.heap.size w W' := by
  have h1 : 1 ≤ n := by omega
  obtain ⟨i0, hi, hz0, hz1, hz2⟩ := info_parts put_info5
  have hm0 : ¬ ((m : Int) < 0) := by omega
  have hm1 : ¬ ((m : Int) > 9007199254740992) := by omega
  have hm2 : (m : Int) ≤ 9007199254740992 := by omega
  refine callsIn_of_wp_marks Try.func47 rfl h3 ?_ hro
  simp only [Try.ntmps47, List.size_toArray, List.length_cons, List.length_nil, Nat.reduceAdd, Nat.reduceSub, Array.replicate_succ, Array.replicate_zero, List.push_toArray, List.append_toArray, List.nil_append, List.cons_append]
  gi_wp2_with (gi_at_call 61; refine (digits_in F (n - 1) h4 hro _ _).mono ?_; rintro e w' ⟨rfl, rfl⟩)
  have bO := Boxed.new w 77 (.slice none 0 0)
  have bN := Boxed.new (w.alloc (.cells #[.slice none 0 0] 77)) 3 (.int .i64 m)
  rw [World.size_alloc] at bN
  have hB0 : Below w.heap.size w ((w.alloc (.cells #[.slice none 0 0] 77)).alloc (.cells #[.int .i64 m] 3)) := ((Below.refl _ w).alloc (Nat.le_refl _) _).alloc (by simp) _
  refine wpIn_rangeFunc_cell (c := w.heap.size + 1) (xs := putF 8 m) (encs := fun x : UInt8 => #[.int .u8 x.toNat]) hro h1 (gf := 64) (lb := #[.pointer (some ⟨w.heap.size + 1, 0, none⟩)]) rfl h5 (enters_of Try.func64 (by kernel_rfl) rfl) (by simp)
    (fun l J W hc hJc hY h0 => digits1_in F (n - 1) h5 hro (by omega) l (w.heap.size + 1) m (by omega) J W (hc.trans bN) hJc hY h0) (fun _ => rfl)
    (fun pre W => ((∃ v, Boxed W w.heap.size 77 v ∧ W.ownsRow w.heap.size 5 1 v pre.length (pre.map fun x => Value.int .u8 x.toNat) ∧ True) ∧ Below w.heap.size w W) ∧ ∃ j, Boxed W (w.heap.size + 1) 3 (.int .i64 j))
    (OwnFrom.and (OwnFrom.and (Own.from (holdsRow_own w.heap.size w.heap.size 77 5 1 (fun pre : List UInt8 => pre.length) (fun pre : List UInt8 => pre.map fun x => Value.int .u8 x.toNat) (fun pre v => True)) _) (ownFrom_below (Nat.le_refl _) (by simp; omega))) (Own.from (fun s A B row hs hg hr => ⟨hs.choose, boxed_own (w.heap.size + 1) 3 (fun _ : List UInt8 => .int .i64 hs.choose) s A B row hs.choose_spec hg hr⟩) _))
    (fun pre W k hs hj => ⟨⟨⟨hs.1.1.choose, hs.1.1.choose_spec.1.other (by omega) _, ownsRow_cellset hs.1.1.choose_spec.2.1 hj.choose_spec (by decide) _, trivial⟩, hs.1.2.setCell (p := ⟨w.heap.size + 1, 0, none⟩) (by simp) _⟩, k, heap_setCell_one _ hj.choose_spec⟩)
    ⟨⟨⟨_, bO.alloc _, World.ownsRow_nil _ _ _ _, trivial⟩, hB0⟩, _, bN⟩
    (fun x => { tmps := #[.int .i64 m, undef, .string ⟨#[]⟩, .int .i64 0, .pointer (some ⟨w.heap.size, 0, none⟩), .int .u8 x.toNat, .int .i64 m, .bool false, .bool false, .int .i64 m, .bool false, .bool false, .int .i64 m, .func (.func 64) #[] #[.pointer (some ⟨w.heap.size + 1, 0, none⟩)], .int .u8 x.toNat, undef, undef, undef, undef, undef, undef], defers := [] }) ?assign ?body ?done
  case assign =>
    intro l x W K hK
    gi_wp2
    exact hK
  case body =>
    rintro l pre x W ⟨⟨⟨v, hv, hrow, _⟩, hB⟩, j, hj⟩ hlt hsz
    have hc := hv.cell
    have hjr := Boxed.not_row hj (by decide) hrow
    have hpl := putF_len 8 m
    gi_wp2_with (gi_at_builtin; refine wpListIn_append_own _ rfl _ _ 77 rfl w.heap.size 5 i0 (.int .u8 0) 1 1 Try.underlying77 hi hz0 hz1 hz2 rfl (by decide) _ _ _ rfl (hrow.alloc _) ⟨W.heap.size, 0, none⟩ 1 1 [.int .u8 x.toNat] rfl rfl (cell_one_new _ _ _) (by simp [Value.oneCell']) (by simp only [maxLen]; omega) (by omega) (by have := hB.size; simp; omega) ?_; intro v' w1 hown' hgrow _; obtain ⟨g', cap', rfl⟩ := ownsRow_succ hown'; obtain ⟨hv1, hv2, hr2, hk2, hb2⟩ := hv.appended (by decide) hrow hB.size (Nat.le_refl _) hown' hgrow; have hc1 := hv1.cell; have hf1 := hv1.frozen)
    have hj1 : w1.heap[w.heap.size + 1]? = W.heap[w.heap.size + 1]? := (hgrow.block (w.heap.size + 1) (by have := hj.lt; simp; omega) hjr).trans (Below.heap_alloc _ _ _ hj.lt)
    have hj2 := (Below.heap_setCell w1 ⟨w.heap.size, 0, none⟩ (.slice (some ⟨g', 0, none⟩) (pre.length + 1) cap') (w.heap.size + 1) (by show w.heap.size + 1 ≠ w.heap.size; omega)).trans hj1
    exact ⟨hk2.from _, hj2, ⟨⟨_, hv2, by simpa using hr2, trivial⟩, hB.trans hb2⟩, j, hj2.trans hj⟩
  case done =>
    rintro D W hD ⟨⟨⟨v, hv, hrow, _⟩, hB⟩, j, hj⟩ hK
    have hc := hv.cell
    have hne := putF_ne 7 m
    obtain ⟨g, cap, cur, rfl, hcells⟩ : ∃ g cap, ∃ cur : Array Value, v = .slice (some ⟨g, 0, none⟩) (putF 8 m).length cap ∧ ∀ j x, (putF 8 m)[j]? = some x → W.cell? (Addr.add ⟨g, 0, none⟩ j) = some (.int .u8 x.toNat) := by
      rcases hrow.2 with ⟨_, hz⟩ | ⟨g, cap, cur, hv', _⟩
      · exact absurd hz hne
      · subst hv'
        refine ⟨g, cap, cur, rfl, fun j x hx => ?_⟩
        have := hrow.cells (g := g) rfl j (.int .u8 x.toNat) (by simp [hx])
        simpa [Addr.add] using this
    have hconv : (convert 77 9 (.slice (some ⟨g, 0, none⟩) (putF 8 m).length cap)).run Try.prog W = .ok (.string ⟨(putF 8 m).toArray⟩) W :=
      run_convert_bytes_back W 77 9 5 ⟨g, 0, none⟩ cap (putF 8 m) Try.underlying77 Try.underlying5 Try.underlying9 (fun j hj => hcells j _ (List.getElem?_eq_getElem hj))
    gi_wp2
    refine ⟨by simp, .inl ⟨_, _, rfl, run_takeDeferred hK, ?_⟩⟩
    exact ⟨_, by simp [results, Try.results47, go_sem], rfl, hB.trans (belowK_b (w := w) (Nat.le_refl _) W D _ _ (by simp at hD; omega) hK rfl rfl)⟩
set_option maxRecDepth 100000 in
set_option maxHeartbeats 2000000 in
/-- Put at a number that may not be. -/
theorem put_bad (m : Int) (hm : m < 0 ∨ 9007199254740992 < m) (w : World) :
    Calls Try.prog 47 #[.int .i64 m] w fun e W' => e = .returned (.tuple #[.string ⟨#[]⟩, .int .i64 1]) ∧ Below w.heap.size w W' := by
  rcases hm with hm | hm
  · go_enter Try.func47, Try.ntmps47
    go_wp2
    go_ret2
    exact ⟨rfl, Below.refl _ _⟩
  · have h0 : ¬ m < 0 := by omega
    go_enter Try.func47, Try.ntmps47
    go_wp2
    go_ret2
    exact ⟨rfl, Below.refl _ _⟩
theorem put_good (m : Nat) (hm : m ≤ 9007199254740992) (w : World) :
    Calls Try.prog 47 #[.int .i64 m] w fun e W' => e = .returned (.tuple #[.string ⟨(putF 8 m).toArray⟩, .int .i64 0]) ∧ Below w.heap.size w W' :=
  (callsIn_wide (n := 3)).1 (put_in _ 3 trivial trivial trivial rfl (by omega) m hm w)
end Go.Proofs.Ytejoagfpklpafaa

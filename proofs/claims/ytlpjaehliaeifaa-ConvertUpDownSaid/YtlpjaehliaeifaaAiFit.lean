/- What is handed in to a law, as abstract values. -/
import Derived.Test.YtlpjaehliaeifaaAiSound
import Derived.Deep.Slices
import Derived.OpenShut
import Derived.ChangeSame
import Derived.SizedLaws
set_option linter.unusedVariables false
set_option linter.unusedSimpArgs false
namespace Go.Ai
/-- Types that lie as they are told here: numbers, bools, strings, slices, structs and arrays of such. -/
def laidFs (P : Program) (lf : TypeId → Bool) : Nat → List Field → Bool
  | _, [] => true
  | k, f :: fs => f.offset == k && lf f.type && laidFs P lf (k + szOf P f.type) fs
def sumFs (P : Program) : List Field → Nat
  | [] => 0
  | f :: fs => szOf P f.type + sumFs P fs
def laid (P : Program) : Nat → TypeId → Bool
  | 0, _ => false
  | n + 1, t =>
    match P.underlying t with
    | some .bool => szOf P t == 1
    | some (.int _) => szOf P t == 1
    | some .string => szOf P t == 1
    | some (.slice e) => szOf P t == 1 && decide (0 < szOf P e) && laid P n e
    | some (.struct fs) => laidFs P (laid P n) 0 fs.toList && szOf P t == sumFs P fs.toList
    | some (.array m e) => laid P n e && szOf P t == m * szOf P e
    | _ => false
def FitFs (P : Program) (F : TypeId → List AV → Prop) : List Field → List AV → Prop
  | [], cs => cs = []
  | f :: fs, cs => ∃ a b, cs = a ++ b ∧ a.length = szOf P f.type ∧ F f.type a ∧ FitFs P F fs b
/-- Cells that a value of a type may have. -/
def Fit (P : Program) : Nat → TypeId → List AV → Prop
  | 0, _, _ => False
  | n + 1, t, cs =>
    match P.underlying t with
    | some .bool => ∃ b : Bool, cs = [.v (.bool b)]
    | some (.int k) => ∃ x : Int, (Lit.int k x).wf = true ∧ cs = [.v (.int k x)]
    | some .string => ∃ s : ByteArray, s.size ≤ reachBytes ∧ cs = [.v (.string s)]
    | some (.slice e) => ∃ ys : List (List AV), ys.length ≤ maxLen ∧ ys.length * P.bytesOf e ≤ reachBytes ∧ (∀ y ∈ ys, Fit P n e y) ∧ cs = [.lst (szOf P e) ys]
    | some (.struct fs) => FitFs P (Fit P n) fs.toList cs
    | some (.array m e) => ∃ ps : List (List AV), ps.length = m ∧ (∀ p ∈ ps, p.length = szOf P e ∧ Fit P n e p) ∧ cs = ps.flatten
    | _ => False
section
variable {H : Type} {enc : TypeId × Value → H} {P : Program} {W : World} {base : Nat} {spare : Nat → Bool} {held : Bool}
theorem mapM_cons_some {α β : Type} {f : α → Option β} {x : α} {l : List α} {r : List β} (h : (x :: l).mapM f = some r) : ∃ y r', f x = some y ∧ l.mapM f = some r' ∧ r = y :: r' := by
  rw [List.mapM_cons] at h
  obtain ⟨y, h1, h⟩ := Option.bind_eq_some_iff.1 h
  obtain ⟨r', h2, h⟩ := Option.bind_eq_some_iff.1 h
  exact ⟨y, r', h1, h2, by simpa using h.symm⟩
theorem weightsAll_mem {e : TypeId} : ∀ {l : List (DataW H)} {d : DataW H}, d ∈ l → ∀ k ∈ d.weights P e, k ∈ DataW.weightsAll P e l
  | x :: l, d, hd, k, hk => by
    simp only [DataW.weightsAll, List.mem_append]
    rcases List.mem_cons.1 hd with rfl | hd
    · exact .inl hk
    · exact .inr (weightsAll_mem hd k hk)
  | [], d, hd, _, _ => by simp at hd
/-- What it weighs is within reach. -/
def Light (P : Program) (t : TypeId) (x : DataW H × List MemPlace) : Prop := ∀ k ∈ x.1.weights P t, k ≤ reachBytes
/-- A value's cells are told as cells of its type. -/
def Told (P : Program) (W : World) (n : Nat) (t : TypeId) (cs : List Value) : Prop := ∃ avs, Fit P n t avs ∧ RelL (hpAll W) sg0 avs cs
theorem fs_told {F : TypeId → List AV → Prop} {lf : TypeId → Bool} {g : Field → List Value → Option (DataW H × List MemPlace)} (hg : ∀ f c x, lf f.type = true → Light P f.type x → g f c = some x → ∃ avs, F f.type avs ∧ RelL (hpAll W) sg0 avs c) :
    ∀ (fs : List Field) (k : Nat) (cs : List Value), laidFs P lf k fs = true → cs.length = k + sumFs P fs → (∀ f ∈ fs, ∃ x, Light P f.type x ∧ g f ((cs.drop f.offset).take (szOf P f.type)) = some x) →
      ∃ avs, FitFs P F fs avs ∧ RelL (hpAll W) sg0 avs (cs.drop k)
  | [], k, cs, hl, hlen, h => by
    refine ⟨[], rfl, ?_⟩
    rw [List.drop_eq_nil_of_le (by simp [sumFs] at hlen; omega)]
    simp [RelL]
  | f :: fs, k, cs, hl, hlen, h => by
    simp only [laidFs, Bool.and_eq_true, beq_iff_eq] at hl
    obtain ⟨⟨hoff, hlf⟩, hl⟩ := hl
    simp only [sumFs] at hlen
    obtain ⟨y, h0, h1⟩ := h f (by simp)
    obtain ⟨a, ha1, ha2⟩ := hg f _ y hlf h0 h1
    obtain ⟨b, hb1, hb2⟩ := fs_told hg fs (k + szOf P f.type) cs hl (by omega) (fun f' hf' => h f' (by simp [hf']))
    refine ⟨a ++ b, ⟨a, b, rfl, ?_, ha1, hb1⟩, ?_⟩
    · rw [ha2.length, hoff]
      simp
      omega
    · have := ha2.app hb2
      rw [hoff, ← List.drop_drop] at this
      rwa [List.take_append_drop] at this
theorem arr_told {F : List AV → Prop} {sz : Nat} {e : TypeId} {g : List Value → Option (DataW H × List MemPlace)} (hg : ∀ c x, Light P e x → g c = some x → ∃ avs, F avs ∧ RelL (hpAll W) sg0 avs c) :
    ∀ (m k : Nat) (cs : List Value), cs.length = (k + m) * sz → (∀ i, k ≤ i → i < k + m → ∃ x, Light P e x ∧ g ((cs.drop (i * sz)).take sz) = some x) →
      ∃ ps : List (List AV), ps.length = m ∧ (∀ p ∈ ps, p.length = sz ∧ F p) ∧ RelL (hpAll W) sg0 ps.flatten (cs.drop (k * sz))
  | 0, k, cs, hlen, h => by
    refine ⟨[], rfl, by simp, ?_⟩
    rw [List.drop_eq_nil_of_le (by simp at hlen; omega)]
    simp [RelL]
  | m + 1, k, cs, hlen, h => by
    obtain ⟨y, h0, h1⟩ := h k (Nat.le_refl _) (by omega)
    obtain ⟨a, ha1, ha2⟩ := hg _ y h0 h1
    obtain ⟨ps, hp1, hp2, hp3⟩ := arr_told hg m (k + 1) cs (by rw [hlen]; congr 1; omega) (fun i h1 h2 => h i (by omega) (by omega))
    have hfit : k * sz + sz ≤ cs.length := by
      rw [hlen]
      have : (k + 1) * sz ≤ (k + (m + 1)) * sz := Nat.mul_le_mul_right _ (by omega)
      rw [Nat.add_mul, Nat.one_mul] at this
      exact this
    refine ⟨a :: ps, by simp [hp1], fun p hp => ?_, ?_⟩
    · rcases List.mem_cons.1 hp with rfl | hp
      · refine ⟨?_, ha1⟩
        rw [ha2.length]
        simp
        omega
      · exact hp2 p hp
    · rw [List.flatten_cons]
      have := ha2.app hp3
      rw [Nat.add_mul, Nat.one_mul, ← List.drop_drop] at this
      rwa [List.take_append_drop] at this
theorem trod_told : ∀ (n fuel : Nat) (t : TypeId) (cs : List Value) (x : DataW H × List MemPlace), laid P n t = true → Light P t x → DataW.trod enc P W base spare held fuel t cs = some x → Told P W n t cs
  | 0, fuel, t, cs, x, hl, hlt, h => by simp [laid] at hl
  | n + 1, 0, t, cs, x, hl, hlt, h => by simp [DataW.trod] at h
  | n + 1, fuel + 1, t, cs, x, hl, hlt, h => by
    unfold laid at hl
    unfold Told Fit
    cases hu : P.underlying t with
    | none => rw [hu] at hl; simp at hl
    | some d =>
      rw [hu] at hl
      cases d
      case bool =>
        have hc : ∃ b, cs = [.bool b] := by
          unfold DataW.trod at h
          rw [hu] at h
          split at h <;> first | exact ⟨_, rfl⟩ | (rename_i he _; cases he; done) | (rename_i he _ _; cases he; done) | (simp at h; done) | (rename_i he; cases he; done) | (rename_i he; simp at he; done) | skip
        obtain ⟨b, rfl⟩ := hc
        exact ⟨[.v (.bool b)], ⟨b, rfl⟩, by simp only [RelL, Rel]; exact ⟨⟨trivial, rfl⟩, trivial⟩⟩
      case int k =>
        have hc : ∃ x, (Lit.int k x).wf = true ∧ cs = [.int k x] := by
          unfold DataW.trod at h
          rw [hu] at h
          split at h <;> first | (rename_i he _; cases he; done) | (rename_i he _ _; cases he; done) | (simp at h; done) | (rename_i he; cases he; done) | (rename_i he; simp at he; done) | skip
          rename_i k1 k2 x1 he
          simp only [Option.some.injEq, TypeDesc.int.injEq] at he
          subst he
          split at h
          · rename_i hw
            obtain ⟨rfl, hw⟩ := hw
            exact ⟨x1, hw, rfl⟩
          · simp at h
        obtain ⟨x, hw, rfl⟩ := hc
        exact ⟨[.v (.int k x)], ⟨x, hw, rfl⟩, by simp only [RelL, Rel]; exact ⟨⟨trivial, rfl⟩, trivial⟩⟩
      case string =>
        have hc : ∃ s : ByteArray, s.size ≤ reachBytes ∧ cs = [.string s] := by
          unfold DataW.trod at h
          rw [hu] at h
          split at h <;> first | (rename_i he _; cases he; done) | (rename_i he _ _; cases he; done) | (simp at h; done) | (rename_i he; cases he; done) | (rename_i he; simp at he; done) | skip
          rename_i s1 _
          split at h
          · rename_i hw
            simp only [Option.some.injEq] at h
            subst h
            have := hlt s1.data.toList.length (by simp [DataW.weights])
            exact ⟨s1, by simpa using this, rfl⟩
          · simp at h
        obtain ⟨x, hw, rfl⟩ := hc
        exact ⟨[.v (.string x)], ⟨x, hw, rfl⟩, by simp only [RelL, Rel]; exact ⟨⟨trivial, rfl⟩, trivial⟩⟩
      case slice e =>
        simp only [Bool.and_eq_true, decide_eq_true_eq] at hl
        obtain ⟨⟨_, hpos⟩, hle⟩ := hl
        rcases Deep.open_slice hu h with ⟨rfl, _⟩ | ⟨a, len, cap, m, n', D, Pl, rfl, hb, hlc, hcm, hm, rfl, hel⟩
        · exact ⟨[.lst (szOf P e) []], ⟨[], by simp, by simp, by simp, rfl⟩, by simp only [RelL, Rel]; exact ⟨⟨⟨none, 0, rfl, by simp, by simp⟩, rfl⟩, trivial⟩⟩
        · have hlm : len ≤ m := by rw [hm]; split <;> omega
          have hone : ∀ i, i < len → ∃ avs, Fit P n e avs ∧ avs.length = szOf P e ∧ a.spot = none ∧ RelCs (hpAll W) a (i * szOf P e) avs := fun i hi => by
            obtain ⟨cs', h1, h2⟩ := hel i (by omega)
            have hli : Light P e (D i, Pl i) := fun k hk => hlt k (by
              simp only [DataW.weights, hu, List.mem_cons, List.mem_append]
              exact .inr (.inl (weightsAll_mem (List.mem_map.2 ⟨i, by simpa using hi, rfl⟩) k hk)))
            obtain ⟨avs, h3, h4⟩ := trod_told n n' e cs' _ hle hli h2
            obtain ⟨_, h5, h6⟩ := World.cells?_some h1
            have hsz : cs'.length = szOf P e := h5
            have hsp : a.spot = none := by
              obtain ⟨cs0, g1, _⟩ := hel 0 (by omega)
              obtain ⟨_, g2, g3⟩ := World.cells?_some g1
              have g4 : cs0.length = szOf P e := g2
              have hc0 := g3 0 hpos
              have hz : (a.add (0 * P.cellsOf e)).add 0 = a := by rw [Nat.zero_mul]; rfl
              rw [hz, List.getElem?_eq_getElem (show 0 < cs0.length by omega)] at hc0
              unfold World.cell? at hc0
              split at hc0
              · cases hs : a.spot with
                | none => rfl
                | some q => rw [hs] at hc0; simp at hc0
              · simp at hc0
            refine ⟨avs, h3, by rw [h4.length, hsz], hsp, relCs_in (ImLe.refl _) avs cs' _ h4 fun j u hj => ?_⟩
            rw [icell_all, ← add_add hsp]
            have hj' : j < szOf P e := by
              rw [← hsz]
              exact (List.getElem?_eq_some_iff.1 hj).1
            have h7 := h6 j hj'
            change W.cell? ((a.add (i * szOf P e)).add j) = _ at h7
            rw [h7]
            exact hj
          obtain ⟨A, hA⟩ := Deep.choose_lt (α := List AV) (p := fun i avs => Fit P n e avs ∧ avs.length = szOf P e ∧ a.spot = none ∧ RelCs (hpAll W) a (i * szOf P e) avs) hone
          have hrow : ∀ (l k : Nat), k + l ≤ len → RelRow (hpAll W) a (k * szOf P e) (szOf P e) ((List.range' k l).map A) := by
            intro l
            induction l with
            | zero => intro k _; simp [RelRow]
            | succ l ih =>
              intro k hk
              rw [List.range'_succ, List.map_cons]
              simp only [RelRow]
              obtain ⟨_, h2, _, h4⟩ := hA k (by omega)
              refine ⟨h2, h4, ?_⟩
              have := ih (k + 1) (by omega)
              rw [Nat.add_mul, Nat.one_mul] at this
              exact this
          have hlen : ((List.range' 0 len).map A).length = len := by simp
          have hby : len * P.bytesOf e ≤ reachBytes := by
            have h8 := hlt _ (by simp only [DataW.weights, hu]; exact List.mem_cons_self ..)
            simp only [List.length_map, List.length_range] at h8
            exact Nat.le_trans (Nat.mul_le_mul_right _ (Nat.le_add_right _ _)) h8
          refine ⟨[.lst (szOf P e) ((List.range' 0 len).map A)], ⟨_, by rw [hlen]; omega, by rw [hlen]; exact hby, fun y hy => ?_, rfl⟩, ?_⟩
          · obtain ⟨i, hi, rfl⟩ := List.mem_map.1 hy
            simp at hi
            exact (hA i (by omega)).1
          · simp only [RelL, Rel]
            refine ⟨⟨⟨some a, cap, by rw [hlen], by rw [hlen]; exact hlc, fun hne => ⟨a, rfl, ?_, ?_⟩⟩, rfl⟩, trivial⟩
            · have : 0 < len := by
                rcases Nat.eq_zero_or_pos len with h0 | h0
                · subst h0; simp at hne
                · exact h0
              exact (hA 0 this).2.2.1
            · have := hrow len 0 (by omega)
              rw [Nat.zero_mul] at this
              exact this
      case struct fs =>
        simp only [Bool.and_eq_true, beq_iff_eq] at hl
        obtain ⟨hfs, hsz⟩ := hl
        obtain ⟨xs, n', _, rfl, hlen, hxl, hf⟩ := DataW.trod_struct hu h
        have hlen' : cs.length = szOf P t := hlen
        obtain ⟨avs, h1, h2⟩ := fs_told (F := Fit P n) (lf := laid P n) (g := fun f c => DataW.trod enc P W base spare held n' f.type c) (fun f c x hlf hx hg => trod_told n n' f.type c x hlf hx hg) fs.toList 0 cs hfs (by omega) (fun f hf' => by
          obtain ⟨i, hi⟩ := List.mem_iff_getElem?.1 hf'
          have hi2 : fs[i]? = some f := by simpa using hi
          have hltx : i < xs.length := by rw [hxl]; simpa using (Array.getElem?_eq_some_iff.1 hi2).1
          exact ⟨xs[i], fun k hk => hlt k (by
            simp only [DataW.weights, hu]
            exact DataW.weights_mem_each (j := i) (t := f.type) (d := xs[i].1) (by simp [hi]) (by simp [hltx]) k hk), by rw [← List.getElem?_eq_getElem hltx]; exact hf i f hi2⟩)
        exact ⟨avs, h1, by simpa using h2⟩
      case array m e =>
        simp only [Bool.and_eq_true, beq_iff_eq] at hl
        obtain ⟨hle, hsz⟩ := hl
        obtain ⟨xs, n', _, rfl, hlen, hxl, hf⟩ := DataW.trod_array hu h
        have hlen' : cs.length = szOf P t := hlen
        obtain ⟨ps, h1, h2, h3⟩ := arr_told (F := Fit P n e) (sz := szOf P e) (e := e) (g := fun c => DataW.trod enc P W base spare held n' e c) (fun c x hx hg => trod_told n n' e c x hle hx hg) m 0 cs (by rw [hlen', hsz, Nat.zero_add]) (fun i _ hi => by
          have hltx : i < xs.length := by omega
          exact ⟨xs[i], fun k hk => hlt k (by
            simp only [DataW.weights, hu]
            exact weightsAll_mem (List.mem_map.2 ⟨xs[i], List.getElem_mem _, rfl⟩) k hk), by rw [← List.getElem?_eq_getElem hltx]; exact hf i (by omega)⟩)
        exact ⟨ps.flatten, ⟨ps, h1, h2, rfl⟩, by simpa using h3⟩
      all_goals simp at hl
end
end Go.Ai

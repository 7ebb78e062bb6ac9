/- What is handed in to a law, as abstract values. -/
import Derived.Test.YtmebpmghmghhkaaAiSound
import Derived.Deep.Slices
import Derived.OpenShut
import Derived.ChangeSame
import Derived.SizedLaws
import Derived.ProofKit
set_option linter.unusedVariables false
set_option linter.unusedSimpArgs false
namespace Go.Ai
/-- Types that lie as they are told here: numbers, bools, strings, slices, structs and arrays of such. -/
def laidFs (P : Program) (lf : TypeId → Bool) : Nat → List Field → Bool
  | _, [] => true
  | k, f :: fs => f.offset == k && lf f.type && laidFs P lf (k + szOf P f.type) fs
def sumFs (P : Program) : List Field → Nat
  | [] => 0
  | f :: fs => szOf P f.type + sumFs P fs
def laid (P : Program) : Nat → TypeId → Bool
  | 0, _ => false
  | n + 1, t =>
    match P.underlying t with
    | some .bool => szOf P t == 1
    | some (.int _) => szOf P t == 1
    | some .string => szOf P t == 1
    | some (.slice e) => szOf P t == 1 && decide (0 < szOf P e) && laid P n e
    | some (.struct fs) => laidFs P (laid P n) 0 fs.toList && szOf P t == sumFs P fs.toList
    | some (.array m e) => laid P n e && szOf P t == m * szOf P e
    | _ => false
def FitFs (P : Program) (F : TypeId → List AV → Prop) : List Field → List AV → Prop
  | [], cs => cs = []
  | f :: fs, cs => ∃ a b, cs = a ++ b ∧ a.length = szOf P f.type ∧ F f.type a ∧ FitFs P F fs b
/-- Cells that a value of a type may have. -/
def Fit (P : Program) : Nat → TypeId → List AV → Prop
  | 0, _, _ => False
  | n + 1, t, cs =>
    match P.underlying t with
    | some .bool => ∃ b : Bool, cs = [.v (.bool b)]
    | some (.int k) => ∃ x : Int, (Lit.int k x).wf = true ∧ cs = [.v (.int k x)]
    | some .string => ∃ s : ByteArray, s.size ≤ reachBytes ∧ cs = [.v (.string s)]
    | some (.slice e) => ∃ ys : List (List AV), ys.length ≤ maxLen ∧ ys.length * P.bytesOf e ≤ reachBytes ∧ (∀ y ∈ ys, Fit P n e y) ∧ cs = [.lst (szOf P e) ys]
    | some (.struct fs) => FitFs P (Fit P n) fs.toList cs
    | some (.array m e) => ∃ ps : List (List AV), ps.length = m ∧ (∀ p ∈ ps, p.length = szOf P e ∧ Fit P n e p) ∧ cs = ps.flatten
    | _ => False
section
variable {H : Type} {enc : TypeId × Value → H} {P : Program} {W : World} {base : Nat} {spare : Nat → Bool} {held : Bool}
theorem mapM_cons_some {α β : Type} {f : α → Option β} {x : α} {l : List α} {r : List β} (h : (x :: l).mapM f = some r) : ∃ y r', f x = some y ∧ l.mapM f = some r' ∧ r = y :: r' := by
  rw [List.mapM_cons] at h
  obtain ⟨y, h1, h⟩ := Option.bind_eq_some_iff.1 h
  obtain ⟨r', h2, h⟩ := Option.bind_eq_some_iff.1 h
  exact ⟨y, r', h1, h2, by simpa using h.symm⟩
theorem weightsAll_mem {e : TypeId} : ∀ {l : List (DataW H)} {d : DataW H}, d ∈ l → ∀ k ∈ d.weights P e, k ∈ DataW.weightsAll P e l
  | x :: l, d, hd, k, hk => by
    simp only [DataW.weightsAll, List.mem_append]
    rcases List.mem_cons.1 hd with rfl | hd
    · exact .inl hk
    · exact .inr (weightsAll_mem hd k hk)
  | [], d, hd, _, _ => by simp at hd
/-- What it weighs is within reach. -/
def Light (P : Program) (t : TypeId) (x : DataW H × List MemPlace) : Prop := ∀ k ∈ x.1.weights P t, k ≤ reachBytes
/-- A value's cells are told as cells of its type. -/
def Told (P : Program) (W : World) (n : Nat) (t : TypeId) (cs : List Value) : Prop := ∃ avs, Fit P n t avs ∧ RelL (hpAll W) sg0 avs cs
theorem fs_told {F : TypeId → List AV → Prop} {lf : TypeId → Bool} {g : Field → List Value → Option (DataW H × List MemPlace)} (hg : ∀ f c x, lf f.type = true → Light P f.type x → g f c = some x → ∃ avs, F f.type avs ∧ RelL (hpAll W) sg0 avs c) :
    ∀ (fs : List Field) (k : Nat) (cs : List Value), laidFs P lf k fs = true → cs.length = k + sumFs P fs → (∀ f ∈ fs, ∃ x, Light P f.type x ∧ g f ((cs.drop f.offset).take (szOf P f.type)) = some x) →
      ∃ avs, FitFs P F fs avs ∧ RelL (hpAll W) sg0 avs (cs.drop k)
  | [], k, cs, hl, hlen, h => by
    refine ⟨[], rfl, ?_⟩
    rw [List.drop_eq_nil_of_le (by simp [sumFs] at hlen; omega)]
    simp [RelL]
  | f :: fs, k, cs, hl, hlen, h => by
    simp only [laidFs, Bool.and_eq_true, beq_iff_eq] at hl
    obtain ⟨⟨hoff, hlf⟩, hl⟩ := hl
    simp only [sumFs] at hlen
    obtain ⟨y, h0, h1⟩ := h f (by simp)
    obtain ⟨a, ha1, ha2⟩ := hg f _ y hlf h0 h1
    obtain ⟨b, hb1, hb2⟩ := fs_told hg fs (k + szOf P f.type) cs hl (by omega) (fun f' hf' => h f' (by simp [hf']))
    refine ⟨a ++ b, ⟨a, b, rfl, ?_, ha1, hb1⟩, ?_⟩
    · rw [ha2.length, hoff]
      simp
      omega
    · have := ha2.app hb2
      rw [hoff, ← List.drop_drop] at this
      rwa [List.take_append_drop] at this
theorem arr_told {F : List AV → Prop} {sz : Nat} {e : TypeId} {g : List Value → Option (DataW H × List MemPlace)} (hg : ∀ c x, Light P e x → g c = some x → ∃ avs, F avs ∧ RelL (hpAll W) sg0 avs c) :
    ∀ (m k : Nat) (cs : List Value), cs.length = (k + m) * sz → (∀ i, k ≤ i → i < k + m → ∃ x, Light P e x ∧ g ((cs.drop (i * sz)).take sz) = some x) →
      ∃ ps : List (List AV), ps.length = m ∧ (∀ p ∈ ps, p.length = sz ∧ F p) ∧ RelL (hpAll W) sg0 ps.flatten (cs.drop (k * sz))
  | 0, k, cs, hlen, h => by
    refine ⟨[], rfl, by simp, ?_⟩
    rw [List.drop_eq_nil_of_le (by simp at hlen; omega)]
    simp [RelL]
  | m + 1, k, cs, hlen, h => by
    obtain ⟨y, h0, h1⟩ := h k (Nat.le_refl _) (by omega)
    obtain ⟨a, ha1, ha2⟩ := hg _ y h0 h1
    obtain ⟨ps, hp1, hp2, hp3⟩ := arr_told hg m (k + 1) cs (by rw [hlen]; congr 1; omega) (fun i h1 h2 => h i (by omega) (by omega))
    have hfit : k * sz + sz ≤ cs.length := by
      rw [hlen]
      have : (k + 1) * sz ≤ (k + (m + 1)) * sz := Nat.mul_le_mul_right _ (by omega)
      rw [Nat.add_mul, Nat.one_mul] at this
      exact this
    refine ⟨a :: ps, by simp [hp1], fun p hp => ?_, ?_⟩
    · rcases List.mem_cons.1 hp with rfl | hp
      · refine ⟨?_, ha1⟩
        rw [ha2.length]
        simp
        omega
      · exact hp2 p hp
    · rw [List.flatten_cons]
      have := ha2.app hp3
      rw [Nat.add_mul, Nat.one_mul, ← List.drop_drop] at this
      rwa [List.take_append_drop] at this
theorem trod_told : ∀ (n fuel : Nat) (t : TypeId) (cs : List Value) (x : DataW H × List MemPlace), laid P n t = true → Light P t x → DataW.trod enc P W base spare held fuel t cs = some x → Told P W n t cs
  | 0, fuel, t, cs, x, hl, hlt, h => by simp [laid] at hl
  | n + 1, 0, t, cs, x, hl, hlt, h => by simp [DataW.trod] at h
  | n + 1, fuel + 1, t, cs, x, hl, hlt, h => by
    unfold laid at hl
    unfold Told Fit
    cases hu : P.underlying t with
    | none => rw [hu] at hl; simp at hl
    | some d =>
      rw [hu] at hl
      cases d
      case bool =>
        have hc : ∃ b, cs = [.bool b] := by
          unfold DataW.trod at h
          rw [hu] at h
          split at h <;> first | exact ⟨_, rfl⟩ | (rename_i he _; cases he; done) | (rename_i he _ _; cases he; done) | (simp at h; done) | (rename_i he; cases he; done) | (rename_i he; simp at he; done) | skip
        obtain ⟨b, rfl⟩ := hc
        exact ⟨[.v (.bool b)], ⟨b, rfl⟩, by simp only [RelL, Rel]; exact ⟨⟨trivial, rfl⟩, trivial⟩⟩
      case int k =>
        have hc : ∃ x, (Lit.int k x).wf = true ∧ cs = [.int k x] := by
          unfold DataW.trod at h
          rw [hu] at h
          split at h <;> first | (rename_i he _; cases he; done) | (rename_i he _ _; cases he; done) | (simp at h; done) | (rename_i he; cases he; done) | (rename_i he; simp at he; done) | skip
          rename_i k1 k2 x1 he
          simp only [Option.some.injEq, TypeDesc.int.injEq] at he
          subst he
          split at h
          · rename_i hw
            obtain ⟨rfl, hw⟩ := hw
            exact ⟨x1, hw, rfl⟩
          · simp at h
        obtain ⟨x, hw, rfl⟩ := hc
        exact ⟨[.v (.int k x)], ⟨x, hw, rfl⟩, by simp only [RelL, Rel]; exact ⟨⟨trivial, rfl⟩, trivial⟩⟩
      case string =>
        have hc : ∃ s : ByteArray, s.size ≤ reachBytes ∧ cs = [.string s] := by
          unfold DataW.trod at h
          rw [hu] at h
          split at h <;> first | (rename_i he _; cases he; done) | (rename_i he _ _; cases he; done) | (simp at h; done) | (rename_i he; cases he; done) | (rename_i he; simp at he; done) | skip
          rename_i s1 _
          split at h
          · rename_i hw
            simp only [Option.some.injEq] at h
            subst h
            have := hlt s1.data.toList.length (by simp [DataW.weights])
            exact ⟨s1, by simpa using this, rfl⟩
          · simp at h
        obtain ⟨x, hw, rfl⟩ := hc
        exact ⟨[.v (.string x)], ⟨x, hw, rfl⟩, by simp only [RelL, Rel]; exact ⟨⟨trivial, rfl⟩, trivial⟩⟩
      case slice e =>
        simp only [Bool.and_eq_true, decide_eq_true_eq] at hl
        obtain ⟨⟨_, hpos⟩, hle⟩ := hl
        rcases Deep.open_slice hu h with ⟨rfl, _⟩ | ⟨a, len, cap, m, n', D, Pl, rfl, hb, hlc, hcm, hm, rfl, hel⟩
        · exact ⟨[.lst (szOf P e) []], ⟨[], by simp, by simp, by simp, rfl⟩, by simp only [RelL, Rel]; exact ⟨⟨⟨none, 0, rfl, by simp, by simp⟩, rfl⟩, trivial⟩⟩
        · have hlm : len ≤ m := by rw [hm]; split <;> omega
          have hone : ∀ i, i < len → ∃ avs, Fit P n e avs ∧ avs.length = szOf P e ∧ a.spot = none ∧ RelCs (hpAll W) a (i * szOf P e) avs := fun i hi => by
            obtain ⟨cs', h1, h2⟩ := hel i (by omega)
            have hli : Light P e (D i, Pl i) := fun k hk => hlt k (by
              simp only [DataW.weights, hu, List.mem_cons, List.mem_append]
              exact .inr (.inl (weightsAll_mem (List.mem_map.2 ⟨i, by simpa using hi, rfl⟩) k hk)))
            obtain ⟨avs, h3, h4⟩ := trod_told n n' e cs' _ hle hli h2
            obtain ⟨_, h5, h6⟩ := World.cells?_some h1
            have hsz : cs'.length = szOf P e := h5
            have hsp : a.spot = none := by
              obtain ⟨cs0, g1, _⟩ := hel 0 (by omega)
              obtain ⟨_, g2, g3⟩ := World.cells?_some g1
              have g4 : cs0.length = szOf P e := g2
              have hc0 := g3 0 hpos
              have hz : (a.add (0 * P.cellsOf e)).add 0 = a := by rw [Nat.zero_mul]; rfl
              rw [hz, List.getElem?_eq_getElem (show 0 < cs0.length by omega)] at hc0
              unfold World.cell? at hc0
              split at hc0
              · cases hs : a.spot with
                | none => rfl
                | some q => rw [hs] at hc0; simp at hc0
              · simp at hc0
            refine ⟨avs, h3, by rw [h4.length, hsz], hsp, relCs_in (ImLe.refl _) avs cs' _ h4 fun j u hj => ?_⟩
            rw [icell_all, ← add_add hsp]
            have hj' : j < szOf P e := by
              rw [← hsz]
              exact (List.getElem?_eq_some_iff.1 hj).1
            have h7 := h6 j hj'
            change W.cell? ((a.add (i * szOf P e)).add j) = _ at h7
            rw [h7]
            exact hj
          obtain ⟨A, hA⟩ := Deep.choose_lt (α := List AV) (p := fun i avs => Fit P n e avs ∧ avs.length = szOf P e ∧ a.spot = none ∧ RelCs (hpAll W) a (i * szOf P e) avs) hone
          have hrow : ∀ (l k : Nat), k + l ≤ len → RelRow (hpAll W) a (k * szOf P e) (szOf P e) ((List.range' k l).map A) := by
            intro l
            induction l with
            | zero => intro k _; simp [RelRow]
            | succ l ih =>
              intro k hk
              rw [List.range'_succ, List.map_cons]
              simp only [RelRow]
              obtain ⟨_, h2, _, h4⟩ := hA k (by omega)
              refine ⟨h2, h4, ?_⟩
              have := ih (k + 1) (by omega)
              rw [Nat.add_mul, Nat.one_mul] at this
              exact this
          have hlen : ((List.range' 0 len).map A).length = len := by simp
          have hby : len * P.bytesOf e ≤ reachBytes := by
            have h8 := hlt _ (by simp only [DataW.weights, hu]; exact List.mem_cons_self ..)
            simp only [List.length_map, List.length_range] at h8
            exact Nat.le_trans (Nat.mul_le_mul_right _ (Nat.le_add_right _ _)) h8
          refine ⟨[.lst (szOf P e) ((List.range' 0 len).map A)], ⟨_, by rw [hlen]; omega, by rw [hlen]; exact hby, fun y hy => ?_, rfl⟩, ?_⟩
          · obtain ⟨i, hi, rfl⟩ := List.mem_map.1 hy
            simp at hi
            exact (hA i (by omega)).1
          · simp only [RelL, Rel]
            refine ⟨⟨⟨some a, cap, by rw [hlen], by rw [hlen]; exact hlc, fun hne => ⟨a, rfl, ?_, ?_⟩⟩, rfl⟩, trivial⟩
            · have : 0 < len := by
                rcases Nat.eq_zero_or_pos len with h0 | h0
                · subst h0; simp at hne
                · exact h0
              exact (hA 0 this).2.2.1
            · have := hrow len 0 (by omega)
              rw [Nat.zero_mul] at this
              exact this
      case struct fs =>
        simp only [Bool.and_eq_true, beq_iff_eq] at hl
        obtain ⟨hfs, hsz⟩ := hl
        obtain ⟨xs, n', _, rfl, hlen, hxl, hf⟩ := DataW.trod_struct hu h
        have hlen' : cs.length = szOf P t := hlen
        obtain ⟨avs, h1, h2⟩ := fs_told (F := Fit P n) (lf := laid P n) (g := fun f c => DataW.trod enc P W base spare held n' f.type c) (fun f c x hlf hx hg => trod_told n n' f.type c x hlf hx hg) fs.toList 0 cs hfs (by omega) (fun f hf' => by
          obtain ⟨i, hi⟩ := List.mem_iff_getElem?.1 hf'
          have hi2 : fs[i]? = some f := by simpa using hi
          have hltx : i < xs.length := by rw [hxl]; simpa using (Array.getElem?_eq_some_iff.1 hi2).1
          exact ⟨xs[i], fun k hk => hlt k (by
            simp only [DataW.weights, hu]
            exact DataW.weights_mem_each (j := i) (t := f.type) (d := xs[i].1) (by simp [hi]) (by simp [hltx]) k hk), by rw [← List.getElem?_eq_getElem hltx]; exact hf i f hi2⟩)
        exact ⟨avs, h1, by simpa using h2⟩
      case array m e =>
        simp only [Bool.and_eq_true, beq_iff_eq] at hl
        obtain ⟨hle, hsz⟩ := hl
        obtain ⟨xs, n', _, rfl, hlen, hxl, hf⟩ := DataW.trod_array hu h
        have hlen' : cs.length = szOf P t := hlen
        obtain ⟨ps, h1, h2, h3⟩ := arr_told (F := Fit P n e) (sz := szOf P e) (e := e) (g := fun c => DataW.trod enc P W base spare held n' e c) (fun c x hx hg => trod_told n n' e c x hle hx hg) m 0 cs (by rw [hlen', hsz, Nat.zero_add]) (fun i _ hi => by
          have hltx : i < xs.length := by omega
          exact ⟨xs[i], fun k hk => hlt k (by
            simp only [DataW.weights, hu]
            exact weightsAll_mem (List.mem_map.2 ⟨xs[i], List.getElem_mem _, rfl⟩) k hk), by rw [← List.getElem?_eq_getElem hltx]; exact hf i (by omega)⟩)
        exact ⟨ps.flatten, ⟨ps, h1, h2, rfl⟩, by simpa using h3⟩
      all_goals simp at hl
end
end Go.Ai
set_option linter.unusedVariables false
set_option linter.unusedSimpArgs false
namespace Go.Ai
open Go.ChangeShapes Go.WideShapes Go.ChangeAt Go.RowKit
/-- An argument that a value of a type may be. -/
def ArgFit (P : Program) (n : Nat) (t : TypeId) (a : AV) : Prop :=
  match isAg P t with
  | some true => ∃ cs, a = .agg cs ∧ Fit P n t cs
  | _ => Fit P n t [a]
def ArgsFit (P : Program) (n : Nat) : List TypeId → List AV → Prop
  | [], [] => True
  | t :: ts, a :: as => ArgFit P n t a ∧ ArgsFit P n ts as
  | _, _ => False
section
variable {H : Type} {enc : TypeId × Value → H} {P : Program} {W W' : World} {base : Nat} {r : Reach} {n : Nat}
theorem okWide_notAgg {t : TypeId} {v : Value} (hl : laid P n t = true) (ha : isAg P t ≠ some true) (h : Value.okWide P W r base t v) : v.cells.toList = [v] := by
  have hna : ∀ cs, v ≠ .agg cs := by
    rintro cs rfl
    unfold isAg at ha
    cases n with
    | zero => simp [laid] at hl
    | succ n =>
      unfold laid at hl
      cases hu : P.underlying t with
      | none => rw [hu] at hl; simp at hl
      | some d =>
        rw [hu] at ha hl
        unfold Value.okWide Cell.okWide Cell.ok at h
        rw [hu] at h
        cases d <;> simp_all
  cases v <;> first | rfl | exact absurd rfl (hna _)
theorem arg_told {t : TypeId} {v : Value} {d : DataW H} {ps : List MemPlace} {spare : Nat → Bool} {held : Bool} (hl : laid P n t = true) (hw : ∀ k ∈ d.weights P t, k ≤ reachBytes) (hok : Value.okWide P W r base t v) (h : DataW.Trod enc P W 0 spare held t v d ps) :
    ∃ a, ArgFit P n t a ∧ Rel (hpAll W) sg0 a v := by
  obtain ⟨fuel, h⟩ := h
  obtain ⟨avs, h1, h2⟩ := trod_told n fuel t _ (d, ps) hl hw h
  unfold ArgFit
  by_cases ha : isAg P t = some true
  · rw [ha]
    have : ∃ cs, v = .agg cs := by
      unfold isAg at ha
      cases hu : P.underlying t with
      | none => rw [hu] at ha; simp at ha
      | some d =>
        rw [hu] at ha
        unfold Value.okWide at hok
        rw [hu] at hok
        cases d <;> simp at ha
        · obtain ⟨cs, h, _⟩ := hok; exact ⟨cs, h⟩
        · obtain ⟨cs, h, _⟩ := hok; exact ⟨cs, h⟩
    obtain ⟨cs, rfl⟩ := this
    exact ⟨.agg avs, ⟨avs, rfl, h1⟩, by simp only [Rel]; exact ⟨cs.toList, by simp, h2⟩⟩
  · rw [okWide_notAgg hl ha hok] at h2
    match avs, h1, h2 with
    | [a], h1, h2 =>
      simp only [RelL] at h2
      refine ⟨a, ?_, h2.1.1⟩
      split
      · rename_i he; exact absurd he ha
      · exact h1
    | [], _, h2 => simp [RelL] at h2
    | _ :: _ :: _, _, h2 => simp [RelL] at h2
theorem args_told {spare : Nat → Bool} {held : Bool} : ∀ {ts : List TypeId} {vs : List Value} {ds : List (DataW H)} {ps : List MemPlace}, (∀ t ∈ ts, laid P n t = true) → (∀ (j : Nat) t d, ts[j]? = some t → ds[j]? = some d → ∀ k ∈ d.weights P t, k ≤ reachBytes) → (∀ (j : Nat) t v, ts[j]? = some t → vs[j]? = some v → Value.okWide P W r base t v) →
    DataW.TrodAll enc P W 0 spare held ts vs ds ps → ∃ as, ArgsFit P n ts as ∧ RelT (hpAll W) sg0 as vs
  | [], [], [], ps, _, _, _, _ => ⟨[], trivial, by simp [RelT]⟩
  | t :: ts, v :: vs, d :: ds, ps, hl, hw, hok, h => by
    obtain ⟨p, q, h1, h2, _⟩ := h
    obtain ⟨a, h3, h4⟩ := arg_told (hl t (by simp)) (hw 0 t d rfl rfl) (hok 0 t v rfl rfl) h1
    obtain ⟨as, h5, h6⟩ := args_told (fun t ht => hl t (by simp [ht])) (fun j t d h1 h2 => hw (j + 1) t d (by simpa using h1) (by simpa using h2)) (fun j t v h1 h2 => hok (j + 1) t v (by simpa using h1) (by simpa using h2)) h2
    exact ⟨a :: as, ⟨h3, h5⟩, by simp only [RelT]; exact ⟨h4, h6⟩⟩
  | [], _ :: _, _, _, _, _, _, h => h.elim
  | [], [], _ :: _, _, _, _, _, h => h.elim
  | _ :: _, [], _, _, _, _, _, h => h.elim
  | _ :: _, _ :: _, [], _, _, _, _, h => h.elim
theorem args_stay (hlo : laidOutB P = true) (hb : Below W.heap.size W W') {sp : Nat → Bool} : ∀ {ts : List TypeId} {vs : List Value} {ds : List (DataW H)} {ps : List MemPlace}, (∀ t ∈ ts, P.readableRec t = true ∧ t < P.types.size) →
    DataW.TrodAll enc P W 0 (fun _ => true) true ts vs ds ps → (∀ x ∈ ps, x.block < W.heap.size) → (∀ x ∈ ps, sp x.block = true) → DataW.TrodAll enc P W' 0 sp true ts vs ds ps
  | [], [], [], ps, _, h, _, _ => h
  | t :: ts, v :: vs, d :: ds, ps, hr, h, hlt, hsp => by
    obtain ⟨p, q, h1, h2, rfl⟩ := h
    refine ⟨p, q, WideElems.Trod_stays hlo (hr t (by simp)).1 (hr t (by simp)).2 h1 (fun x hx => hb.same (hlt x (by simp [hx]))) (fun x hx => hsp x (by simp [hx])), args_stay hlo hb (fun t ht => hr t (by simp [ht])) h2 (fun x hx => hlt x (by simp [hx])) (fun x hx => hsp x (by simp [hx])), rfl⟩
  | [], _ :: _, _, _, _, h, _, _ => h.elim
  | [], [], _ :: _, _, _, h, _, _ => h.elim
  | _ :: _, [], _, _, _, h, _, _ => h.elim
  | _ :: _, _ :: _, [], _, _, h, _, _ => h.elim
/-- The step of a law's row. -/
theorem law_step {C : Cfg} (hprim : PrimOK C) {g : FuncId} {f : Func} {s : ChangeSpec} {m tb : Nat} {args : Array Value} {ds gs : List (DataW H)} {vt : List TypeId} {before : List MemPlace} (hlo : laidOutB C.P = true) (hall : (f.params.toList.all fun t => C.P.readableRec t && decide (t < C.P.types.size) && laid C.P n t) = true)
    (hvars : s.vars = []) (hspec : ∀ ds : List (DataW H), ds.length = f.params.size → (s.fn H (ds ++ [])).results = [.lit (.bool true)] ∧ (s.fn H (ds ++ [])).args = ds ∧ (s.fn H (ds ++ [])).vars = [])
    (hres : f.resultTypes = #[tb]) (htb : C.P.underlying tb = some .bool)
    (hval : ∀ (j : Nat) t v, f.params[j]? = some t → args[j]? = some v → Value.okWide C.P W .any base t v) (hW : DataW.Whole enc C.P f.params.toList s.vars false W args.toList ds gs before)
    (hsz : (DataW.weightsEach C.P (f.params.toList ++ vt) (ds ++ gs)).all (· ≤ reachBytes) = true) (walk : ∀ as, ArgsFit C.P n f.params.toList as → wpF C m g as [] fun r _ => r = .v (.bool true)) :
    Calls C.P g args W fun e W' => ∃ v, e = .returned v ∧ s.post enc C.P f false true false false W args v W' := by
  have hts : ∀ t ∈ f.params.toList, C.P.readableRec t = true ∧ t < C.P.types.size ∧ laid C.P n t = true := fun t ht => by
    have := List.all_eq_true.1 hall t ht
    simp only [Bool.and_eq_true, decide_eq_true_eq] at this
    exact ⟨this.1.1, this.1.2, this.2⟩
  have hW' := hW
  obtain ⟨p, q, hA, hV, rfl, _, _⟩ := hW
  have hgs : gs = [] ∧ q = [] := by
    rw [hvars] at hV
    cases gs with
    | nil => exact ⟨rfl, hV⟩
    | cons g gs => exact hV.elim
  obtain ⟨rfl, rfl⟩ := hgs
  obtain ⟨as, h1, h2⟩ := args_told (n := n) (r := .any) (base := base) (fun t ht => (hts t ht).2.2) (fun j t d h1 h2 k hk => by
    have := List.all_eq_true.1 hsz k (DataW.weights_mem_each (j := j) (t := t) (d := d) (by rw [List.getElem?_append_left (List.getElem?_eq_some_iff.1 h1).1]; exact h1) (by rw [List.getElem?_append_left (List.getElem?_eq_some_iff.1 h2).1]; exact h2) k hk)
    simpa using this) (fun j t v h1 h2 => hval j t v (by simpa using h1) (by simpa using h2)) hA
  have hheap : HeapRel (hpAll W) sg0 [] W := by
    refine ⟨fun k o h => h, ?_, ?_, ?_, ?_⟩
    · intro id b hb
      simp [blk] at hb
    · intro i j b c v w k hb
      simp [blk] at hb
    · intro id v hv
      simp [sg0] at hv
    · intro id v k hv
      simp [sg0] at hv
  have hcall := ((wpF_sound C hprim m).2 g as [] _ args.toList W (hpAll W) sg0 h2 hheap (walk as h1)).2
  refine hcall.mono fun e W' ⟨v, he, rr, H', hp', σ', hk, _, hev, _, hrel⟩ => ⟨v, he, ?_⟩
  subst hk
  simp only [Rel] at hrel
  subst hrel
  have hb : Below W.heap.size W W' := ⟨hev.os, hev.tape, hev.out, hev.size, fun k hk => hev.keep k hk (own0 k)⟩
  have hlen : ds.length = f.params.size := by
    have : ∀ {ts : List TypeId} {vs : List Value} {ds : List (DataW H)} {ps : List MemPlace}, DataW.TrodAll enc C.P W 0 (fun _ => true) true ts vs ds ps → ds.length = ts.length := by
      intro ts
      induction ts with
      | nil => intro vs ds ps h; cases vs <;> cases ds <;> first | rfl | exact h.elim
      | cons t ts ih =>
        intro vs ds ps h
        cases vs with
        | nil => exact h.elim
        | cons v vs =>
          cases ds with
          | nil => exact h.elim
          | cons d ds =>
            obtain ⟨p, q, _, h2, _⟩ := h
            simp [ih h2]
    have := this hA
    simpa using this
  obtain ⟨e1, e2, e3⟩ := hspec ds hlen
  simp only [List.append_nil] at hW'
  have hlt : ∀ x ∈ p, x.block < W.heap.size := fun x hx => by simpa using hW'.lt x (by simpa using hx)
  refine ⟨ds, [], p, [], p, [], hW', ?_, ?_, ?_, hb.frame _, fun h => by cases h⟩
  · rw [hres, List.append_nil]
    have := e1
    rw [List.append_nil] at this
    rw [this]
    exact trodAll_mk1 (shut_bool htb true)
  · have := e2
    rw [List.append_nil] at this
    rw [List.append_nil, this]
    exact args_stay hlo hb (fun t ht => ⟨(hts t ht).1, (hts t ht).2.1⟩) hA hlt (fun x hx => by simpa using hlt x hx)
  · have := e3
    rw [List.append_nil] at this
    rw [hvars, List.append_nil, this]
    rfl
end
end Go.Ai

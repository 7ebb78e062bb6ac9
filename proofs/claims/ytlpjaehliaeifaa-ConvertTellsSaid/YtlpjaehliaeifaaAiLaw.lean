/- From the abstract machine's word on a law to the law's row. -/
import Derived.Test.YtlpjaehliaeifaaAiFit
import Derived.ProofKit
set_option linter.unusedVariables false
set_option linter.unusedSimpArgs false
namespace Go.Ai
open Go.ChangeShapes Go.WideShapes Go.ChangeAt Go.RowKit
/-- An argument that a value of a type may be. -/
def ArgFit (P : Program) (n : Nat) (t : TypeId) (a : AV) : Prop :=
  match isAg P t with
  | some true => ∃ cs, a = .agg cs ∧ Fit P n t cs
  | _ => Fit P n t [a]
def ArgsFit (P : Program) (n : Nat) : List TypeId → List AV → Prop
  | [], [] => True
  | t :: ts, a :: as => ArgFit P n t a ∧ ArgsFit P n ts as
  | _, _ => False
section
variable {H : Type} {enc : TypeId × Value → H} {P : Program} {W W' : World} {base : Nat} {r : Reach} {n : Nat}
theorem okWide_notAgg {t : TypeId} {v : Value} (hl : laid P n t = true) (ha : isAg P t ≠ some true) (h : Value.okWide P W r base t v) : v.cells.toList = [v] := by
  have hna : ∀ cs, v ≠ .agg cs := by
    rintro cs rfl
    unfold isAg at ha
    cases n with
    | zero => simp [laid] at hl
    | succ n =>
      unfold laid at hl
      cases hu : P.underlying t with
      | none => rw [hu] at hl; simp at hl
      | some d =>
        rw [hu] at ha hl
        unfold Value.okWide Cell.okWide Cell.ok at h
        rw [hu] at h
        cases d <;> simp_all
  cases v <;> first | rfl | exact absurd rfl (hna _)
theorem arg_told {t : TypeId} {v : Value} {d : DataW H} {ps : List MemPlace} {spare : Nat → Bool} {held : Bool} (hl : laid P n t = true) (hw : ∀ k ∈ d.weights P t, k ≤ reachBytes) (hok : Value.okWide P W r base t v) (h : DataW.Trod enc P W 0 spare held t v d ps) :
    ∃ a, ArgFit P n t a ∧ Rel (hpAll W) sg0 a v := by
  obtain ⟨fuel, h⟩ := h
  obtain ⟨avs, h1, h2⟩ := trod_told n fuel t _ (d, ps) hl hw h
  unfold ArgFit
  by_cases ha : isAg P t = some true
  · rw [ha]
    have : ∃ cs, v = .agg cs := by
      unfold isAg at ha
      cases hu : P.underlying t with
      | none => rw [hu] at ha; simp at ha
      | some d =>
        rw [hu] at ha
        unfold Value.okWide at hok
        rw [hu] at hok
        cases d <;> simp at ha
        · obtain ⟨cs, h, _⟩ := hok; exact ⟨cs, h⟩
        · obtain ⟨cs, h, _⟩ := hok; exact ⟨cs, h⟩
    obtain ⟨cs, rfl⟩ := this
    exact ⟨.agg avs, ⟨avs, rfl, h1⟩, by simp only [Rel]; exact ⟨cs.toList, by simp, h2⟩⟩
  · rw [okWide_notAgg hl ha hok] at h2
    match avs, h1, h2 with
    | [a], h1, h2 =>
      simp only [RelL] at h2
      refine ⟨a, ?_, h2.1.1⟩
      split
      · rename_i he; exact absurd he ha
      · exact h1
    | [], _, h2 => simp [RelL] at h2
    | _ :: _ :: _, _, h2 => simp [RelL] at h2
theorem args_told {spare : Nat → Bool} {held : Bool} : ∀ {ts : List TypeId} {vs : List Value} {ds : List (DataW H)} {ps : List MemPlace}, (∀ t ∈ ts, laid P n t = true) → (∀ (j : Nat) t d, ts[j]? = some t → ds[j]? = some d → ∀ k ∈ d.weights P t, k ≤ reachBytes) → (∀ (j : Nat) t v, ts[j]? = some t → vs[j]? = some v → Value.okWide P W r base t v) →
    DataW.TrodAll enc P W 0 spare held ts vs ds ps → ∃ as, ArgsFit P n ts as ∧ RelT (hpAll W) sg0 as vs
  | [], [], [], ps, _, _, _, _ => ⟨[], trivial, by simp [RelT]⟩
  | t :: ts, v :: vs, d :: ds, ps, hl, hw, hok, h => by
    obtain ⟨p, q, h1, h2, _⟩ := h
    obtain ⟨a, h3, h4⟩ := arg_told (hl t (by simp)) (hw 0 t d rfl rfl) (hok 0 t v rfl rfl) h1
    obtain ⟨as, h5, h6⟩ := args_told (fun t ht => hl t (by simp [ht])) (fun j t d h1 h2 => hw (j + 1) t d (by simpa using h1) (by simpa using h2)) (fun j t v h1 h2 => hok (j + 1) t v (by simpa using h1) (by simpa using h2)) h2
    exact ⟨a :: as, ⟨h3, h5⟩, by simp only [RelT]; exact ⟨h4, h6⟩⟩
  | [], _ :: _, _, _, _, _, _, h => h.elim
  | [], [], _ :: _, _, _, _, _, h => h.elim
  | _ :: _, [], _, _, _, _, _, h => h.elim
  | _ :: _, _ :: _, [], _, _, _, _, h => h.elim
theorem args_stay (hlo : laidOutB P = true) (hb : Below W.heap.size W W') {sp : Nat → Bool} : ∀ {ts : List TypeId} {vs : List Value} {ds : List (DataW H)} {ps : List MemPlace}, (∀ t ∈ ts, P.readableRec t = true ∧ t < P.types.size) →
    DataW.TrodAll enc P W 0 (fun _ => true) true ts vs ds ps → (∀ x ∈ ps, x.block < W.heap.size) → (∀ x ∈ ps, sp x.block = true) → DataW.TrodAll enc P W' 0 sp true ts vs ds ps
  | [], [], [], ps, _, h, _, _ => h
  | t :: ts, v :: vs, d :: ds, ps, hr, h, hlt, hsp => by
    obtain ⟨p, q, h1, h2, rfl⟩ := h
    refine ⟨p, q, WideElems.Trod_stays hlo (hr t (by simp)).1 (hr t (by simp)).2 h1 (fun x hx => hb.same (hlt x (by simp [hx]))) (fun x hx => hsp x (by simp [hx])), args_stay hlo hb (fun t ht => hr t (by simp [ht])) h2 (fun x hx => hlt x (by simp [hx])) (fun x hx => hsp x (by simp [hx])), rfl⟩
  | [], _ :: _, _, _, _, h, _, _ => h.elim
  | [], [], _ :: _, _, _, h, _, _ => h.elim
  | _ :: _, [], _, _, _, h, _, _ => h.elim
  | _ :: _, _ :: _, [], _, _, h, _, _ => h.elim
/-- The step of a law's row. -/
theorem law_step {C : Cfg} (hprim : PrimOK C) {g : FuncId} {f : Func} {s : ChangeSpec} {m tb : Nat} {args : Array Value} {ds gs : List (DataW H)} {vt : List TypeId} {before : List MemPlace} (hlo : laidOutB C.P = true) (hall : (f.params.toList.all fun t => C.P.readableRec t && decide (t < C.P.types.size) && laid C.P n t) = true)
    (hvars : s.vars = []) (hspec : ∀ ds : List (DataW H), ds.length = f.params.size → (s.fn H (ds ++ [])).results = [.lit (.bool true)] ∧ (s.fn H (ds ++ [])).args = ds ∧ (s.fn H (ds ++ [])).vars = [])
    (hres : f.resultTypes = #[tb]) (htb : C.P.underlying tb = some .bool)
    (hval : ∀ (j : Nat) t v, f.params[j]? = some t → args[j]? = some v → Value.okWide C.P W .any base t v) (hW : DataW.Whole enc C.P f.params.toList s.vars false W args.toList ds gs before)
    (hsz : (DataW.weightsEach C.P (f.params.toList ++ vt) (ds ++ gs)).all (· ≤ reachBytes) = true) (walk : ∀ as, ArgsFit C.P n f.params.toList as → wpF C m g as [] fun r _ => r = .v (.bool true)) :
    Calls C.P g args W fun e W' => ∃ v, e = .returned v ∧ s.post enc C.P f false true false false W args v W' := by
  have hts : ∀ t ∈ f.params.toList, C.P.readableRec t = true ∧ t < C.P.types.size ∧ laid C.P n t = true := fun t ht => by
    have := List.all_eq_true.1 hall t ht
    simp only [Bool.and_eq_true, decide_eq_true_eq] at this
    exact ⟨this.1.1, this.1.2, this.2⟩
  have hW' := hW
  obtain ⟨p, q, hA, hV, rfl, _, _⟩ := hW
  have hgs : gs = [] ∧ q = [] := by
    rw [hvars] at hV
    cases gs with
    | nil => exact ⟨rfl, hV⟩
    | cons g gs => exact hV.elim
  obtain ⟨rfl, rfl⟩ := hgs
  obtain ⟨as, h1, h2⟩ := args_told (n := n) (r := .any) (base := base) (fun t ht => (hts t ht).2.2) (fun j t d h1 h2 k hk => by
    have := List.all_eq_true.1 hsz k (DataW.weights_mem_each (j := j) (t := t) (d := d) (by rw [List.getElem?_append_left (List.getElem?_eq_some_iff.1 h1).1]; exact h1) (by rw [List.getElem?_append_left (List.getElem?_eq_some_iff.1 h2).1]; exact h2) k hk)
    simpa using this) (fun j t v h1 h2 => hval j t v (by simpa using h1) (by simpa using h2)) hA
  have hheap : HeapRel (hpAll W) sg0 [] W := by
    refine ⟨fun k o h => h, ?_, ?_, ?_, ?_⟩
    · intro id b hb
      simp [blk] at hb
    · intro i j b c v w k hb
      simp [blk] at hb
    · intro id v hv
      simp [sg0] at hv
    · intro id v k hv
      simp [sg0] at hv
  have hcall := ((wpF_sound C hprim m).2 g as [] _ args.toList W (hpAll W) sg0 h2 hheap (walk as h1)).2
  refine hcall.mono fun e W' ⟨v, he, rr, H', hp', σ', hk, _, hev, _, hrel⟩ => ⟨v, he, ?_⟩
  subst hk
  simp only [Rel] at hrel
  subst hrel
  have hb : Below W.heap.size W W' := ⟨hev.os, hev.tape, hev.out, hev.size, fun k hk => hev.keep k hk (own0 k)⟩
  have hlen : ds.length = f.params.size := by
    have : ∀ {ts : List TypeId} {vs : List Value} {ds : List (DataW H)} {ps : List MemPlace}, DataW.TrodAll enc C.P W 0 (fun _ => true) true ts vs ds ps → ds.length = ts.length := by
      intro ts
      induction ts with
      | nil => intro vs ds ps h; cases vs <;> cases ds <;> first | rfl | exact h.elim
      | cons t ts ih =>
        intro vs ds ps h
        cases vs with
        | nil => exact h.elim
        | cons v vs =>
          cases ds with
          | nil => exact h.elim
          | cons d ds =>
            obtain ⟨p, q, _, h2, _⟩ := h
            simp [ih h2]
    have := this hA
    simpa using this
  obtain ⟨e1, e2, e3⟩ := hspec ds hlen
  simp only [List.append_nil] at hW'
  have hlt : ∀ x ∈ p, x.block < W.heap.size := fun x hx => by simpa using hW'.lt x (by simpa using hx)
  refine ⟨ds, [], p, [], p, [], hW', ?_, ?_, ?_, hb.frame _, fun h => by cases h⟩
  · rw [hres, List.append_nil]
    have := e1
    rw [List.append_nil] at this
    rw [this]
    exact trodAll_mk1 (shut_bool htb true)
  · have := e2
    rw [List.append_nil] at this
    rw [List.append_nil, this]
    exact args_stay hlo hb (fun t ht => ⟨(hts t ht).1, (hts t ht).2.1⟩) hA hlt (fun x hx => by simpa using hlt x hx)
  · have := e3
    rw [List.append_nil] at this
    rw [hvars, List.append_nil, this]
    rfl
end
end Go.Ai

/- Operations on values: what the abstract machine says of one, the model's operation does. -/
import Derived.Test.YtlpjaehliaeifaaAiOps
import Derived.Laws.StructEq
set_option linter.unusedVariables false
set_option linter.unusedSimpArgs false
namespace Go.Ai
section
variable {P : Program} {W : World}

theorem intA_sound {op : BinOp} {k : IntKind} {a b : Int} {K : AV → Prop} {t : TypeId} (h : intA op k a b K) :
    ∃ v, (∀ W, (binOp op t (.int k a) (.int k b)).run P W = .ok v W) ∧ K (.v v) := by
  cases op
  case shl => exact h.elim
  case shr => exact h.elim
  case quo => obtain ⟨h0, h⟩ := h; refine ⟨_, fun W => ?_, h⟩; simp [binOp, Op.intDiv, h0]
  case rem => obtain ⟨h0, h⟩ := h; refine ⟨_, fun W => ?_, h⟩; simp [binOp, Op.intDiv, h0]
  case and => refine ⟨_, fun W => ?_, h⟩; simp only [binOp, ne_eq, not_true, if_false]; rfl
  case or => refine ⟨_, fun W => ?_, h⟩; simp only [binOp, ne_eq, not_true, if_false]; rfl
  case xor => refine ⟨_, fun W => ?_, h⟩; simp only [binOp, ne_eq, not_true, if_false]; rfl
  case andNot => refine ⟨_, fun W => ?_, h⟩; simp only [binOp, ne_eq, not_true, if_false]; rfl
  all_goals (refine ⟨_, fun W => ?_, h⟩; simp [binOp, Op.intArith, Op.intCmp])
theorem strA_sound {op : BinOp} {a b : ByteArray} {K : AV → Prop} {t : TypeId} (h : strA op a b K) :
    ∃ v, (∀ W, (binOp op t (.string a) (.string b)).run P W = .ok v W) ∧ K (.v v) := by
  cases op
  case add =>
    obtain ⟨h0, h⟩ := h
    refine ⟨_, fun W => ?_, h⟩
    simp only [binOp, Op.stringOp]
    rw [if_neg]
    · rfl
    · have : IntKind.i64.max = 9223372036854775807 := rfl
      rw [this]
      omega
  case eql => exact ⟨_, fun _ => rfl, h⟩
  case neq => exact ⟨_, fun _ => rfl, h⟩
  case lss => exact ⟨_, fun _ => rfl, h⟩
  case leq => exact ⟨_, fun _ => rfl, h⟩
  case gtr => exact ⟨_, fun _ => rfl, h⟩
  case geq => exact ⟨_, fun _ => rfl, h⟩
  all_goals exact h.elim
theorem eqGuard_ok {op : BinOp} {t : TypeId} {x y : Operand} {a b : Value} (h1 : ∀ c d, ¬ (a = .agg c ∧ b = .agg d)) (h2 : ¬ (a = .nilIface ∧ b = .nilIface)) :
    (eqGuard op t x y a b).run P W = .ok () W := by
  unfold eqGuard
  cases op
  case eql =>
    simp only [Bool.not_true, Bool.false_eq_true, if_false]
    split
    · exact absurd ⟨rfl, rfl⟩ h2
    · exact absurd ⟨rfl, rfl⟩ (h1 _ _)
    · rfl
  case neq =>
    simp only [Bool.not_true, Bool.false_eq_true, if_false]
    split
    · exact absurd ⟨rfl, rfl⟩ h2
    · exact absurd ⟨rfl, rfl⟩ (h1 _ _)
    · rfl
  all_goals rfl

theorem run_part_one {t : TypeId} {xs : List Value} {k : Nat} {u : Value} (ha : isAg P t = some false) (hu : xs[k]? = some u) : (part t xs.toArray k).run P W = .ok u W := by
  unfold part
  rw [Sem.run_bind, run_isAgg ha W]
  simp [hu]
theorem eqF_step {d k : Nat} {xs ys : List Value} {f : Field} {fs : List Field} {u v : Value} {r0 r : Bool} (hn : f.name ≠ "_") (ho : f.offset = k) (ha : isAg P f.type = some false)
    (hu : xs[k]? = some u) (hv : ys[k]? = some v) (h0 : (Op.equalIn d f.type u v).run P W = .ok r0 W) (hr : (Op.eqFields d xs.toArray ys.toArray fs).run P W = .ok r W) :
    (Op.eqFields d xs.toArray ys.toArray (f :: fs)).run P W = .ok (r0 && r) W := by
  subst ho
  simp only [Op.eqFields, hn, ne_eq, not_false_eq_true, if_true, Sem.run_bind, run_part_one ha hu, run_part_one ha hv, Result.andThen_ok, h0]
  cases r0
  · simp
  · simp [hr]
def aggD : TypeDesc → Bool
  | .struct _ => true
  | .array _ _ => true
  | _ => false
theorem isAg_of {t : TypeId} {d : TypeDesc} (h : P.underlying t = some d) : isAg P t = some (aggD d) := by
  unfold isAg
  rw [h]
  cases d <;> rfl
theorem drop_get {α : Type} {xs : List α} {k : Nat} {c : α} {r : List α} (h : xs.drop k = c :: r) : xs[k]? = some c ∧ xs.drop (k + 1) = r := by
  have h1 : (xs.drop k)[0]? = some c := by rw [h]; rfl
  rw [List.getElem?_drop, Nat.add_zero] at h1
  refine ⟨h1, ?_⟩
  have h2 : (xs.drop k).drop 1 = r := by rw [h]; rfl
  rw [List.drop_drop] at h2
  exact h2
theorem eqSh_bool {sh : List Sh} {c d : AV} {cs ds : List AV} {b : Bool} (h : eqSh (.bool :: sh) (c :: cs) (d :: ds) = some b) :
    ∃ x y r, c = .v (.bool x) ∧ d = .v (.bool y) ∧ eqSh sh cs ds = some r ∧ b = (x == y && r) := by
  unfold eqSh at h
  split at h
  case h_3 h1 h2 h3 => 
    cases h1; cases h2; cases h3
    obtain ⟨r, hr, rfl⟩ := Option.map_eq_some_iff.1 h
    exact ⟨_, _, r, rfl, rfl, hr, rfl⟩
  all_goals first | (rename_i h1 h2 h3; cases h1; done) | (rename_i h1 h2; cases h1; done) | (rename_i h1; cases h1; done) | (simp at h; done) | skip
theorem eqSh_str {sh : List Sh} {c d : AV} {cs ds : List AV} {b : Bool} (h : eqSh (.str :: sh) (c :: cs) (d :: ds) = some b) :
    ∃ x y r, c = .v (.string x) ∧ d = .v (.string y) ∧ eqSh sh cs ds = some r ∧ b = (strEq x y && r) := by
  unfold eqSh at h
  split at h
  case h_4 h1 h2 h3 => 
    cases h1; cases h2; cases h3
    obtain ⟨r, hr, rfl⟩ := Option.map_eq_some_iff.1 h
    exact ⟨_, _, r, rfl, rfl, hr, rfl⟩
  all_goals first | (rename_i h1 h2 h3; cases h1; done) | (rename_i h1 h2; cases h1; done) | (rename_i h1; cases h1; done) | (simp at h; done) | skip
theorem eqSh_int {sh : List Sh} {n : IntKind} {c d : AV} {cs ds : List AV} {b : Bool} (h : eqSh (.int n :: sh) (c :: cs) (d :: ds) = some b) :
    ∃ k x y r, c = .v (.int k x) ∧ d = .v (.int k y) ∧ eqSh sh cs ds = some r ∧ b = (x == y && r) := by
  unfold eqSh at h
  split at h
  case h_2 h1 h2 h3 => 
    cases h1; cases h2; cases h3
    split at h
    · rename_i hk
      subst hk
      obtain ⟨r, hr, rfl⟩ := Option.map_eq_some_iff.1 h
      exact ⟨_, _, _, r, rfl, rfl, hr, rfl⟩
    · simp at h
  all_goals first | (rename_i h1 h2 h3; cases h1; done) | (rename_i h1 h2; cases h1; done) | (rename_i h1; cases h1; done) | (simp at h; done) | skip
theorem eqSh_sound (d : Nat) (hp : Im) (σ : Sg) (cs ds : List AV) (xs ys : List Value) (hx : RelL hp σ cs xs) (hy : RelL hp σ ds ys) : ∀ (fs : List Field) (k : Nat) (sh : List Sh) (b : Bool), flatFs P k fs = some sh → eqSh sh (cs.drop k) (ds.drop k) = some b →
    (Op.eqFields (d + 1) xs.toArray ys.toArray fs).run P W = .ok b W
  | [], k, sh, b, hf, he => by
    simp only [flatFs, Option.some.injEq] at hf
    subst hf
    have hb : b = true := by
      cases h1 : cs.drop k <;> cases h2 : ds.drop k <;> simp [h1, h2, eqSh] at he
      exact he
    subst hb
    rfl
  | f :: fs, k, sh, b, hf, he => by
    simp only [flatFs] at hf
    split at hf
    · simp at hf
    · rename_i hn
      have hname : f.name ≠ "_" := fun h => hn (.inl h)
      have hoff : f.offset = k := Decidable.byContradiction fun h => hn (.inr h)
      split at hf
      · rename_i hu
        cases hl : flatFs P (k + 1) fs with
        | none => simp [hl] at hf
        | some l =>
          simp only [hl, Option.map_some, Option.some.injEq] at hf
          subst hf
          cases h1 : cs.drop k with
          | nil => simp [h1, eqSh] at he
          | cons c0 ct =>
            cases h2 : ds.drop k with
            | nil => simp [h2, eqSh] at he
            | cons d0 dt =>
              obtain ⟨g1, e1⟩ := drop_get h1
              obtain ⟨g2, e2⟩ := drop_get h2
              rw [h1, h2] at he
              obtain ⟨u, hu1, hu2, _⟩ := hx.get k g1
              obtain ⟨v, hv1, hv2, _⟩ := hy.get k g2
              obtain ⟨x0, y0, r, rfl, rfl, hr, rfl⟩ := eqSh_bool he
              simp only [Rel] at hu2 hv2
              subst hu2 hv2
              refine eqF_step hname hoff (isAg_of hu) hu1 hv1 (run_equalIn_bool' W d _ _ _ hu) (eqSh_sound d hp σ cs ds xs ys hx hy fs (k + 1) l r hl ?_)
              rw [e1, e2]
              exact hr
      · rename_i n hu
        cases hl : flatFs P (k + 1) fs with
        | none => simp [hl] at hf
        | some l =>
          simp only [hl, Option.map_some, Option.some.injEq] at hf
          subst hf
          cases h1 : cs.drop k with
          | nil => simp [h1, eqSh] at he
          | cons c0 ct =>
            cases h2 : ds.drop k with
            | nil => simp [h2, eqSh] at he
            | cons d0 dt =>
              obtain ⟨g1, e1⟩ := drop_get h1
              obtain ⟨g2, e2⟩ := drop_get h2
              rw [h1, h2] at he
              obtain ⟨u, hu1, hu2, _⟩ := hx.get k g1
              obtain ⟨v, hv1, hv2, _⟩ := hy.get k g2
              obtain ⟨k0, x0, y0, r, rfl, rfl, hr, rfl⟩ := eqSh_int he
              simp only [Rel] at hu2 hv2
              subst hu2 hv2
              refine eqF_step hname hoff (isAg_of hu) hu1 hv1 (run_equalIn_int W d _ _ _ _ _ hu) (eqSh_sound d hp σ cs ds xs ys hx hy fs (k + 1) l r hl ?_)
              rw [e1, e2]
              exact hr
      · rename_i hu
        cases hl : flatFs P (k + 1) fs with
        | none => simp [hl] at hf
        | some l =>
          simp only [hl, Option.map_some, Option.some.injEq] at hf
          subst hf
          cases h1 : cs.drop k with
          | nil => simp [h1, eqSh] at he
          | cons c0 ct =>
            cases h2 : ds.drop k with
            | nil => simp [h2, eqSh] at he
            | cons d0 dt =>
              obtain ⟨g1, e1⟩ := drop_get h1
              obtain ⟨g2, e2⟩ := drop_get h2
              rw [h1, h2] at he
              obtain ⟨u, hu1, hu2, _⟩ := hx.get k g1
              obtain ⟨v, hv1, hv2, _⟩ := hy.get k g2
              obtain ⟨x0, y0, r, rfl, rfl, hr, rfl⟩ := eqSh_str he
              simp only [Rel] at hu2 hv2
              subst hu2 hv2
              refine eqF_step hname hoff (isAg_of hu) hu1 hv1 (run_equalIn_string W d _ _ _ hu) (eqSh_sound d hp σ cs ds xs ys hx hy fs (k + 1) l r hl ?_)
              rw [e1, e2]
              exact hr
      · simp at hf
end
end Go.Ai

/- The operations: what the abstract machine says of one, the model's operation does (values, loads, stores, new variables). -/
import Derived.Test.YtmebpmghmghhkaaAiRel
import Derived.Great.BuildSlice
import Derived.Tactics
import Derived.WalkKit
import Derived.Laws.StructEq
set_option linter.unusedVariables false
set_option linter.unusedSimpArgs false
namespace Go.Ai

/-! ### Lists of cells -/
theorem RelL.length {hp : Im} {σ : Sg} : ∀ {cs : List AV} {us : List Value}, RelL hp σ cs us → cs.length = us.length
  | [], [], _ => rfl
  | _ :: cs, _ :: us, h => by simp only [RelL] at h; simp [RelL.length h.2]
  | [], _ :: _, h => by simp [RelL] at h
  | _ :: _, [], h => by simp [RelL] at h
theorem RelT.length {hp : Im} {σ : Sg} : ∀ {cs : List AV} {us : List Value}, RelT hp σ cs us → cs.length = us.length
  | [], [], _ => rfl
  | _ :: cs, _ :: us, h => by simp only [RelT] at h; simp [RelT.length h.2]
  | [], _ :: _, h => by simp [RelT] at h
  | _ :: _, [], h => by simp [RelT] at h
theorem RelL.app {hp : Im} {σ : Sg} : ∀ {cs : List AV} {us : List Value} {cs' : List AV} {us' : List Value}, RelL hp σ cs us → RelL hp σ cs' us' → RelL hp σ (cs ++ cs') (us ++ us')
  | [], [], _, _, _, h => by simpa using h
  | c :: cs, u :: us, _, _, h, h' => by simp only [RelL, List.cons_append] at h ⊢; exact ⟨h.1, RelL.app h.2 h'⟩
  | [], _ :: _, _, _, h, _ => by simp [RelL] at h
  | _ :: _, [], _, _, h, _ => by simp [RelL] at h
theorem RelL.drop {hp : Im} {σ : Sg} : ∀ (n : Nat) {cs : List AV} {us : List Value}, RelL hp σ cs us → RelL hp σ (cs.drop n) (us.drop n)
  | 0, _, _, h => by simpa using h
  | n + 1, [], [], h => by simp [RelL]
  | n + 1, c :: cs, u :: us, h => by simp only [RelL] at h; simpa using RelL.drop n h.2
  | _ + 1, [], _ :: _, h => by simp [RelL] at h
  | _ + 1, _ :: _, [], h => by simp [RelL] at h
theorem RelL.take {hp : Im} {σ : Sg} : ∀ (n : Nat) {cs : List AV} {us : List Value}, RelL hp σ cs us → RelL hp σ (cs.take n) (us.take n)
  | 0, _, _, h => by simp [RelL]
  | n + 1, [], [], h => by simp [RelL]
  | n + 1, c :: cs, u :: us, h => by simp only [RelL] at h; simp only [List.take_succ_cons, RelL]; exact ⟨h.1, RelL.take n h.2⟩
  | _ + 1, [], _ :: _, h => by simp [RelL] at h
  | _ + 1, _ :: _, [], h => by simp [RelL] at h
theorem RelL.get {hp : Im} {σ : Sg} : ∀ (n : Nat) {cs : List AV} {us : List Value}, RelL hp σ cs us → ∀ {c}, cs[n]? = some c → ∃ u, us[n]? = some u ∧ Rel hp σ c u ∧ u.oneCell' = true
  | 0, c :: cs, u :: us, h, _, hc => by simp only [RelL] at h; simp at hc; subst hc; exact ⟨u, rfl, h.1.1, h.1.2⟩
  | n + 1, c :: cs, u :: us, h, _, hc => by simp only [RelL] at h; simp at hc; simpa using RelL.get n h.2 hc
  | _, [], _, _, _, hc => by simp at hc
  | _, _ :: _, [], h, _, _ => by simp [RelL] at h
theorem RelT.get {hp : Im} {σ : Sg} : ∀ (n : Nat) {cs : List AV} {us : List Value}, RelT hp σ cs us → ∀ {c}, cs[n]? = some c → ∃ u, us[n]? = some u ∧ Rel hp σ c u
  | 0, c :: cs, u :: us, h, _, hc => by simp only [RelT] at h; simp at hc; subst hc; exact ⟨u, rfl, h.1⟩
  | n + 1, c :: cs, u :: us, h, _, hc => by simp only [RelT] at h; simp at hc; simpa using RelT.get n h.2 hc
  | _, [], _, _, _, hc => by simp at hc
  | _, _ :: _, [], h, _, _ => by simp [RelT] at h
theorem RelL.one {hp : Im} {σ : Sg} : ∀ {cs : List AV} {us : List Value}, RelL hp σ cs us → ∀ u ∈ us, u.oneCell' = true
  | [], [], _, u, hu => by simp at hu
  | _ :: cs, u' :: us, h, u, hu => by
    simp only [RelL] at h
    rcases List.mem_cons.1 hu with rfl | hu
    · exact h.1.2
    · exact RelL.one h.2 u hu
  | [], _ :: _, h, _, _ => by simp [RelL] at h
  | _ :: _, [], h, _, _ => by simp [RelL] at h
theorem RelL.toT {hp : Im} {σ : Sg} : ∀ {cs : List AV} {us : List Value}, RelL hp σ cs us → RelT hp σ cs us
  | [], [], _ => by simp [RelT]
  | _ :: cs, _ :: us, h => by simp only [RelL] at h; simp only [RelT]; exact ⟨h.1.1, RelL.toT h.2⟩
  | [], _ :: _, h => by simp [RelL] at h
  | _ :: _, [], h => by simp [RelL] at h
theorem RelL.vs {hp : Im} {σ : Sg} : ∀ (us : List Value), (∀ u ∈ us, u.oneCell' = true) → RelL hp σ (us.map .v) us
  | [], _ => by simp [RelL]
  | u :: us, h => by simp only [List.map_cons, RelL, Rel]; exact ⟨⟨trivial, h u (by simp)⟩, RelL.vs us fun x hx => h x (by simp [hx])⟩
theorem oneV_eq (v : Value) : oneV v = v.oneCell' := by cases v <;> rfl

/-! ### An operand's value -/
theorem rel_av (hp : Im) (σ : Sg) (x : Value) : Rel hp σ (av x) x := by
  unfold av
  split
  · rename_i cs
    split
    · rename_i h
      simp only [Rel]
      refine ⟨cs.toList, by simp, RelL.vs _ fun u hu => ?_⟩
      rw [← oneV_eq]
      exact (List.all_eq_true.1 h) u hu
    · simp [Rel]
  · simp [Rel]
theorem Now.get {E : Ent} {s : St} {a : Act} {W : World} {hp : Im} {σ : Sg} (h : Now E s a W hp σ) (x : Operand) : Rel hp σ (s.get x) (a.eval x) := by
  cases x with
  | tmp n => exact h.tmps n
  | const c => exact rel_av hp σ c
  | global g => simp [St.get, Act.eval, Rel]
  | func f => simp only [St.get, Act.eval, Rel]; exact ⟨[], [], rfl, by simp [RelT], by simp [RelT]⟩
theorem Now.gets {E : Ent} {s : St} {a : Act} {W : World} {hp : Im} {σ : Sg} (h : Now E s a W hp σ) : ∀ (l : List Operand), RelT hp σ (l.map s.get) (l.map a.eval)
  | [] => by simp [RelT]
  | x :: l => by simp only [List.map_cons, RelT]; exact ⟨h.get x, h.gets l⟩

/-- A value's cells. -/
theorem rel_cells {hp : Im} {σ : Sg} {x : AV} {y : Value} {cs : List AV} (h : Rel hp σ x y) (hc : cellsOf x = some cs) : ∃ us, y.cells = us.toArray ∧ RelL hp σ cs us := by
  cases x with
  | junk => simp [cellsOf] at hc
  | tup vs => simp [cellsOf] at hc
  | agg l =>
    simp [cellsOf] at hc
    subst hc
    simp only [Rel] at h
    obtain ⟨vs, rfl, h⟩ := h
    exact ⟨vs, rfl, h⟩
  | v z =>
    simp only [Rel] at h
    subst h
    cases y <;> simp [cellsOf] at hc <;> (subst hc; exact ⟨[_], rfl, by simp [RelL, Rel, Value.oneCell']⟩)
  | nl => simp [cellsOf] at hc; subst hc; have h' := h; simp only [Rel] at h; obtain ⟨A, rfl⟩ := h; exact ⟨[_], rfl, by simp only [RelL]; exact ⟨⟨h', rfl⟩, trivial⟩⟩
  | ptr id f => simp [cellsOf] at hc; subst hc; have h' := h; simp only [Rel] at h; obtain ⟨k, _, rfl⟩ := h; exact ⟨[_], rfl, by simp only [RelL]; exact ⟨⟨h', rfl⟩, trivial⟩⟩
  | rptr id sz i f => simp [cellsOf] at hc; subst hc; have h' := h; simp only [Rel] at h; obtain ⟨k, n, c, _, _, rfl⟩ := h; exact ⟨[_], rfl, by simp only [RelL]; exact ⟨⟨h', rfl⟩, trivial⟩⟩
  | row id sz off len =>
    simp [cellsOf] at hc
    subst hc
    have h' := h
    simp only [Rel] at h
    rcases h with ⟨k, n, c, _, _, ⟨A, c', rfl, _⟩, _⟩ | ⟨_, _, _, A, rfl⟩
    · exact ⟨[_], rfl, by simp only [RelL]; exact ⟨⟨h', rfl⟩, trivial⟩⟩
    · exact ⟨[_], rfl, by simp only [RelL]; exact ⟨⟨h', rfl⟩, trivial⟩⟩
  | lst sz xs => simp [cellsOf] at hc; subst hc; have h' := h; simp only [Rel] at h; obtain ⟨A, c, rfl, _⟩ := h; exact ⟨[_], rfl, by simp only [RelL]; exact ⟨⟨h', rfl⟩, trivial⟩⟩
  | eptr l => simp [cellsOf] at hc; subst hc; have h' := h; simp only [Rel] at h; obtain ⟨A, rfl, _⟩ := h; exact ⟨[_], rfl, by simp only [RelL]; exact ⟨⟨h', rfl⟩, trivial⟩⟩
  | fn f a b => simp [cellsOf] at hc; subst hc; have h' := h; simp only [Rel] at h; obtain ⟨va, vb, rfl, _⟩ := h; exact ⟨[_], rfl, by simp only [RelL]; exact ⟨⟨h', rfl⟩, trivial⟩⟩
  | ifc t x => simp [cellsOf] at hc; subst hc; have h' := h; simp only [Rel] at h; obtain ⟨v, rfl, _⟩ := h; exact ⟨[_], rfl, by simp only [RelL]; exact ⟨⟨h', rfl⟩, trivial⟩⟩
  | map id => simp [cellsOf] at hc; subst hc; have h' := h; simp only [Rel] at h; obtain ⟨r, _, rfl⟩ := h; exact ⟨[_], rfl, by simp only [RelL]; exact ⟨⟨h', rfl⟩, trivial⟩⟩

/-! ### The end of an operation -/
section
variable {P : Program} {o : Oper} {a : Act} {W : World} {next : Act → World → Prop} {Q : Exit → Act → World → Prop}
theorem wp_value {v : Value} {W' : World} (hr : (execOp a.eval o).run P W = .ok (.value v) W') (h : next (a.put o.dst v) W') : Oper.wp P o a W next Q := by
  unfold Oper.wp
  rw [hr]
  exact h
theorem wp_skip' {W' : World} (hr : (execOp a.eval o).run P W = .ok .skip W') (h : next (a.put o.dst undef) W') : Oper.wp P o a W next Q := by
  unfold Oper.wp
  rw [hr]
  exact h
end
theorem run_sizeOf {P : Program} {t : TypeId} {n : Nat} (h : szO P t = some n) (W : World) : (sizeOf t).run P W = .ok n W := by
  unfold szO at h
  cases hi : P.info? t with
  | none => simp [hi] at h
  | some i => simp [hi] at h; simp [sizeOf, typeInfo, hi, h]
theorem szOf_of {P : Program} {t : TypeId} {n : Nat} (h : szO P t = some n) : szOf P t = n := by
  unfold szO at h
  unfold szOf
  rw [h]
  rfl
theorem info_of_under {P : Program} {t : TypeId} {d : TypeDesc} (h : P.underlying t = some d) : ∃ i, P.info? t = some i := by
  unfold Program.underlying at h
  cases hi : P.info? t with
  | none => simp [hi] at h
  | some i => exact ⟨i, rfl⟩
theorem szO_of_under {P : Program} {t : TypeId} {d : TypeDesc} (h : P.underlying t = some d) : szO P t = some (szOf P t) := by
  obtain ⟨i, hi⟩ := info_of_under h
  simp [szO, szOf, hi]
theorem run_isAgg {P : Program} {t : TypeId} {b : Bool} (h : isAg P t = some b) (W : World) : (isAgg t).run P W = .ok b W := by
  unfold isAg at h
  cases hu : P.underlying t with
  | none => simp [hu] at h
  | some d =>
    simp only [hu, Option.map_some, Option.some.injEq] at h
    subst h
    unfold isAgg
    rw [Sem.run_bind, run_underlying hu W]
    cases d <;> rfl
theorem add_none (k o j : Nat) : (⟨k, o, none⟩ : Addr).add j = ⟨k, o + j, none⟩ := by
  unfold Addr.add
  split <;> simp_all
theorem add_add {ad : Addr} (h : ad.spot = none) (i j : Nat) : (ad.add i).add j = ad.add (i + j) := by
  obtain ⟨b, o, s⟩ := ad
  simp only at h
  subst h
  simp only [add_none, Nat.add_assoc]

/-- A load, the cells being known. -/
theorem run_loadVar_of {P : Program} {t : TypeId} {ad : Addr} {hp : Im} {σ : Sg} {cs : List AV} {us : List Value} {f : Nat} {x : AV} (hs : ad.spot = none)
    (hr : RelL hp σ cs us) (hx : ldv P t cs f = some x) :
    ∃ v, (∀ W : World, (∀ j u, us[j]? = some u → W.cell? (ad.add j) = some u) → (loadVar t (ad.add f)).run P W = .ok v W) ∧ Rel hp σ x v := by
  unfold ldv at hx
  split at hx
  · rename_i hag
    split at hx
    · rename_i hle
      simp only [Option.some.injEq] at hx
      subst hx
      have hu : ∃ d, P.underlying t = some d := by
        unfold isAg at hag
        cases hu : P.underlying t with
        | none => simp [hu] at hag
        | some d => exact ⟨d, rfl⟩
      obtain ⟨d, hu⟩ := hu
      have hlen : ((us.drop f).take (szOf P t)).length = szOf P t := by
        have := hr.length
        simp only [List.length_take, List.length_drop]
        omega
      refine ⟨.agg ((us.drop f).take (szOf P t)).toArray, fun W hc => ?_, ?_⟩
      · have hl := run_loadCells_list (P := P) W (ad.add f) ((us.drop f).take (szOf P t)) (fun j v hv => by
          rw [add_add hs]
          apply hc
          have hj : j < szOf P t := by
            rcases Nat.lt_or_ge j (szOf P t) with h | h
            · exact h
            · rw [List.getElem?_eq_none (by omega)] at hv
              simp at hv
          rw [List.getElem?_take_of_lt hj, List.getElem?_drop] at hv
          exact hv)
        rw [hlen] at hl
        unfold loadVar
        rw [Sem.run_bind, run_isAgg hag W]
        simp only [Result.andThen_ok, if_true, Sem.run_bind, run_sizeOf (szO_of_under hu) W, hl, Sem.run_pure]
      · simp only [Rel]
        exact ⟨_, rfl, (hr.drop f).take _⟩
    · simp at hx
  · rename_i hag
    obtain ⟨u, hu, hru, _⟩ := hr.get f hx
    refine ⟨u, fun W hc => ?_, hru⟩
    unfold loadVar
    rw [Sem.run_bind, run_isAgg hag W]
    simp [load, Sem.run, hc f u hu]
  · simp at hx
end Go.Ai
set_option linter.unusedVariables false
set_option linter.unusedSimpArgs false
namespace Go.Ai
section
variable {P : Program} {W : World}

theorem intA_sound {op : BinOp} {k : IntKind} {a b : Int} {K : AV → Prop} {t : TypeId} (h : intA op k a b K) :
    ∃ v, (∀ W, (binOp op t (.int k a) (.int k b)).run P W = .ok v W) ∧ K (.v v) := by
  cases op
  case shl => exact h.elim
  case shr => exact h.elim
  case quo => obtain ⟨h0, h⟩ := h; refine ⟨_, fun W => ?_, h⟩; simp [binOp, Op.intDiv, h0]
  case rem => obtain ⟨h0, h⟩ := h; refine ⟨_, fun W => ?_, h⟩; simp [binOp, Op.intDiv, h0]
  case and => refine ⟨_, fun W => ?_, h⟩; simp only [binOp, ne_eq, not_true, if_false]; rfl
  case or => refine ⟨_, fun W => ?_, h⟩; simp only [binOp, ne_eq, not_true, if_false]; rfl
  case xor => refine ⟨_, fun W => ?_, h⟩; simp only [binOp, ne_eq, not_true, if_false]; rfl
  case andNot => refine ⟨_, fun W => ?_, h⟩; simp only [binOp, ne_eq, not_true, if_false]; rfl
  all_goals (refine ⟨_, fun W => ?_, h⟩; simp [binOp, Op.intArith, Op.intCmp])
theorem strA_sound {op : BinOp} {a b : ByteArray} {K : AV → Prop} {t : TypeId} (h : strA op a b K) :
    ∃ v, (∀ W, (binOp op t (.string a) (.string b)).run P W = .ok v W) ∧ K (.v v) := by
  cases op
  case add =>
    obtain ⟨h0, h⟩ := h
    refine ⟨_, fun W => ?_, h⟩
    simp only [binOp, Op.stringOp]
    rw [if_neg]
    · rfl
    · have : IntKind.i64.max = 9223372036854775807 := rfl
      rw [this]
      omega
  case eql => exact ⟨_, fun _ => rfl, h⟩
  case neq => exact ⟨_, fun _ => rfl, h⟩
  case lss => exact ⟨_, fun _ => rfl, h⟩
  case leq => exact ⟨_, fun _ => rfl, h⟩
  case gtr => exact ⟨_, fun _ => rfl, h⟩
  case geq => exact ⟨_, fun _ => rfl, h⟩
  all_goals exact h.elim
theorem eqGuard_ok {op : BinOp} {t : TypeId} {x y : Operand} {a b : Value} (h1 : ∀ c d, ¬ (a = .agg c ∧ b = .agg d)) (h2 : ¬ (a = .nilIface ∧ b = .nilIface)) :
    (eqGuard op t x y a b).run P W = .ok () W := by
  unfold eqGuard
  cases op
  case eql =>
    simp only [Bool.not_true, Bool.false_eq_true, if_false]
    split
    · exact absurd ⟨rfl, rfl⟩ h2
    · exact absurd ⟨rfl, rfl⟩ (h1 _ _)
    · rfl
  case neq =>
    simp only [Bool.not_true, Bool.false_eq_true, if_false]
    split
    · exact absurd ⟨rfl, rfl⟩ h2
    · exact absurd ⟨rfl, rfl⟩ (h1 _ _)
    · rfl
  all_goals rfl

theorem run_part_one {t : TypeId} {xs : List Value} {k : Nat} {u : Value} (ha : isAg P t = some false) (hu : xs[k]? = some u) : (part t xs.toArray k).run P W = .ok u W := by
  unfold part
  rw [Sem.run_bind, run_isAgg ha W]
  simp [hu]
theorem eqF_step {d k : Nat} {xs ys : List Value} {f : Field} {fs : List Field} {u v : Value} {r0 r : Bool} (hn : f.name ≠ "_") (ho : f.offset = k) (ha : isAg P f.type = some false)
    (hu : xs[k]? = some u) (hv : ys[k]? = some v) (h0 : (Op.equalIn d f.type u v).run P W = .ok r0 W) (hr : (Op.eqFields d xs.toArray ys.toArray fs).run P W = .ok r W) :
    (Op.eqFields d xs.toArray ys.toArray (f :: fs)).run P W = .ok (r0 && r) W := by
  subst ho
  simp only [Op.eqFields, hn, ne_eq, not_false_eq_true, if_true, Sem.run_bind, run_part_one ha hu, run_part_one ha hv, Result.andThen_ok, h0]
  cases r0
  · simp
  · simp [hr]
def aggD : TypeDesc → Bool
  | .struct _ => true
  | .array _ _ => true
  | _ => false
theorem isAg_of {t : TypeId} {d : TypeDesc} (h : P.underlying t = some d) : isAg P t = some (aggD d) := by
  unfold isAg
  rw [h]
  cases d <;> rfl
theorem drop_get {α : Type} {xs : List α} {k : Nat} {c : α} {r : List α} (h : xs.drop k = c :: r) : xs[k]? = some c ∧ xs.drop (k + 1) = r := by
  have h1 : (xs.drop k)[0]? = some c := by rw [h]; rfl
  rw [List.getElem?_drop, Nat.add_zero] at h1
  refine ⟨h1, ?_⟩
  have h2 : (xs.drop k).drop 1 = r := by rw [h]; rfl
  rw [List.drop_drop] at h2
  exact h2
theorem eqSh_bool {sh : List Sh} {c d : AV} {cs ds : List AV} {b : Bool} (h : eqSh (.bool :: sh) (c :: cs) (d :: ds) = some b) :
    ∃ x y r, c = .v (.bool x) ∧ d = .v (.bool y) ∧ eqSh sh cs ds = some r ∧ b = (x == y && r) := by
  unfold eqSh at h
  split at h
  case h_3 h1 h2 h3 => 
    cases h1; cases h2; cases h3
    obtain ⟨r, hr, rfl⟩ := Option.map_eq_some_iff.1 h
    exact ⟨_, _, r, rfl, rfl, hr, rfl⟩
  all_goals first | (rename_i h1 h2 h3; cases h1; done) | (rename_i h1 h2; cases h1; done) | (rename_i h1; cases h1; done) | (simp at h; done) | skip
theorem eqSh_str {sh : List Sh} {c d : AV} {cs ds : List AV} {b : Bool} (h : eqSh (.str :: sh) (c :: cs) (d :: ds) = some b) :
    ∃ x y r, c = .v (.string x) ∧ d = .v (.string y) ∧ eqSh sh cs ds = some r ∧ b = (strEq x y && r) := by
  unfold eqSh at h
  split at h
  case h_4 h1 h2 h3 => 
    cases h1; cases h2; cases h3
    obtain ⟨r, hr, rfl⟩ := Option.map_eq_some_iff.1 h
    exact ⟨_, _, r, rfl, rfl, hr, rfl⟩
  all_goals first | (rename_i h1 h2 h3; cases h1; done) | (rename_i h1 h2; cases h1; done) | (rename_i h1; cases h1; done) | (simp at h; done) | skip
theorem eqSh_int {sh : List Sh} {n : IntKind} {c d : AV} {cs ds : List AV} {b : Bool} (h : eqSh (.int n :: sh) (c :: cs) (d :: ds) = some b) :
    ∃ k x y r, c = .v (.int k x) ∧ d = .v (.int k y) ∧ eqSh sh cs ds = some r ∧ b = (x == y && r) := by
  unfold eqSh at h
  split at h
  case h_2 h1 h2 h3 => 
    cases h1; cases h2; cases h3
    split at h
    · rename_i hk
      subst hk
      obtain ⟨r, hr, rfl⟩ := Option.map_eq_some_iff.1 h
      exact ⟨_, _, _, r, rfl, rfl, hr, rfl⟩
    · simp at h
  all_goals first | (rename_i h1 h2 h3; cases h1; done) | (rename_i h1 h2; cases h1; done) | (rename_i h1; cases h1; done) | (simp at h; done) | skip
theorem eqSh_sound (d : Nat) (hp : Im) (σ : Sg) (cs ds : List AV) (xs ys : List Value) (hx : RelL hp σ cs xs) (hy : RelL hp σ ds ys) : ∀ (fs : List Field) (k : Nat) (sh : List Sh) (b : Bool), flatFs P k fs = some sh → eqSh sh (cs.drop k) (ds.drop k) = some b →
    (Op.eqFields (d + 1) xs.toArray ys.toArray fs).run P W = .ok b W
  | [], k, sh, b, hf, he => by
    simp only [flatFs, Option.some.injEq] at hf
    subst hf
    have hb : b = true := by
      cases h1 : cs.drop k <;> cases h2 : ds.drop k <;> simp [h1, h2, eqSh] at he
      exact he
    subst hb
    rfl
  | f :: fs, k, sh, b, hf, he => by
    simp only [flatFs] at hf
    split at hf
    · simp at hf
    · rename_i hn
      have hname : f.name ≠ "_" := fun h => hn (.inl h)
      have hoff : f.offset = k := Decidable.byContradiction fun h => hn (.inr h)
      split at hf
      · rename_i hu
        cases hl : flatFs P (k + 1) fs with
        | none => simp [hl] at hf
        | some l =>
          simp only [hl, Option.map_some, Option.some.injEq] at hf
          subst hf
          cases h1 : cs.drop k with
          | nil => simp [h1, eqSh] at he
          | cons c0 ct =>
            cases h2 : ds.drop k with
            | nil => simp [h2, eqSh] at he
            | cons d0 dt =>
              obtain ⟨g1, e1⟩ := drop_get h1
              obtain ⟨g2, e2⟩ := drop_get h2
              rw [h1, h2] at he
              obtain ⟨u, hu1, hu2, _⟩ := hx.get k g1
              obtain ⟨v, hv1, hv2, _⟩ := hy.get k g2
              obtain ⟨x0, y0, r, rfl, rfl, hr, rfl⟩ := eqSh_bool he
              simp only [Rel] at hu2 hv2
              subst hu2 hv2
              refine eqF_step hname hoff (isAg_of hu) hu1 hv1 (run_equalIn_bool' W d _ _ _ hu) (eqSh_sound d hp σ cs ds xs ys hx hy fs (k + 1) l r hl ?_)
              rw [e1, e2]
              exact hr
      · rename_i n hu
        cases hl : flatFs P (k + 1) fs with
        | none => simp [hl] at hf
        | some l =>
          simp only [hl, Option.map_some, Option.some.injEq] at hf
          subst hf
          cases h1 : cs.drop k with
          | nil => simp [h1, eqSh] at he
          | cons c0 ct =>
            cases h2 : ds.drop k with
            | nil => simp [h2, eqSh] at he
            | cons d0 dt =>
              obtain ⟨g1, e1⟩ := drop_get h1
              obtain ⟨g2, e2⟩ := drop_get h2
              rw [h1, h2] at he
              obtain ⟨u, hu1, hu2, _⟩ := hx.get k g1
              obtain ⟨v, hv1, hv2, _⟩ := hy.get k g2
              obtain ⟨k0, x0, y0, r, rfl, rfl, hr, rfl⟩ := eqSh_int he
              simp only [Rel] at hu2 hv2
              subst hu2 hv2
              refine eqF_step hname hoff (isAg_of hu) hu1 hv1 (run_equalIn_int W d _ _ _ _ _ hu) (eqSh_sound d hp σ cs ds xs ys hx hy fs (k + 1) l r hl ?_)
              rw [e1, e2]
              exact hr
      · rename_i hu
        cases hl : flatFs P (k + 1) fs with
        | none => simp [hl] at hf
        | some l =>
          simp only [hl, Option.map_some, Option.some.injEq] at hf
          subst hf
          cases h1 : cs.drop k with
          | nil => simp [h1, eqSh] at he
          | cons c0 ct =>
            cases h2 : ds.drop k with
            | nil => simp [h2, eqSh] at he
            | cons d0 dt =>
              obtain ⟨g1, e1⟩ := drop_get h1
              obtain ⟨g2, e2⟩ := drop_get h2
              rw [h1, h2] at he
              obtain ⟨u, hu1, hu2, _⟩ := hx.get k g1
              obtain ⟨v, hv1, hv2, _⟩ := hy.get k g2
              obtain ⟨x0, y0, r, rfl, rfl, hr, rfl⟩ := eqSh_str he
              simp only [Rel] at hu2 hv2
              subst hu2 hv2
              refine eqF_step hname hoff (isAg_of hu) hu1 hv1 (run_equalIn_string W d _ _ _ hu) (eqSh_sound d hp σ cs ds xs ys hx hy fs (k + 1) l r hl ?_)
              rw [e1, e2]
              exact hr
      · simp at hf
end
end Go.Ai

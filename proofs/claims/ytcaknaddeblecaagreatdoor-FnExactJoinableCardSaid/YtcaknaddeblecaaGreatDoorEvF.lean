/- Each operation that only computes, in the model. -/
import Derived.Test.YtcaknaddeblecaaGreatDoorEvE
namespace Go.Proofs.YtcaknaddeblecaaGreatDoor.Ev
open Go Go.RowKit
set_option linter.unusedVariables false
set_option linter.unusedSimpArgs false
variable {ρ : Type}

/-- the program is as the evaluator's tables say -/
structure Cx.ok (P : Program) (cx : Cx) : Prop where
  ty : ∀ t ty, cx.ty t = some ty → TyOf P t ty
  cmp : ∀ t, cx.cmp t = true → P.stoodInHeld t = false ∧ P.eqGuardType P.depth t = false
  body : ∀ f fn, cx.body f = some fn → P.funcs[f]? = some fn ∧ fn.name ≠ "runtime.NumGoroutine" ∧ fn.body.isSome = true
  mixed : P.follows .mixedOrders = true

abbrev RunsTo' (P : Program) (w : World) (s : Sem Go.Next) (v : Value) : Prop := s.run P w = .ok (.value v) w

theorem run_equalIn_basic {P : Program} {w : World} {E : Env} {μ : Lie} {bl : List Blk} {f : TypeId} {ty : Ty} (ht : TyOf P f ty) {x y : A} {u v : Value} {c : Bool} (hx : RepA E w μ bl x u) (hy : RepA E w μ bl y v)
    (h : sameCells ty [x] [y] = some c) (hb : ∀ a b, ty ≠ .pair a b) (d : Nat) : (Op.equalIn (d + 1) f u v).run P w = .ok c w := by
  cases ty with
  | int k =>
    cases x <;> cases y <;> simp [sameCells] at h
    obtain ⟨rfl, rfl⟩ := h
    have e1 : u = .int _ _ := hx
    have e2 : v = .int _ _ := hy
    subst e1; subst e2
    simp [Op.equalIn, run_underlying ht.1]; rfl
  | bool =>
    cases x <;> cases y <;> simp [sameCells] at h
    subst h
    have e1 : u = .bool _ := hx
    have e2 : v = .bool _ := hy
    subst e1; subst e2
    simp [Op.equalIn, run_underlying ht.1]
  | str =>
    cases x <;> cases y <;> simp [sameCells] at h
    subst h
    have e1 : u = .string _ := hx
    have e2 : v = .string _ := hy
    subst e1; subst e2
    simp only [Op.equalIn, Sem.run_bind, run_underlying ht.1, Result.andThen_ok, Sem.run_pure]
    rw [beq_toListBytes, bytes_same]
  | pair a b => exact absurd rfl (hb a b)
  | err => simp [sameCells] at h
  | slice e => simp [sameCells] at h
  | struct b => simp [sameCells] at h

theorem size_one {ty : Ty} {x y : A} {c : Bool} (hb : ∀ a b, ty ≠ .pair a b) (h : sameCells ty [x] [y] = some c) : ty.size = 1 ∧ ty.isAgg = false := by
  cases ty <;> first | exact ⟨rfl, rfl⟩ | exact absurd rfl (hb _ _) | (simp [sameCells] at h)

theorem sameCells_base {ty : Ty} {r q : List A} {c : Bool} (hb : ∀ a b, ty ≠ .pair a b) (h : sameCells ty r q = some c) : ∃ x y, r = [x] ∧ q = [y] := by
  cases ty with
  | pair a b => exact absurd rfl (hb a b)
  | int k => unfold sameCells at h; split at h <;> first | exact ⟨_, _, rfl, rfl⟩ | simp_all
  | bool => unfold sameCells at h; split at h <;> first | exact ⟨_, _, rfl, rfl⟩ | simp_all
  | str => unfold sameCells at h; split at h <;> first | exact ⟨_, _, rfl, rfl⟩ | simp_all
  | _ => simp [sameCells] at h

theorem sameCells_pair {a b : Ty} {as bs : List A} {c : Bool} (h : sameCells (.pair a b) as bs = some c) :
    ∃ x r y q s t, as = x :: r ∧ bs = y :: q ∧ sameCells a [x] [y] = some s ∧ sameCells b r q = some t ∧ c = (s && t) := by
  cases as with
  | nil => simp [sameCells] at h
  | cons x r =>
    cases bs with
    | nil => simp [sameCells] at h
    | cons y q =>
      have h' : (match sameCells a [x] [y], sameCells b r q with
        | some s, some t => some (s && t)
        | _, _ => none) = some c := by rw [← h]; rfl
      split at h'
      · next s t h1 h2 => exact ⟨x, r, y, q, s, t, rfl, rfl, h1, h2, by cases h'; rfl⟩
      · cases h'

theorem run_eqFields {P : Program} {w : World} {E : Env} {μ : Lie} {bl : List Blk} (d : Nat) : ∀ (ty : Ty) (fs : List Field) (off : Nat) (as bs : List A) (us vs : List Value) (xs ys : List Value) (c : Bool),
    (TyF P ty).2 fs off → RepAs E w μ bl as us → RepAs E w μ bl bs vs → sameCells ty as bs = some c →
    (∀ j u, us[j]? = some u → xs[off + j]? = some u) → (∀ j u, vs[j]? = some u → ys[off + j]? = some u) →
    (Op.eqFields (d + 1) xs.toArray ys.toArray fs).run P w = .ok c w := by
  have base : ∀ (ty : Ty) (f : Field) (fs : List Field) (off : Nat) (x y : A) (u v : Value) (xs ys : List Value) (c : Bool), TyOf P f.type ty → f.name ≠ "_" → f.offset = off → (∀ a b, ty ≠ .pair a b) →
      RepA E w μ bl x u → RepA E w μ bl y v → sameCells ty [x] [y] = some c → xs[off]? = some u → ys[off]? = some v →
      (Op.eqFields (d + 1) xs.toArray ys.toArray (f :: fs)).run P w = (if c = true then (Op.eqFields (d + 1) xs.toArray ys.toArray fs).run P w else .ok false w) := by
    intro ty f fs off x y u v xs ys c ht hn ho hp hx hy hc h1 h2
    have hpart : ∀ (zs : List Value) (z : Value), zs[off]? = some z → (part f.type zs.toArray f.offset).run P w = .ok z w := by
      intro zs z hz
      have := (size_one hp hc).2
      simp [part, run_isAgg ht, this, ho, hz]
    simp only [Op.eqFields, if_pos hn, Sem.run_bind, hpart xs u h1, hpart ys v h2, Result.andThen_ok, run_equalIn_basic ht hx hy hc hp d]
    cases c <;> simp
  intro ty
  induction ty with
  | pair a b iha ihb =>
    intro fs off as bs us vs xs ys c hf ha hb hc h1 h2
    simp only [TyF] at hf
    split at hf
    · next f g r =>
      obtain ⟨e1, ⟨e2, e3⟩, e4⟩ := hf
      obtain ⟨x, r', y, q, s, t, rfl, rfl, hs, ht, rfl⟩ := sameCells_pair hc
      have hap : ∀ p q, a ≠ .pair p q := by rintro p q rfl; exact e2.elim
      cases us with
      | nil => exact ha.elim
      | cons u us =>
        cases vs with
        | nil => exact hb.elim
        | cons v vs =>
          have hsz := (size_one hap hs).1
          rw [base a f (g :: r) off x y u v xs ys s e2 e3 e1 hap ha.1 hb.1 hs (h1 0 u rfl) (h2 0 v rfl)]
          cases s with
          | false => simp
          | true =>
            simp only [if_true, Bool.true_and]
            rw [hsz] at e4
            refine ihb (g :: r) (off + 1) r' q us vs xs ys t e4 ha.2 hb.2 ht (fun j u hj => ?_) (fun j u hj => ?_)
            · have := h1 (j + 1) u (by simpa using hj); rwa [show off + 1 + j = off + (j + 1) by omega]
            · have := h2 (j + 1) u (by simpa using hj); rwa [show off + 1 + j = off + (j + 1) by omega]
    · exact hf.elim
  | _ =>
    intro fs off as bs us vs xs ys c hf ha hb hc h1 h2
    obtain ⟨f, rfl, e1, e2, e3⟩ := TyF.last (by intro a b e; cases e) hf
    obtain ⟨x, y, rfl, rfl⟩ := sameCells_base (by intro a b e; cases e) hc
    cases us with
    | nil => exact ha.elim
    | cons u us =>
      cases vs with
      | nil => exact hb.elim
      | cons v vs =>
        rw [base _ f [] off x y u v xs ys c e2 e3 e1 (by intro a b e; cases e) ha.1 hb.1 hc (h1 0 u rfl) (h2 0 v rfl)]
        cases c <;> simp [Op.eqFields]

theorem run_equal {P : Program} {w : World} {t : TypeId} {x y : Value} {c : Bool} (h : ∀ d, (Op.equalIn (d + 2) t x y).run P w = .ok c w) : (Op.equal t x y).run P w = .ok c w := h 9998

theorem evBin_sound {P : Program} {cx : Cx} (hcx : cx.ok P) {E : Env} {w0 w : World} {μ : Lie} {st : St} {a : Act} (hR : Rel E w0 μ st a w) {op : BinOp} {x y : Operand} {t : TypeId} {K : V → Option ρ} {r : ρ} (h : evBin (cx.ty t) (cx.cmp t) op x y st K = some r) :
    ∃ X v, K X = some r ∧ RepV E w μ st.bl X v ∧ RunsTo P w (do eqGuard op t x y (a.eval x) (a.eval y); binOp op t (a.eval x) (a.eval y)) v := by
  have hx := hR.get x
  have hy := hR.get y
  have shiftCase : ∀ {op : BinOp}, (op = .shl ∨ op = .shr) → ∀ {k k' : IntKind} {m n : Int}, st.get x = .at (.int k m) → st.get y = .at (.int k' n) → 0 ≤ n →
      RunsTo P w (do eqGuard op t x y (a.eval x) (a.eval y); binOp op t (a.eval x) (a.eval y)) (.int k (match op with | .shl => shiftL k m n | _ => shiftR k m n)) := by
    intro op hop k k' m n e1 e2 hn
    rw [e1] at hx; rw [e2] at hy
    have ex : a.eval x = .int k m := hx
    have ey : a.eval y = .int k' n := hy
    rw [ex, ey]
    have hneg : ¬ n < 0 := by omega
    rcases hop with rfl | rfl
    · simp [RunsTo, eqGuard, binOp, Op.shift, hneg, shiftL, wr_eq]
    · simp [RunsTo, eqGuard, binOp, Op.shift, hneg, shiftR]
  unfold evBin at h
  split at h
  · split at h
    · next k m k' n e1 e2 =>
      obtain ⟨hn, h⟩ := cond_none h
      exact ⟨_, _, h, rfl, shiftCase (Or.inl rfl) e1 e2 (of_decide_eq_true hn)⟩
    · cases h
  · split at h
    · next k m k' n e1 e2 =>
      obtain ⟨hn, h⟩ := cond_none h
      exact ⟨_, _, h, rfl, shiftCase (Or.inr rfl) e1 e2 (of_decide_eq_true hn)⟩
    · cases h
  · next op n1 n2 =>
    split at h
    · next k m k' n e1 e2 =>
      split at h
      · next ek =>
        subst ek
        rw [e1] at hx; rw [e2] at hy
        have ex : a.eval x = .int k m := hx
        have ey : a.eval y = .int k n := hy
        obtain ⟨X, v, h1, h2, h3⟩ := binInt_sound (P := P) (E := E) (w := w) (μ := μ) (bl := st.bl) (t := t) n1 n2 h
        refine ⟨_, v, h1, RepV.at h2, ?_⟩
        rw [ex, ey]
        refine run_then (x := ()) ?_ h3
        unfold eqGuard
        split <;> rfl
      · cases h
    · next m n e1 e2 =>
      rw [e1] at hx; rw [e2] at hy
      have ex : a.eval x = .string m := hx
      have ey : a.eval y = .string n := hy
      obtain ⟨X, v, h1, h2, h3⟩ := binStr_sound (P := P) (E := E) (w := w) (μ := μ) (bl := st.bl) (t := t) h
      refine ⟨_, v, h1, RepV.at h2, ?_⟩
      rw [ex, ey]
      refine run_then (x := ()) ?_ h3
      unfold eqGuard
      split <;> rfl
    · next m n e1 e2 =>
      split at h
      · next ht =>
        rw [e1] at hx; rw [e2] at hy
        have ex : a.eval x = .bool m := hx
        have ey : a.eval y = .bool n := hy
        have hu := (hcx.ty t _ ht).1
        have hrun : (Op.equal t (.bool m) (.bool n)).run P w = .ok (m == n) w := run_equal fun d => by simp [Op.equalIn, run_underlying hu]
        have hg : ∀ op : BinOp, (eqGuard op t x y (.bool m) (.bool n)).run P w = .ok () w := by intro op; unfold eqGuard; split <;> rfl
        rw [ex, ey]
        split at h
        · exact ⟨_, _, h, rfl, run_then (hg _) (by simp [RunsTo, binOp, hrun])⟩
        · exact ⟨_, _, h, rfl, run_then (hg _) (by simp [RunsTo, binOp, hrun])⟩
        · cases h
      · cases h
    · next m e1 =>
      split at h
      · next ht =>
        obtain ⟨hn, h⟩ := cond_none h
        rw [e1] at hx
        have ey : y = .const .nilIface := by
          unfold isNil at hn; split at hn <;> first | rfl | cases hn
        subst ey
        obtain ⟨⟨ms, hu⟩, _⟩ := hcx.ty t _ ht
        have hrun : (Op.equal t (a.eval x) .nilIface).run P w = .ok (!m) w := by
          cases m with
          | true => obtain ⟨t', u, e⟩ := hx; rw [e]; exact run_equal fun d => by simp [Op.equalIn, run_underlying hu]
          | false => have e : a.eval x = .nilIface := hx; rw [e]; exact run_equal fun d => by simp [Op.equalIn, run_underlying hu]
        have hg : ∀ op : BinOp, (eqGuard op t x (.const .nilIface) (a.eval x) .nilIface).run P w = .ok () w := by
          intro op
          cases m with
          | true => obtain ⟨t', u, e⟩ := hx; rw [e]; unfold eqGuard; cases op <;> rfl
          | false => have e : a.eval x = .nilIface := hx; rw [e]; unfold eqGuard; cases op <;> simp
        rw [show a.eval (.const .nilIface) = .nilIface from rfl]
        have hb : ∀ op, op = .eql ∨ op = .neq → binOp op t (a.eval x) .nilIface = (match op with | .eql => do pure (.bool (← Op.equal t (a.eval x) .nilIface)) | _ => do pure (.bool (!(← Op.equal t (a.eval x) .nilIface)))) := by
          intro op hop
          cases m with
          | true => obtain ⟨t', u, e⟩ := hx; rw [e]; rcases hop with rfl | rfl <;> rfl
          | false => have e : a.eval x = .nilIface := hx; rw [e]; rcases hop with rfl | rfl <;> rfl
        split at h
        · exact ⟨_, .bool _, h, rfl, run_then (hg _) (by rw [hb _ (Or.inl rfl)]; simp [RunsTo, hrun])⟩
        · exact ⟨_, .bool _, h, rfl, run_then (hg _) (by rw [hb _ (Or.inr rfl)]; simp [RunsTo, hrun])⟩
        · cases h
      · cases h
    · next m n e1 e2 =>
      split at h
      · next u ht =>
        obtain ⟨hc, h⟩ := cond_none h
        split at h
        · next c hs =>
          rw [e1] at hx; rw [e2] at hy
          obtain ⟨us, ex, hus⟩ := hx
          obtain ⟨vs, ey, hvs⟩ := hy
          obtain ⟨hc1, hc2⟩ := hcx.cmp t hc
          obtain ⟨⟨fs, hu, hf⟩, _⟩ := hcx.ty t _ ht
          have hfo : P.fieldsOf t = fs := by simp [Program.fieldsOf, hu]
          have hrun : (Op.equal t (.agg us.toArray) (.agg vs.toArray)).run P w = .ok c w := by
            refine run_equal fun d => ?_
            rw [run_equalIn_struct w _ t _ _ (by rw [hfo]; exact hu) hc1, hfo]
            exact run_eqFields d u fs.toList 0 m n us vs us vs c hf hus hvs hs (fun j u hj => by simpa using hj) (fun j u hj => by simpa using hj)
          have hg : ∀ op : BinOp, (eqGuard op t x y (.agg us.toArray) (.agg vs.toArray)).run P w = .ok () w := by
            intro op
            unfold eqGuard
            cases op <;> first | rfl | simp [hc2]
          rw [ex, ey]
          split at h
          · exact ⟨_, .bool _, h, rfl, run_then (hg _) (by simp [RunsTo, binOp, hrun])⟩
          · exact ⟨_, .bool _, h, rfl, run_then (hg _) (by simp [RunsTo, binOp, hrun])⟩
          · cases h
        · cases h
      · cases h
    · cases h
end Go.Proofs.YtcaknaddeblecaaGreatDoor.Ev

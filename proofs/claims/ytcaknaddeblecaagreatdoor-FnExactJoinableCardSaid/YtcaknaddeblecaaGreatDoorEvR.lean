/- Each operation, and regions. -/
import Derived.Test.YtcaknaddeblecaaGreatDoorEvQ
namespace Go.Proofs.YtcaknaddeblecaaGreatDoor.Ev
open Go Go.RowKit
set_option linter.unusedVariables false
set_option linter.unusedSimpArgs false
variable {ρ : Type}

section
variable {P : Program} {cx : Cx} {E : Env} {w0 w : World} {μ : Lie} {st : St} {a : Act} {o : Oper}

theorem evOp_sound (hcx : cx.good P E.G) {inl : Inl ρ} (hinl : InlOk P E inl) {K : V → St → Option ρ} {r : ρ} {path : List Nat} (hR : Rel E w0 μ st a w) (h : evOp cx inl path o st K = some r) : OpOk P E w0 μ st a w o K r := by
  have hp : ∀ {K' : V → St → Option ρ}, evPure cx o st (fun v => K' v st) = some r → OpOk P E w0 μ st a w o K' r := fun h => (Eff.of_pure hR (evPure_sound hcx.ok hR h)).opOk
  cases ho : o.op with
  | alloc t => exact (eff_alloc hcx.ok hR ho h).opOk
  | box t x => exact (eff_box hcx.ok hR ho h).opOk
  | makeSlice t n c => exact (eff_makeSlice hcx.ok hR ho h).opOk
  | buildSlice t n ps => exact (eff_buildSlice hcx.ok hR ho h).opOk
  | assign x =>
    have h' := h
    unfold evOp at h; simp only [ho] at h
    cases hn : nilSlice x with
    | false => rw [hn] at h; exact (Eff.of_pure hR (pure_move hR (Or.inr ho) h)).opOk
    | true =>
      rw [hn] at h
      simp only [cond_true] at h
      split at h
      · exact (eff_nil hcx.ok hR (Or.inr ho) hn h).opOk
      · cases h
  | move x =>
    unfold evOp at h; simp only [ho] at h
    cases hn : nilSlice x with
    | false => rw [hn] at h; exact (Eff.of_pure hR (pure_move hR (Or.inl ho) h)).opOk
    | true =>
      rw [hn] at h
      simp only [cond_true] at h
      split at h
      · exact (eff_nil hcx.ok hR (Or.inl ho) hn h).opOk
      · cases h
  | store t ad x =>
    unfold evOp at h; simp only [ho] at h
    split at h
    case h_2 => cases h
    next ty cs ht hx =>
    have hlen := (cond_none h).1
    replace h := (cond_none h).2
    have hlen : cs.length = ty.size := by simpa using hlen
    unfold evStore at h
    split at h
    · next b off had =>
      split at h
      · next vs hb =>
        have hc := (cond_none h).1
        replace h := (cond_none h).2
        obtain ⟨h1, h2⟩ := lock_false hc
        exact (eff_store_var hcx.ok hR ho ht hx hlen had hb (Nat.le_of_ble_eq_true h1) h2 h).opOk
      · cases h
    · next b g i off had =>
      split at h
      case h_2 => cases h
      next g' nf u l hb =>
      have hc := (cond_none h).1
      replace h := (cond_none h).2
      simp only [Bool.and_eq_true, Bool.not_eq_true', beq_iff_eq] at hc
      obtain ⟨⟨rfl, hl⟩, hle⟩ := hc
      revert h
      split
      case h_2 => intro h; cases h
      next y st' hy hf =>
      intro h
      split at h
      case h_2 => cases h
      next g2 nf2 t2 l2 hb2 =>
      exact (eff_store_elem (own2 := true) hcx.ok hR ho ht hx hlen had hb hl (Nat.le_of_ble_eq_true hle) hy hf hb2 h).opOk
    · cases h
  | convert c d x =>
    unfold evOp at h; simp only [ho] at h
    split at h
    · next s hc hd hx => exact (eff_bytes hcx.ok hR (inl := inl) (path := path) ho hc hd hx h).opOk
    · exact hp h
  | slice t x lo hi mx =>
    unfold evOp at h; simp only [ho] at h
    cases mx with
    | some m => exact hp h
    | none =>
      simp only at h
      split at h
      · next b g hx =>
        split at h
        · next st' hf => exact (eff_slice_own hcx.ok hR ho hx hf h).opOk
        · cases h
      · refine hp ?_
        unfold evPure; simp only [ho]; exact h
  | call c =>
    unfold evOp at h; simp only [ho] at h
    cases hc : c.callee with
    | builtin b =>
      rw [hc] at h
      cases b with
      | append =>
        simp only at h
        split at h
        · next x y hxy => exact (eff_append hcx.ok hR ho hc hxy h).opOk
        · cases h
      | _ => exact hp h
    | invoke v n => rw [hc] at h; exact hp h
    | value f =>
      rw [hc] at h
      simp only at h
      split at h
      case h_2 => cases h
      next g caps hf =>
      have hrf := hR.get f
      rw [hf] at hrf
      obtain ⟨cs, hv, hcaps⟩ := hrf
      have hargs : All2 (RepV E w μ st.bl) (c.args.toList.map st.get ++ caps.map fun p => V.at (.ptr p.1 p.2)) (c.args.toList.map a.eval ++ cs) := by
        refine All2.append ?_ ?_
        · have : ∀ xs : List Operand, All2 (RepV E w μ st.bl) (xs.map st.get) (xs.map a.eval) := by
            intro xs
            induction xs with
            | nil => trivial
            | cons x xs ih => exact ⟨hR.get x, ih⟩
          exact this _
        · have : ∀ (ps : List (Nat × Nat)) (us : List Value), All2 (fun (p : Nat × Nat) u => isPtr μ st.bl p.1 p.2 u) ps us → All2 (RepV E w μ st.bl) (ps.map fun p => V.at (.ptr p.1 p.2)) us := by
            intro ps
            induction ps with
            | nil => intro us h; cases us with | nil => trivial | cons _ _ => exact h.elim
            | cons p ps ih => intro us h; cases us with | nil => exact h.elim | cons u us => exact ⟨h.1, ih us h.2⟩
          exact this _ _ hcaps
      split at h
      · next s hs => exact call_opOk ho (hcx.call g s hs).fn hc hv rfl (evCall_sound (hcx.call g s hs) hR hargs h)
      · obtain ⟨h1, h2⟩ := hinl w0 w μ st a _ g _ _ K r hR hargs h
        exact call_opOk ho h1 hc hv rfl h2
  | _ => unfold evOp at h; simp only [ho] at h; exact hp h

/-- the slots that a step does not write are as they were -/
structure Keeps (W : List Nat) (st : St) (a : Act) (st' : St) (a' : Act) : Prop where
  len : st'.tmps.length = st.tmps.length
  slots : ∀ t, t ∉ W → st'.tmps[t]? = st.tmps[t]?
  frame : ∀ t, t ∉ W → a'.tmps[t]? = a.tmps[t]?

theorem Keeps.refl (W : List Nat) (st : St) (a : Act) : Keeps W st a st a := ⟨rfl, fun _ _ => rfl, fun _ _ => rfl⟩
theorem Keeps.trans {W : List Nat} {st st' st'' : St} {a a' a'' : Act} (h : Keeps W st a st' a') (h' : Keeps W st' a' st'' a'') : Keeps W st a st'' a'' :=
  ⟨h'.len.trans h.len, fun t ht => (h'.slots t ht).trans (h.slots t ht), fun t ht => (h'.frame t ht).trans (h.frame t ht)⟩
theorem Keeps.more {W W' : List Nat} (hW : ∀ t, t ∈ W → t ∈ W') {st st' : St} {a a' : Act} (h : Keeps W st a st' a') : Keeps W' st a st' a' :=
  ⟨h.len, fun t ht => h.slots t fun q => ht (hW t q), fun t ht => h.frame t fun q => ht (hW t q)⟩

theorem Keeps.put {W : List Nat} {st : St} {a : Act} {d : Option Tmp} (hd : ∀ t, d = some t → t ∈ W) (x : V) (v : Value) : Keeps W st a (st.put d x) (a.put d v) := by
  cases d with
  | none => exact Keeps.refl _ _ _
  | some d =>
    refine ⟨by simp [St.put], fun t ht => ?_, fun t ht => ?_⟩
    · have : t ≠ d := fun e => ht (e ▸ hd d rfl)
      simp only [St.put]
      rw [List.getElem?_set_ne (by omega)]
    · have : t ≠ d := fun e => ht (e ▸ hd d rfl)
      simp only [Act.put]
      rw [Array.getElem?_setIfInBounds_ne (by omega)]

theorem Keeps.only {W : List Nat} {st : St} {a : Act} {d : Nat} (hd : d ∈ W) (x : V) : Keeps W st a (st.put (some d) x) a := by
  refine ⟨by simp [St.put], fun t ht => ?_, fun _ _ => rfl⟩
  have : t ≠ d := fun e => ht (e ▸ hd)
  simp only [St.put]
  rw [List.getElem?_set_ne (by omega)]

theorem Rel.refine (hR : Rel E w0 μ st a w) {d : Nat} {x : V} (h : RepV E w μ st.bl x (a.tmps.getD d undef)) : Rel E w0 μ (st.put (some d) x) a w := by
  refine ⟨hR.mem, ?_, hR.defers⟩
  show All2 _ (st.tmps.set d x) a.tmps.toList
  refine All2.of_get (by simpa using hR.slots.length) fun i y v hy hv => ?_
  rw [List.getElem?_set] at hy
  split at hy
  · next e =>
    subst e
    split at hy
    · cases hy
      have : a.tmps.getD d undef = v := by
        rw [Array.getElem?_toList] at hv
        rw [Array.getD_eq_getD_getElem?, hv]; rfl
      rw [← this]; exact h
    · cases hy
  · obtain ⟨v', h1, h2⟩ := hR.slots.get hy
    rw [hv] at h1; cases h1; exact h2

theorem goes_put (d : Option Tmp) (x : V) : Goes w μ st w μ (st.put d x) := by
  cases d <;> exact ⟨Evo.refl _ _ _, rfl, fun _ _ _ => rfl⟩

theorem St.put_bl (st : St) (d : Option Tmp) (x : V) : (st.put d x).bl = st.bl := by cases d <;> rfl

/-- how a region goes on -/
def OpsK (E : Env) (w0 : World) (μ : Lie) (st : St) (a : Act) (w : World) (W : List Nat) (K : St → Option ρ) (r : ρ) (Q : Exit → Act → World → Prop) : Prop :=
  ∀ st' μ' a' w', K st' = some r → Rel E w0 μ' st' a' w' → Keeps W st a st' a' → Goes w μ st w' μ' st' → Q .normal a' w'

theorem evOps_sound (hcx : cx.good P E.G) {inl : Inl ρ} (hinl : InlOk P E inl) {path : List Nat} {ops : Array Oper} {W : List Nat} (hW : ∀ (i : Nat) (o : Oper) (d : Nat), ops.toList[i]? = some o → o.dst = some d → d ∈ W) {Q : Exit → Act → World → Prop} {r : ρ} {K : St → Option ρ} :
    ∀ (rest : List Oper) (i : Nat) (st : St) (μ : Lie) (a : Act) (w : World), ops.toList.drop i = rest → Rel E w0 μ st a w → evOps cx inl path ops.toList rest st K = some r → OpsK E w0 μ st a w W K r Q → wpOps P ops Q (List.range' i rest.length) a w
  | [], i, st, μ, a, w, _, hR, h, hQ => hQ st μ a w h hR (Keeps.refl _ _ _) (Goes.refl _ _ _)
  | o :: rest, i, st, μ, a, w, hd, hR, h, hQ => by
    have hi : ops.toList[i]? = some o := by
      have := congrArg (fun l => l[0]?) hd
      simpa using this
    have hi' : ops[i]? = some o := by rw [← Array.getElem?_toList]; exact hi
    have hd' : ops.toList.drop (i + 1) = rest := by
      have := congrArg List.tail hd
      simpa using this
    have hdst : ∀ t, o.dst = some t → t ∈ W := fun t e => hW i o t hi e
    -- the operation is carried out
    have run : ∀ (st1 : St), Rel E w0 μ st1 a w → Keeps W st a st1 a → Goes w μ st w μ st1 → (evOp cx inl path o st1 fun v st => evOps cx inl path ops.toList rest (st.put o.dst v) K) = some r →
        o.wp P a w (wpOps P ops Q (List.range' (i + 1) rest.length)) Q := by
      intro st1 r1 k1 g1 h1
      refine evOp_sound hcx hinl r1 h1 _ Q fun X st' μ' v w' hk hx r' ht g' => ?_
      have kp : Keeps W st a (st'.put o.dst X) (a.put o.dst v) := by
        refine (k1.trans ⟨by rw [ht], fun t _ => by rw [ht], fun _ _ => rfl⟩).trans (Keeps.put hdst X v)
      exact evOps_sound hcx hinl hW rest (i + 1) _ μ' _ w' hd' (r'.put o.dst hx) hk fun st2 μ2 a2 w2 q1 q2 q3 q4 => hQ st2 μ2 a2 w2 q1 q2 (kp.trans q3) ((g1.trans g').trans ((goes_put o.dst X).trans q4))
    -- the operation is passed over
    have skip : ∀ (st1 : St), Rel E w0 μ st1 a w → Keeps W st a st1 a → Goes w μ st w μ st1 → evOps cx inl path ops.toList rest (st1.put o.dst V.skipped) K = some r → wpOps P ops Q (List.range' (i + 1) rest.length) (a.put o.dst undef) w := by
      intro st1 r1 k1 g1 h1
      have kp : Keeps W st a (st1.put o.dst V.skipped) (a.put o.dst undef) := k1.trans (Keeps.put hdst V.skipped undef)
      exact evOps_sound hcx hinl hW rest (i + 1) _ μ _ w hd' (r1.put o.dst RepV.skipped) h1 fun st2 μ2 a2 w2 q1 q2 q3 q4 => hQ st2 μ2 a2 w2 q1 q2 (kp.trans q3) (g1.trans ((goes_put o.dst V.skipped).trans q4))
    rw [List.length_cons, List.range'_succ]
    unfold wpOps
    simp only [hi']
    unfold evOps at h
    rw [forceSt_eq] at h
    split at h
    · next hg =>
      have hw : Region.wanted o (yielded ops a.tmps) = true := by unfold Region.wanted; rw [hg]
      rw [if_pos hw]
      exact Or.inl (run st hR (Keeps.refl _ _ _) (Goes.refl _ _ _) h)
    · next j want hg =>
      split at h
      case h_2 => cases h
      next oj hj =>
      split at h
      case h_2 => cases h
      next d hdj =>
      split at h
      case h_3 => cases h
      case h_2 hb =>
        have hval := hR.tmp d
        rw [hb] at hval
        have hval : a.tmps.getD d undef = undef := hval.skipped_eq
        have hy : yielded ops a.tmps j = none := by
          unfold yielded
          rw [← Array.getElem?_toList, hj]
          simp only [Option.bind_some, hdj]
          rw [Array.getD_eq_getD_getElem?] at hval
          cases hq : a.tmps[d]? with
          | none => rfl
          | some u =>
            rw [hq] at hval
            have hval : u = undef := hval
            subst hval
            rfl
        have hw : Region.wanted o (yielded ops a.tmps) = false := by unfold Region.wanted; rw [hg]; simp [hy]
        rw [hw]
        exact skip st hR (Keeps.refl _ _ _) (Goes.refl _ _ _) h
      next b hb =>
      have hdW : d ∈ W := hW j oj d hj hdj
      have hval := hR.tmp d
      rw [hb] at hval
      have hval : a.tmps.getD d undef = .bool b := hval
      have hlt : a.tmps[d]? = some (.bool b) := by
        rw [Array.getD_eq_getD_getElem?] at hval
        cases hq : a.tmps[d]? with
        | none =>
          rw [hq] at hval
          exact absurd hval (by simp [undef])
        | some u => rw [hq] at hval; exact congrArg some hval
      have hy : yielded ops a.tmps j = some b := by
        unfold yielded
        rw [← Array.getElem?_toList, hj]
        simp only [Option.bind_some, hdj, hlt]
      have hw : Region.wanted o (yielded ops a.tmps) = (b == want) := by unfold Region.wanted; rw [hg]; simp [hy]
      rw [hw]
      have rb : ∀ c, c = b → Rel E w0 μ (st.put (some d) (.at (.bool c))) a w := fun c e => hR.refine (by rw [hval, e]; rfl)
      cases b <;> cases want <;> simp only [cond_true, cond_false] at h
      · exact Or.inl (run _ (rb _ rfl) (Keeps.only hdW _) (goes_put _ _) h)
      · exact skip _ (rb _ rfl) (Keeps.only hdW _) (goes_put _ _) h
      · exact skip _ (rb _ rfl) (Keeps.only hdW _) (goes_put _ _) h
      · exact Or.inl (run _ (rb _ rfl) (Keeps.only hdW _) (goes_put _ _) h)
end
end Go.Proofs.YtcaknaddeblecaaGreatDoor.Ev

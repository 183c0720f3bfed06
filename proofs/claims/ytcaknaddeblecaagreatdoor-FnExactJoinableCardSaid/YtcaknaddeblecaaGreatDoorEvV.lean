/- Functions: inline, and by their contract. -/
import Derived.Test.YtcaknaddeblecaaGreatDoorEvU
namespace Go.Proofs.YtcaknaddeblecaaGreatDoor.Ev
open Go Go.RowKit
set_option linter.unusedVariables false
set_option linter.unusedSimpArgs false
variable {ρ : Type}

section
variable {P : Program} {cx : Cx} {E : Env} {w0 w : World} {μ : Lie} {st : St} {a : Act}

def resRun (tmps : Array Value) : ResultVar → Sem Value
  | .tmp t => pure (tmps.getD t undef)
  | .cell a t => do loadVar t (← asAddr (tmps.getD a undef))

theorem results_eq (fn : Func) (tmps : Array Value) : results fn tmps = (do let vs ← fn.results.mapM (resRun tmps); pure (if h : vs.size = 1 then vs[0] else .tuple vs)) := by
  unfold results
  congr 1

theorem resOf_sound (hcx : cx.ok P) (hR : Rel E w0 μ st a w) : ∀ (rs : List ResultVar) (xs : List (Bool × List A)), resOf st.bl cx st rs = some xs →
    ∃ vs : List Value, (rs.mapM (resRun a.tmps)).run P w = .ok vs w ∧ All2 (RepR E w μ st.bl) xs vs
  | [], xs, h => by simp only [resOf] at h; cases h; exact ⟨[], by simp, trivial⟩
  | .tmp t :: rs, xs, h => by
    simp only [resOf] at h
    have hv := hR.tmp t
    split at h
    · cases h
    · next x ys hne hx hys =>
      cases h
      obtain ⟨vs, h1, h2⟩ := resOf_sound hcx hR rs ys hys
      rw [hx] at hv
      have hr : RepA E w μ st.bl x (a.tmps.getD t undef) := by
        cases x <;> first | exact hv | exact absurd rfl (hne)
      exact ⟨_ :: vs, by simp only [List.mapM_cons, resRun, Sem.run_bind, Sem.run_pure, Result.andThen_ok, h1], ⟨hr, trivial⟩, h2⟩
    · next cs ys hx hys =>
      cases h
      obtain ⟨vs, h1, h2⟩ := resOf_sound hcx hR rs ys hys
      rw [hx] at hv
      exact ⟨_ :: vs, by simp only [List.mapM_cons, resRun, Sem.run_bind, Sem.run_pure, Result.andThen_ok, h1], hv, h2⟩
    · cases h
  | .cell b t :: rs, xs, h => by
    simp only [resOf] at h
    split at h
    case h_2 => cases h
    next ty cs off ys ht hc hys =>
    have hle := (cond_none h).1
    replace h := (cond_none h).2
    have hle : off + ty.size ≤ cs.length := Nat.le_of_ble_eq_true hle
    obtain ⟨blk, base, us, hv, hrep, hcell⟩ := cellsAt_sound hR.mem (hR.tmp b) hc
    obtain ⟨vs, h1, h2⟩ := resOf_sound hcx hR rs ys hys
    have hlen := hrep.length
    have hrun := run_loadVar (hcx.ty t ty ht) (w := w) (blk := blk) (o := base + off) (vs := (us.drop off).take ty.size) (by simp; omega) (fun j c hj => by
      obtain ⟨hj, _⟩ := getElem?_part hj
      rw [Nat.add_assoc]; exact hcell _ _ hj)
    have hto := takeOut_sound hrep hle
    obtain ⟨u, hrun, hto⟩ : ∃ u, (loadVar t ⟨blk, base + off, none⟩).run P w = .ok u w ∧ RepV E w μ st.bl (takeOut ty cs off) u := ⟨_, hrun, hto⟩
    refine ⟨u :: vs, ?_, ?_⟩
    · simp only [List.mapM_cons, resRun, Sem.run_bind, Sem.run_pure, Result.andThen_ok, hv, asAddr, hrun, h1]
    · split at h
      · cases h
      · next x hne hx =>
        cases h
        refine ⟨?_, h2⟩
        rw [hx] at hto
        have hr : RepA E w μ st.bl x u := by
          cases x <;> first | exact hto | exact absurd rfl (hne)
        exact ⟨hr, trivial⟩
      · next x hx =>
        cases h
        refine ⟨?_, h2⟩
        rw [hx] at hto
        exact hto
      · cases h

theorem results_sound (hcx : cx.ok P) (hR : Rel E w0 μ st a w) {fn : Func} {xs : List (Bool × List A)} (h : resOf st.bl cx st fn.results.toList = some xs) :
    ∃ vs : List Value, (results fn a.tmps).run P w = .ok (packed vs) w ∧ All2 (RepR E w μ st.bl) xs vs := by
  obtain ⟨vs, h1, h2⟩ := resOf_sound hcx hR _ _ h
  refine ⟨vs, ?_, h2⟩
  rw [results_eq]
  have hm : (fn.results.mapM (resRun a.tmps)).run P w = .ok vs.toArray w := by
    rw [Array.mapM_eq_mapM_toList]
    simp only [Sem.run_map, h1]
    rfl
  rw [Sem.run_bind, hm]
  simp only [Result.andThen_ok, Sem.run_pure]
  congr 1
  unfold packed
  split
  · next h =>
    cases vs with
    | nil => simp at h
    | cons v vs => cases vs with
      | nil => rfl
      | cons u us => simp at h
  · next h =>
    cases vs with
    | nil => rfl
    | cons v vs => cases vs with
      | nil => exact absurd rfl h
      | cons u us => rfl

theorem evInl_sound (hcx : cx.good P E.G) : ∀ d : Nat, InlOk P E (evInl (ρ := ρ) cx d)
  | 0 => by
    intro w0 w μ st a path f Xs vs K r hR hX h
    cases h
  | d + 1 => by
    intro w0 w μ st a path f Xs vs K r hR hX h
    simp only [evInl] at h
    split at h
    case h_2 => cases h
    next fn hf =>
    obtain ⟨p1, p2, p3⟩ := hcx.ok.body f fn hf
    split at h
    case h_2 => cases h
    next c hc =>
    refine ⟨⟨fn, p1, p2, p3⟩, calls_of_wp p1 hc ?_⟩
    have hlen := hX.length
    have hR1 : Rel E w0 μ { st with tmps := enter fn.ntmps Xs } { tmps := vs.toArray ++ Array.replicate (fn.ntmps - vs.toArray.size) undef, defers := [] } w := by
      refine ⟨hR.mem, ?_, rfl⟩
      simp only [enter, Array.toList_append, Array.toList_replicate, List.size_toArray]
      rw [hlen]
      refine hX.append ?_
      generalize fn.ntmps - vs.length = m
      induction m with
      | zero => trivial
      | succ m ih => exact ⟨RepV.undef, ih⟩
    refine wp_mono (evCode_sound hcx (evInl_sound hcx d) c w0 _ _ r μ _ w hR1 h) ?_
    rintro e a' w' ⟨ex, st', μ', rfl, hk, hR', kp, g⟩
    have fin : (match resOf st'.bl cx st' fn.results.toList with
          | some vs => K (toValue vs) { st' with tmps := st.tmps }
          | none => none) = some r → a'.defers = [] ∧ ∃ v, (results fn a'.tmps).run P w' = .ok v w' ∧ CallPost E w0 μ st a w K r (.returned v) w' := by
      intro hk
      split at hk
      case h_2 => cases hk
      next xs hxs =>
      obtain ⟨us, q1, q2⟩ := results_sound hcx.ok hR' hxs
      refine ⟨hR'.defers, packed us, q1, _, _, μ', hk, toValue_rep q2, ?_, rfl, ⟨g.evo, g.lock, g.kept⟩⟩
      exact ⟨hR'.mem, All2.imp (fun _ _ hx => g.evo.repV hx) hR.slots, hR.defers⟩
    cases ex with
    | exit i => cases hk
    | normal =>
      obtain ⟨h1, v, h2, h3⟩ := fin hk
      exact ⟨h1, v, h2, h3⟩
    | ret =>
      obtain ⟨h1, v, h2, h3⟩ := fin hk
      exact ⟨h1, v, h2, h3⟩
end
end Go.Proofs.YtcaknaddeblecaaGreatDoor.Ev

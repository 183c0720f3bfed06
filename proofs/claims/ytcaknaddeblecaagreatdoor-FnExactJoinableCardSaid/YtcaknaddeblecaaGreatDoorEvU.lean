/- Code. -/
import Derived.Test.YtcaknaddeblecaaGreatDoorEvT
import Derived.Test.YtcaknaddeblecaaGreatDoorEvY
namespace Go.Proofs.YtcaknaddeblecaaGreatDoor.Ev
open Go Go.RowKit
set_option linter.unusedVariables false
set_option linter.unusedSimpArgs false
variable {ρ : Type}

def exOf : Ex → Exit
  | .normal => .normal
  | .exit i => .exit i
  | .ret => .ret

section
variable {P : Program} {cx : Cx} {E : Env} {w0 w : World} {μ : Lie} {st : St} {a : Act}

/-- what a run of code shows at its end -/
def PostOf (E : Env) (w0 : World) (μ : Lie) (st : St) (a : Act) (w : World) (W : List Nat) (K : Ex → St → Option ρ) (r : ρ) (e : Exit) (a' : Act) (w' : World) : Prop :=
  ∃ ex st' μ', exOf ex = e ∧ K ex st' = some r ∧ Rel E w0 μ' st' a' w' ∧ Keeps W st a st' a' ∧ Goes w μ st w' μ' st'

/-- behind a loop's round -/
def LoopAt (P : Program) (c : Code) (Q : Exit → Act → World → Prop) (a : Act) (w : World) : Prop :=
  ∀ (b : Frame) (k : List Item) (cs : List Frame), ∃ e a' w', Q e a' w' ∧ Arrives P (lone (b.at a (.code c :: .inLoop c :: k)) cs w) b k cs e a' w'

theorem loop_unroll {c : Code} {Q : Exit → Act → World → Prop} (h : c.wp P (Exit.then (LoopAt P c Q) Q) a w) : LoopAt P c Q a w := by
  intro b k cs
  obtain ⟨e, a₁, w₁, hq, harr⟩ := h b (.inLoop c :: k) cs
  cases e with
  | normal =>
    obtain ⟨e₂, a₂, w₂, hq₂, harr₂⟩ := hq b k cs
    exact ⟨e₂, a₂, w₂, hq₂, .of_steps (Steps.trans harr (.one step_inLoop)) harr₂⟩
  | exit id => exact ⟨_, a₁, w₁, hq, .pass (x := .inLoop c) rfl (fun _ _ => .inl (by simp)) harr⟩
  | goto l => exact ⟨_, a₁, w₁, hq, .pass (x := .inLoop c) rfl (fun _ _ => .inl (by simp)) harr⟩
  | ret => exact ⟨_, a₁, w₁, hq, .pass (x := .inLoop c) rfl (fun _ _ => .inl (by simp)) harr⟩
  | panic ch => exact ⟨_, a₁, w₁, hq, .pass (x := .inLoop c) rfl (fun _ _ => .inl (by simp)) harr⟩
  | outgrown => exact ⟨_, a₁, w₁, hq, .pass (x := .inLoop c) rfl (fun _ _ => .inl (by simp)) harr⟩

theorem wp_loop_at {c : Code} {Q : Exit → Act → World → Prop} (h : LoopAt P c Q a w) : (Code.loop c).wp P Q a w := by
  intro b k cs
  obtain ⟨e, a', w', hq, harr⟩ := h b k cs
  exact ⟨e, a', w', hq, .of_steps (.one step_loop) harr⟩

/-- what is proved of code -/
def CodeOk (P : Program) (E : Env) (c : Code) (ev : St → (Ex → St → Option ρ) → Option ρ) (W : List Nat) : Prop :=
  ∀ (w0 : World) (st : St) (K : Ex → St → Option ρ) (r : ρ) (μ : Lie) (a : Act) (w : World), Rel E w0 μ st a w → ev st K = some r → c.wp P (PostOf E w0 μ st a w W K r) a w

theorem evLoop_sound {c : Code} {ev : St → (Ex → St → Option ρ) → Option ρ} {ws : List Nat} (hc : CodeOk P E c ev ws) (kp : Keep) (n : Nat) : CodeOk P E (.loop c) (evLoop kp ws n ev) ws := by
  intro w0 st K r μ a w hR h
  unfold evLoop at h
  split at h
  case h_1 => cases h
  next x0 hx0 =>
  refine wp_loop_at ?_
  -- at the head, in every round
  have key : ∀ (n : Nat) (x : (shapeOf kp ws st).den) (μ1 : Lie) (a1 : Act) (w1 : World), Rel E w0 μ1 ((shapeOf kp ws st).mk' st x) a1 w1 → Evo w μ st.bl w1 μ1 ((shapeOf kp ws st).mk' st x).bl → (∀ t, t ∉ ws → a1.tmps[t]? = a.tmps[t]?) →
      ((shapeOf kp ws st).mk' st x).tmps.length = st.tmps.length → (∀ t, t ∉ ws → ((shapeOf kp ws st).mk' st x).tmps[t]? = st.tmps[t]?) → (∀ b : Nat, (shapeOf kp ws st).blks[b]? = some BlkK.same → ((shapeOf kp ws st).mk' st x).bl[b]? = st.bl[b]?) →
      ∀ F : ((shapeOf kp ws st).den → Option ρ) → (shapeOf kp ws st).den → Option ρ, (∀ rec y, F rec y = some r → ∃ K', ev ((shapeOf kp ws st).mk' st y) K' = some r ∧
          (∀ st', K' .normal st' = some r → ∃ z, (shapeOf kp ws st).un st' = some z ∧ rec z = some r) ∧ (∀ e st', e ≠ .normal → K' e st' = some r → K e { st' with lock := st.lock } = some r)) →
      iter F n x = some r → LoopAt P c (PostOf E w0 μ st a w ws K r) a1 w1 := by
    intro n
    induction n with
    | zero => intro x μ1 a1 w1 _ _ _ _ _ _ F _ h; cases h
    | succ n ih =>
      intro x μ1 a1 w1 hR1 hE1 hf1 hl1 hs1 hb1 F hF h
      simp only [iter] at h
      obtain ⟨K', h, hn, he⟩ := hF _ _ h
      refine loop_unroll (wp_mono (hc w0 _ _ r μ1 a1 w1 hR1 h) ?_)
      rintro e a2 w2 ⟨ex, st2, μ2, rfl, hk, hR2, kp2, g2⟩
      have hE2 : Evo w μ st.bl w2 μ2 st2.bl := hE1.trans g2.evo
      have hlock : ∀ b : Nat, b < st.bl.length → (b ∈ st.lock ∨ (shapeOf kp ws st).blks[b]? = some BlkK.same) → st2.bl[b]? = st.bl[b]? := by
        intro b hlt hb
        have hsm : (shapeOf kp ws st).blks[b]? = some BlkK.same := by
          rcases hb with hb | hb
          · have hlt' : b < (shapeOf kp ws st).blks.length := by rw [show (shapeOf kp ws st).blks.length = st.bl.length from blkKinds_length kp st.lock st.bl st.bl 0]; exact hlt
            obtain ⟨b0, p1, p2⟩ := blkKinds_get kp st.lock st.bl st.bl 0 b _ (List.getElem?_eq_getElem hlt')
            rw [Nat.zero_add] at p2
            have hcon : st.lock.contains b = true := by simpa using hb
            rw [List.getElem?_eq_getElem hlt']
            revert p2
            generalize (shapeOf kp ws st).blks[b] = k
            intro p2
            rw [hcon] at p2
            cases k with
            | same => rfl
            | var cs => exact absurd p2.1 (by simp)
            | arr grow g own nf t => exact absurd p2.1 (by simp)
          · exact hb
        have hin : b ∈ ((shapeOf kp ws st).mk' st x).lock := by
          have := lockOf_mem _ 0 b hsm
          rw [Nat.zero_add] at this
          exact List.mem_append_right _ this
        have hlen : b < ((shapeOf kp ws st).mk' st x).bl.length := by
          have := hE1.len; omega
        rw [g2.kept b hin hlen, hb1 b hsm]
      have hf2 : ∀ t, t ∉ ws → a2.tmps[t]? = a.tmps[t]? := fun t ht => (kp2.frame t ht).trans (hf1 t ht)
      have out : ∀ e, K e { st2 with lock := st.lock } = some r → PostOf E w0 μ st a w ws K r (exOf e) a2 w2 := by
        intro e he
        refine ⟨e, _, μ2, rfl, he, ⟨hR2.mem, hR2.slots, hR2.defers⟩, ⟨kp2.len.trans hl1, fun t ht => (kp2.slots t ht).trans (hs1 t ht), hf2⟩, ⟨hE2, rfl, fun b hb hlt => hlock b hlt (Or.inl hb)⟩⟩
      cases ex with
      | normal =>
        obtain ⟨z, hz, hk⟩ := hn _ hk
        obtain ⟨r1, r2, r3, r4, r5⟩ := shape_sound (kp := kp) (ws := ws) hR hR2 hE2 hf2 (fun b hb => hlock b (by
          have h1 := lt_of_get hb
          rwa [show (shapeOf kp ws st).blks.length = st.bl.length from blkKinds_length kp st.lock st.bl st.bl 0] at h1) (Or.inr hb)) hz
        exact ih z μ2 a2 w2 r1 r2 hf2 r3 r4 r5 F hF hk
      | exit i => exact out _ (he _ _ (by simp) hk)
      | ret => exact out _ (he _ _ (by simp) hk)
  obtain ⟨r1, r2, r3, r4, r5⟩ := shape_sound (kp := kp) (ws := ws) hR hR (Evo.refl _ _ _) (fun _ _ => rfl) (fun _ _ => rfl) hx0
  refine key n x0 μ a w r1 r2 (fun _ _ => rfl) r3 r4 r5 _ (fun rec y hy => ⟨_, hy, fun st' hk => ?_, fun e st' he hk => ?_⟩) h
  · simp only at hk
    split at hk
    · next z hz => exact ⟨z, hz, hk⟩
    · cases hk
  · cases e with
    | normal => exact absurd rfl he
    | exit i => exact hk
    | ret => exact hk

theorem opsDst_mem : ∀ (os : List Oper) (i : Nat) (o : Oper) (d : Nat), os[i]? = some o → o.dst = some d → d ∈ opsDst os
  | [], i, o, d, h, _ => by simp at h
  | x :: os, 0, o, d, h, hd => by
    simp only [List.getElem?_cons_zero, Option.some.injEq] at h
    subst h
    simp [opsDst, hd]
  | x :: os, i + 1, o, d, h, hd => by
    have := opsDst_mem os i o d (by simpa using h) hd
    unfold opsDst
    split
    · exact List.mem_cons_of_mem _ this
    · exact this

theorem runs_keeps {all : List Oper} : ∀ (rest : List Oper) (st : St) (Xs : List V) (st' : St), Runs cx all rest st Xs st' → st'.tmps.length = st.tmps.length ∧ ∀ t, t ∉ opsDst rest → st'.tmps[t]? = st.tmps[t]?
  | [], st, Xs, st', h => by obtain ⟨_, rfl⟩ := h; exact ⟨rfl, fun _ _ => rfl⟩
  | o :: rest, st, Xs, st', h => by
    obtain ⟨X, Ys, _, _, h⟩ := h
    obtain ⟨h1, h2⟩ := runs_keeps rest _ _ _ h
    cases hd : o.dst with
    | none =>
      rw [hd] at h1 h2
      refine ⟨h1, fun t ht => h2 t ?_⟩
      simpa [opsDst, hd] using ht
    | some d =>
      rw [hd] at h1 h2
      refine ⟨h1.trans (by simp [St.put]), fun t ht => ?_⟩
      simp only [opsDst, hd, List.mem_cons, not_or] at ht
      rw [h2 t ht.2]
      simp only [St.put]
      rw [List.getElem?_set_ne (by omega)]

theorem opsDst_take : ∀ (os : List Oper) (m : Nat) (t : Nat), t ∈ opsDst (os.take m) → t ∈ opsDst os
  | [], m, t, h => by simpa using h
  | o :: os, 0, t, h => by simp [opsDst] at h
  | o :: os, m + 1, t, h => by
    rw [List.take_succ_cons] at h
    unfold opsDst at h ⊢
    split at h
    · rcases List.mem_cons.mp h with h | h
      · exact List.mem_cons.mpr (Or.inl h)
      · exact List.mem_cons.mpr (Or.inr (opsDst_take os m t h))
    · exact opsDst_take os m t h

theorem PostOf.mono {W W' : List Nat} {K : Ex → St → Option ρ} {r : ρ} (hW : ∀ t, t ∈ W → t ∈ W') {e : Exit} {a' : Act} {w' : World} (h : PostOf E w0 μ st a w W K r e a' w') : PostOf E w0 μ st a w W' K r e a' w' :=
  let ⟨ex, st', μ', h1, h2, h3, h4, h5⟩ := h; ⟨ex, st', μ', h1, h2, h3, h4.more hW, h5⟩

theorem evCode_sound (hcx : cx.good P E.G) {inl : Inl ρ} (hinl : InlOk P E inl) {path : List Nat} : ∀ c : Code, CodeOk P E c (evCode cx inl path c) (Code.writes c) := by
  intro c
  induction c with
  | skip =>
    intro w0 st K r μ a w hR h
    exact wp_skip ⟨.normal, st, μ, rfl, h, hR, Keeps.refl _ _ _, Goes.refl _ _ _⟩
  | region id ops draw =>
    intro w0 st K r μ a w hR h
    unfold evCode at h
    cases draw with
    | true =>
      simp only [cond_true] at h
      have hd := (cond_none h).1
      replace h := (cond_none h).2
      obtain ⟨Xs, st', h1, h2⟩ := evDraw_runs _ _ h
      obtain ⟨al, hal, h2⟩ := evGrow_some h2
      have hkeep := runs_keeps _ _ _ _ h1
      have htake : ∀ t, t ∈ opsDst (ops.toList.take (tailAt ops.toList)) → t ∈ opsDst ops.toList := opsDst_take _ _
      have hfin : (fin al st').tmps.length = st.tmps.length ∧ ∀ t, t ∉ opsDst ops.toList → (fin al st').tmps[t]? = st.tmps[t]? := by
        cases hal with
        | none _ => exact ⟨hkeep.1, fun t ht => hkeep.2 t fun q => ht (htake t q)⟩
        | some i0 oa tid d t _ q1 _ q3 _ =>
          refine ⟨by simp only [fin, grownSt, St.put, List.length_set]; exact hkeep.1, fun u hu => ?_⟩
          have hne : d ≠ u := by rintro rfl; exact hu (opsDst_mem _ i0 oa d q1 q3)
          simp only [fin, grownSt, St.put]
          rw [List.getElem?_set_ne hne]
          exact hkeep.2 u fun q => hu (htake u q)
      refine draw_sound hcx hd hal h1 hR fun μ' a' w' hR' hk hg => ?_
      have hlen : ops.size - tailAt ops.toList = (ops.toList.drop (tailAt ops.toList)).length := by simp
      rw [hlen]
      refine evOps_sound hcx hinl (W := opsDst ops.toList) (fun i o d h1 h2 => opsDst_mem _ i o d h1 h2) _ (tailAt ops.toList) _ μ' a' w' rfl hR' h2 ?_
      intro st2 μ2 a2 w2 q1 q2 q3 q4
      exact ⟨.normal, st2, μ2, rfl, q1, q2, (Keeps.mk hfin.1 hfin.2 hk).trans q3, hg.trans q4⟩
    | false =>
    simp only [cond_false] at h
    refine wp_region ?_
    rw [List.range_eq_range', show ops.size = ops.toList.length by simp]
    refine evOps_sound hcx hinl (W := opsDst ops.toList) (fun i o d h1 h2 => opsDst_mem _ i o d h1 h2) ops.toList 0 st μ a w rfl hR h ?_
    intro st' μ' a' w' q1 q2 q3 q4
    exact ⟨.normal, st', μ', rfl, q1, q2, q3, q4⟩
  | seq x y ihx ihy =>
    intro w0 st K r μ a w hR h
    unfold evCode at h
    refine wp_seq (wp_mono (ihx w0 st _ r μ a w hR h) ?_)
    rintro e a1 w1 ⟨ex, st1, μ1, rfl, hk, hR1, k1, g1⟩
    have out : ∀ ex, K ex st1 = some r → PostOf E w0 μ st a w (Code.writes (.seq x y)) K r (exOf ex) a1 w1 := fun ex hk => ⟨ex, st1, μ1, rfl, hk, hR1, k1.more fun t ht => List.mem_append_left _ ht, g1⟩
    cases ex with
    | normal =>
      refine wp_mono (ihy w0 st1 K r μ1 a1 w1 hR1 hk) ?_
      rintro e a2 w2 ⟨ex, st2, μ2, rfl, hk, hR2, k2, g2⟩
      exact ⟨ex, st2, μ2, rfl, hk, hR2, (k1.more fun t ht => List.mem_append_left _ ht).trans (k2.more fun t ht => List.mem_append_right _ ht), g1.trans g2⟩
    | exit i => exact out _ hk
    | ret => exact out _ hk
  | cond c x y ihx ihy =>
    intro w0 st K r μ a w hR h
    cases c with
    | tmp t =>
      unfold evCode at h
      split at h
      case h_2 => cases h
      next b hb =>
      have hv := hR.tmp t
      rw [hb] at hv
      have hv : a.tmps.getD t undef = .bool b := hv
      have rb : ∀ c, c = b → Rel E w0 μ (st.put (some t) (.at (.bool c))) a w := fun c e => hR.refine (by rw [hv, e]; rfl)
      have kp : ∀ X, Keeps (Code.writes (.cond (.tmp t) x y)) st a (st.put (some t) X) a := fun X => Keeps.only (by simp [Code.writes]) X
      cases b with
      | true =>
        simp only [cond_true] at h
        refine wp_cond_true hv (wp_mono (ihx w0 _ K r μ a w (rb _ rfl) h) ?_)
        rintro e a2 w2 ⟨ex, st2, μ2, rfl, hk, hR2, k2, g2⟩
        exact ⟨ex, st2, μ2, rfl, hk, hR2, (kp _).trans (k2.more fun t ht => by simp [Code.writes, ht]), (goes_put _ _).trans g2⟩
      | false =>
        simp only [cond_false] at h
        refine wp_cond_false hv (wp_mono (ihy w0 _ K r μ a w (rb _ rfl) h) ?_)
        rintro e a2 w2 ⟨ex, st2, μ2, rfl, hk, hR2, k2, g2⟩
        exact ⟨ex, st2, μ2, rfl, hk, hR2, (kp _).trans (k2.more fun t ht => by simp [Code.writes, ht]), (goes_put _ _).trans g2⟩
    | const v => unfold evCode at h; cases h
    | global g => unfold evCode at h; cases h
    | func f => unfold evCode at h; cases h
  | block id x ih =>
    intro w0 st K r μ a w hR h
    unfold evCode at h
    refine wp_block (wp_mono (ih w0 st _ r μ a w hR h) ?_)
    rintro e a1 w1 ⟨ex, st1, μ1, rfl, hk, hR1, k1, g1⟩
    cases ex with
    | normal => exact ⟨.normal, st1, μ1, rfl, hk, hR1, k1, g1⟩
    | ret => exact ⟨.ret, st1, μ1, rfl, hk, hR1, k1, g1⟩
    | exit i =>
      simp only [exOf, Exit.inBlock]
      by_cases hi : i = id
      · subst hi
        simp only [beq_self_eq_true, cond_true] at hk
        rw [if_pos rfl]
        exact ⟨.normal, st1, μ1, rfl, hk, hR1, k1, g1⟩
      · have : (i == id) = false := by simpa using hi
        simp only [this, cond_false] at hk
        rw [if_neg hi]
        exact ⟨.exit i, st1, μ1, rfl, hk, hR1, k1, g1⟩
  | loop x ih =>
    intro w0 st K r μ a w hR h
    unfold evCode at h
    exact evLoop_sound ih _ _ w0 st K r μ a w hR h
  | exit id =>
    intro w0 st K r μ a w hR h
    exact wp_exit ⟨.exit id, st, μ, rfl, h, hR, Keeps.refl _ _ _, Goes.refl _ _ _⟩
  | ret =>
    intro w0 st K r μ a w hR h
    exact wp_ret ⟨.ret, st, μ, rfl, h, hR, Keeps.refl _ _ _, Goes.refl _ _ _⟩
  | rangeFunc f ps x y _ _ => intro w0 st K r μ a w hR h; unfold evCode at h; cases h
  | scope x _ => intro w0 st K r μ a w hR h; unfold evCode at h; cases h
  | label l => intro w0 st K r μ a w hR h; unfold evCode at h; cases h
  | goto l => intro w0 st K r μ a w hR h; unfold evCode at h; cases h
  | refuse => intro w0 st K r μ a w hR h; unfold evCode at h; cases h
end
end Go.Proofs.YtcaknaddeblecaaGreatDoor.Ev

/- A state that is put back into the shape of a loop's head still fits. -/
import Derived.Test.YtcaknaddeblecaaGreatDoorEvS
namespace Go.Proofs.YtcaknaddeblecaaGreatDoor.Ev
open Go Go.RowKit
set_option linter.unusedVariables false
set_option linter.unusedSimpArgs false
variable {ρ : Type}

section
variable {P : Program} {cx : Cx} {E : Env} {w0 w : World} {μ : Lie} {st : St} {a : Act}

theorem All2.comp {α β γ : Type} {R : α → β → Prop} {S : α → γ → Prop} {T : γ → β → Prop} (h : ∀ x y z, S x z → R x y → T z y) : ∀ {as : List α} {bs : List β} {cs : List γ}, All2 S as cs → All2 R as bs → All2 T cs bs
  | [], [], [], _, _ => trivial
  | _ :: _, _ :: _, _ :: _, hs, hr => ⟨h _ _ _ hs.1 hr.1, All2.comp h hs.2 hr.2⟩
  | [], _ :: _, _, _, hr => hr.elim
  | _ :: _, [], _, _, hr => hr.elim
  | [], [], _ :: _, hs, _ => hs.elim
  | _ :: _, _ :: _, [], hs, _ => hs.elim

theorem All2.both {α β γ : Type} {R : α → β → Prop} {S : α → γ → Prop} {T : α → β → Prop} (h : ∀ x y z, S x z → R x y → T x y) : ∀ {as : List α} {bs : List β} {cs : List γ}, All2 S as cs → All2 R as bs → All2 T as bs
  | [], [], [], _, _ => trivial
  | _ :: _, _ :: _, _ :: _, hs, hr => ⟨h _ _ _ hs.1 hr.1, All2.both h hs.2 hr.2⟩
  | [], _ :: _, _, _, hr => hr.elim
  | _ :: _, [], _, _, hr => hr.elim
  | [], [], _ :: _, hs, _ => hs.elim
  | _ :: _, _ :: _, [], hs, _ => hs.elim

/-- how the blocks at the head come out of those that are there -/
def Made (bl bl' mb : List Blk) (gen : Nat → Nat) : Prop := ∀ (b : Nat) (b2 : Blk), mb[b]? = some b2 →
  (bl[b]? = some b2 ∧ bl'[b]? = some b2) ∨
  (∃ (cs0 c1 c2 : List A), bl[b]? = some (.var cs0) ∧ bl'[b]? = some (.var c1) ∧ b2 = .var c2 ∧ All2 (FitA bl' gen bl.length) c1 c2) ∨
  (∃ (g0 : Nat) (own0 nf0 : Bool) (t : Ty) (l0 : List t.den) (g1 : Nat) (own1 nf1 : Bool) (l : List t.den) (g : Nat) (own nf : Bool), bl[b]? = some (.arr g0 own0 nf0 t l0) ∧ bl'[b]? = some (.arr g1 own1 nf1 t l) ∧ b2 = .arr g own nf t l ∧ (own = true → own1 = true) ∧ (nf = true → nf1 = true) ∧ (g = g0 + 1 ∨ (g = g0 ∧ g1 = g0)))

section
variable {w' : World} {μ' : Lie} {bl bl' mb : List Blk} {gen : Nat → Nat}

theorem Made.mine (hM : Made bl bl' mb gen) {b : Nat} (h : mine mb b) : mine bl' b := by
  unfold Ev.mine at h
  split at h
  · next cs hb =>
    rcases hM b _ hb with ⟨_, q⟩ | ⟨cs0, c1, c2, _, q, e, _⟩ | ⟨_, _, _, _, _, _, _, _, _, _, _, _, _, q, e, _⟩
    · unfold Ev.mine; rw [q]; trivial
    · unfold Ev.mine; rw [q]; trivial
    · cases e
  · next g own nf t l hb =>
    rcases hM b _ hb with ⟨_, q⟩ | ⟨cs0, c1, c2, _, q, e, _⟩ | ⟨_, _, _, _, _, _, _, _, _, _, _, _, _, q, e, ho, _⟩
    · unfold Ev.mine; rw [q]; exact h
    · cases e
    · cases e; unfold Ev.mine; rw [q]; exact ho h
  · exact h.elim

theorem Made.alive (hM : Made bl bl' mb gen) {b : Nat} (h : alive mb b) : alive bl' b := by
  unfold Ev.alive at h
  split at h
  · next cs hb =>
    rcases hM b _ hb with ⟨_, q⟩ | ⟨cs0, c1, c2, _, q, e, _⟩ | ⟨_, _, _, _, _, _, _, _, _, _, _, _, _, q, e, _⟩
    · unfold Ev.alive; rw [q]; trivial
    · unfold Ev.alive; rw [q]; trivial
    · cases e
  · next g own nf t l hb =>
    rcases hM b _ hb with ⟨_, q⟩ | ⟨cs0, c1, c2, _, q, e, _⟩ | ⟨_, _, _, _, _, _, _, _, _, _, _, _, _, q, e, ho, _⟩
    · unfold Ev.alive; rw [q]; trivial
    · cases e
    · unfold Ev.alive; rw [q]; trivial
  · exact h.elim

theorem Made.own (hM : Made bl bl' mb gen) {k : Nat} (h : Own μ' mb k) : Own μ' bl' k := let ⟨b, c, h1, h2⟩ := h; ⟨b, c, h1, hM.mine h2⟩
theorem Made.D (hM : Made bl bl' mb gen) {fr : Bool} {k : Nat} (h : E.D μ' bl' fr k) : E.D μ' mb fr k := ⟨h.1, fun ho => h.2 (hM.own ho)⟩

theorem Made.varOf (hM : Made bl bl' mb gen) {b : Nat} {cs : List A} (h : mb[b]? = some (.var cs)) : ∃ cs', bl'[b]? = some (.var cs') := by
  rcases hM b _ h with ⟨_, q⟩ | ⟨cs0, c1, c2, _, q, e, _⟩ | ⟨_, _, _, _, _, _, _, _, _, _, _, _, _, q, e, _⟩
  · exact ⟨_, q⟩
  · exact ⟨_, q⟩
  · cases e

theorem Made.evo (hM : Made bl bl' mb gen) (hl : mb.length = bl.length) (hE : Evo w μ bl w' μ' bl') : Evo w μ bl w' μ' mb := by
  refine ⟨Nat.le_of_eq hl.symm, hE.size, fun b cs hlt hb => ?_, fun b g own nf t l hlt hb => ?_, hE.heap, fun k hk hlt => hE.own k (hM.own hk) hlt⟩
  · obtain ⟨cs', q'⟩ := hM.varOf hb
    obtain ⟨_, e⟩ := hE.var b cs' hlt q'
    refine ⟨?_, e⟩
    rcases hM b _ hb with ⟨q, _⟩ | ⟨cs0, c1, c2, q, _⟩ | ⟨_, _, _, _, _, _, _, _, _, _, _, _, _, _, e, _⟩
    · exact ⟨_, q⟩
    · exact ⟨_, q⟩
    · cases e
  · rcases hM b _ hb with ⟨q0, q⟩ | ⟨cs0, c1, c2, _, q, e, _⟩ | ⟨g0, own0, nf0, t0, l0, g1, own1, nf1, l1, g2, own2, nf2, q0, q1, e, ho, hn, hg⟩
    · obtain ⟨g', own', nf', l', h1, h2, h3⟩ := hE.arr b _ _ _ _ _ hlt q
      exact ⟨g', own', nf', l', h1, h2, h3⟩
    · cases e
    · cases e
      refine ⟨g0, own0, nf0, l0, q0, by omega, fun e => ?_⟩
      have hg1 : g1 = g0 := by omega
      obtain ⟨g', own', nf', l', h1, h2, h3⟩ := hE.arr b _ _ _ _ _ hlt q1
      rw [q0] at h1
      cases h1
      exact h3 hg1.symm

theorem Made.isPtr (hM : Made bl bl' mb gen) (hl : mb.length = bl.length) {b off : Nat} {v : Value} (hb : b < bl.length) (h : isPtr μ' bl' b off v) : isPtr μ' mb b off v := by
  refine ⟨⟨h.1.1, by omega⟩, fun cs hcs => ?_⟩
  obtain ⟨cs', q⟩ := hM.varOf hcs
  exact h.2 cs' q

/-- a cell that is as it was when the loop began -/
theorem Made.rep (hM : Made bl bl' mb gen) (hl : mb.length = bl.length) {x : A} {v0 v : Value} (h0 : RepA E w μ bl x v0) (h : RepA E w' μ' bl' x v) : RepA E w' μ' mb x v := by
  have rowOk : ∀ {b g : Nat} {α : (t : Ty) → List t.den → Prop}, (∀ (g' : Nat) (own nf : Bool) (t : Ty) (l : List t.den), bl[b]? = some (.arr g' own nf t l) → g ≤ g') → (∀ (g' : Nat) (own nf : Bool) (t : Ty) (l : List t.den), bl'[b]? = some (.arr g' own nf t l) → g ≤ g' ∧ (g = g' → α t l)) →
      ∀ (g' : Nat) (own nf : Bool) (t : Ty) (l : List t.den), mb[b]? = some (.arr g' own nf t l) → g ≤ g' ∧ (g = g' → α t l) := by
    intro b g α hb0 hb1 g' own nf t l hb
    rcases hM b _ hb with ⟨q0, q⟩ | ⟨cs0, c1, c2, _, q, e, _⟩ | ⟨g0, own0, nf0, t0, l0, g1, own1, nf1, l1, g2, own2, nf2, q0, q1, e, ho, hn, hg⟩
    · exact hb1 _ _ _ _ _ q
    · cases e
    · cases e
      have := hb0 _ _ _ _ _ q0
      refine ⟨by omega, fun e => ?_⟩
      exact (hb1 _ _ _ _ _ q1).2 (by omega)
  cases x with
  | os b g => exact ⟨⟨h.1.1, by have := h0.1.2; omega⟩, rowOk (α := fun t l => RowVal (μ' b) l.length v) (fun g' own nf t l hb => (h0.2 _ _ _ _ _ hb).1) h.2⟩
  | ep b g i off => exact ⟨⟨h.1.1, by have := h0.1.2; omega⟩, rowOk (α := fun t l => i < l.length ∧ ∃ k c, μ' b = some (k, c) ∧ v = .pointer (some ⟨k, i * t.size + off, none⟩)) (fun g' own nf t l hb => (h0.2 _ _ _ _ _ hb).1) h.2⟩
  | ptr b off => exact hM.isPtr hl h0.1.2 h
  | fn f caps =>
    obtain ⟨vs0, _, h0⟩ := h0
    obtain ⟨vs, e, h⟩ := h
    exact ⟨vs, e, All2.both (fun p u u0 q0 q => hM.isPtr hl q0.1.2 q) h0 h⟩
  | sl fr t l => exact Holds.weaken (fun k hk _ => hM.D hk) (t := .slice t) h
  | pp fr t y off =>
    obtain ⟨blk, base, cs, e, hd, hh, hc⟩ := h
    exact ⟨blk, base, cs, e, hM.D hd, hh.weaken fun k hk _ => hM.D hk, hc⟩
  | undef => exact h
  | int k n => exact h
  | bool b => exact h
  | str s => exact h
  | err b => exact h

/-- a cell that the shape keeps -/
theorem Made.fit (hM : Made bl bl' mb gen) (hl : mb.length = bl.length) (hgen : ∀ (b g : Nat) (own nf : Bool) (t : Ty) (l : List t.den), mb[b]? = some (.arr g own nf t l) → gen b = g) {x y : A} {v : Value} (hf : FitA bl' gen bl.length x y) (h : RepA E w' μ' bl' x v) : RepA E w' μ' mb y v := by
  rcases hf with rfl | ⟨rfl, hk⟩ | ⟨fr, fr', t, l, rfl, rfl, hfr⟩ | ⟨b, g, own, nf, t, l, rfl, rfl, hb, hbl⟩
  · exact h.one
  · cases y with
    | ptr b off => exact hM.isPtr hl hk h
    | fn f caps =>
      obtain ⟨vs, e, h⟩ := h
      refine ⟨vs, e, ?_⟩
      have : ∀ (ps : List (Nat × Nat)) (us : List Value), (∀ p ∈ ps, p.1 < bl.length) → All2 (fun (p : Nat × Nat) u => Ev.isPtr μ' bl' p.1 p.2 u) ps us → All2 (fun (p : Nat × Nat) u => Ev.isPtr μ' mb p.1 p.2 u) ps us := by
        intro ps
        induction ps with
        | nil => intro us _ h; cases us with | nil => trivial | cons _ _ => exact h.elim
        | cons p ps ih => intro us hp h; cases us with
          | nil => exact h.elim
          | cons u us => exact ⟨hM.isPtr hl (hp p (List.mem_cons_self ..)) h.1, ih us (fun q hq => hp q (List.mem_cons_of_mem _ hq)) h.2⟩
      exact this caps vs hk h
    | int k n => exact h
    | bool b => exact h
    | str s => exact h
    | err b => exact h
    | undef => exact hk.elim
    | sl _ _ _ => exact hk.elim
    | os _ _ => exact hk.elim
    | ep _ _ _ _ => exact hk.elim
    | pp _ _ _ _ => exact hk.elim
  · exact Holds.weaken (fun k hk _ => Env.D_less hfr (hM.D hk)) (t := .slice t) h
  · refine ⟨⟨h.1.1, by omega⟩, fun g' own' nf' t' l' hb' => ?_⟩
    have hg := hgen _ _ _ _ _ _ hb'
    refine ⟨Nat.le_of_eq hg, fun _ => ?_⟩
    have hrow := (h.2 _ _ _ _ _ hbl).2 rfl
    rcases hM b _ hb' with ⟨q0, q⟩ | ⟨cs0, c1, c2, _, q, e, _⟩ | ⟨g0, own0, nf0, t0, l0, g1, own1, nf1, l1, g2, own2, nf2, q0, q1, e, ho, hn, hg⟩
    · rw [hbl] at q; cases q; exact hrow
    · cases e
    · cases e; rw [hbl] at q1; cases q1; exact hrow

theorem Made.mem (hM : Made bl bl' mb gen) (hl : mb.length = bl.length) (hgen : ∀ (b g : Nat) (own nf : Bool) (t : Ty) (l : List t.den), mb[b]? = some (.arr g own nf t l) → gen b = g) (hm0 : Mem E w0 w μ bl) (hm : Mem E w0 w' μ' bl') : Mem E w0 w' μ' mb := by
  refine ⟨hm.start, hm.below, hm.big, fun b blk hb => ?_, fun b b' k c c' h1 h2 a1 a2 => hm.apart b b' k c c' h1 h2 (hM.alive a1) (hM.alive a2)⟩
  rcases hM b _ hb with ⟨q0, q⟩ | ⟨cs0, c1, c2, _, q, rfl, hf⟩ | ⟨g0, own0, nf0, t0, l0, g1, own1, nf1, l1, g2, own2, nf2, q0, q1, rfl, ho, hn, hg⟩
  · have r0 := hm0.blocks b _ q0
    have r1 := hm.blocks b _ q
    cases blk with
    | dead => trivial
    | var cs =>
      obtain ⟨_, _, vals0, _, _, _, _, _, _, p0⟩ := r0
      obtain ⟨k, c, vals, ty, fz, h1, h2, h3, h4, h5⟩ := r1
      exact ⟨k, c, vals, ty, fz, h1, h2, h3, h4, All2.both (R := RepA E w' μ' bl') (S := RepA E w μ bl) (T := RepA E w' μ' mb) (fun x v v0 q0 q => hM.rep hl q0 q) p0 h5⟩
    | arr g own nf t l =>
      rcases r1 with ⟨h1, h2⟩ | ⟨k, cap, vals, ty, fz, h1, h2, h3, h4, h5, h6, h7⟩
      · exact Or.inl ⟨h1, h2⟩
      · exact Or.inr ⟨k, cap, vals, ty, fz, h1, h2, h3, h4, h5, h6, fun i hi => (h7 i hi).weaken fun k hk _ => hM.D hk⟩
  · obtain ⟨k, c, vals, ty, fz, h1, h2, h3, h4, h5⟩ := hm.blocks b _ q
    exact ⟨k, c, vals, ty, fz, h1, h2, h3, h4, All2.comp (R := RepA E w' μ' bl') (T := RepA E w' μ' mb) (fun x v y hf hr => hM.fit hl hgen hf hr) hf h5⟩
  · rcases hm.blocks b _ q1 with ⟨h1, h2⟩ | ⟨k, cap, vals, ty, fz, h1, h2, h3, h4, h5, h6, h7⟩
    · exact Or.inl ⟨h1, h2⟩
    · exact Or.inr ⟨k, cap, vals, ty, fz, h1, h2, h3, h4, h5, h6, fun i hi => (h7 i hi).weaken fun k hk _ => Env.D_less hn (hM.D hk)⟩
end

theorem shape_sound {kp : Keep} {ws : List Nat} {st' : St} {μ' : Lie} {a' : Act} {w' : World} (hR : Rel E w0 μ st a w) (hR' : Rel E w0 μ' st' a' w') (hE : Evo w μ st.bl w' μ' st'.bl)
    (hfr : ∀ t, t ∉ ws → a'.tmps[t]? = a.tmps[t]?) (hsame : ∀ b : Nat, (shapeOf kp ws st).blks[b]? = some BlkK.same → st'.bl[b]? = st.bl[b]?) {z : (shapeOf kp ws st).den} (hun : (shapeOf kp ws st).un st' = some z) :
    Rel E w0 μ' ((shapeOf kp ws st).mk' st z) a' w' ∧ Evo w μ st.bl w' μ' ((shapeOf kp ws st).mk' st z).bl ∧ ((shapeOf kp ws st).mk' st z).tmps.length = st.tmps.length ∧
      (∀ t, t ∉ ws → ((shapeOf kp ws st).mk' st z).tmps[t]? = st.tmps[t]?) ∧ (∀ b : Nat, (shapeOf kp ws st).blks[b]? = some BlkK.same → ((shapeOf kp ws st).mk' st z).bl[b]? = st.bl[b]?) := by
  have hs : ∀ k ∈ (shapeOf kp ws st).slots, SOk st.bl.length k := by
    intro k hk
    obtain ⟨i, hi⟩ := List.getElem?_of_mem hk
    exact (slotKinds_get kp ws st.bl st.tmps 0 i k hi).1
  have hb : ∀ k ∈ (shapeOf kp ws st).blks, BOk st.bl.length k := by
    intro k hk
    obtain ⟨i, hi⟩ := List.getElem?_of_mem hk
    obtain ⟨b, _, h2⟩ := blkKinds_get kp st.lock st.bl st.bl 0 i k hi
    cases k with
    | same => trivial
    | var cs => exact h2.2.2
    | arr grow g own nf t => trivial
  have hsl : (shapeOf kp ws st).slots.length = st.tmps.length := slotKinds_length kp ws st.bl st.tmps 0
  have hbl : (shapeOf kp ws st).blks.length = st.bl.length := blkKinds_length kp st.lock st.bl st.bl 0
  obtain ⟨u1, u2, u3, u4⟩ := unmk_slots (n := st.bl.length) (genAt (shapeOf kp ws st).blks st.bl) (shapeOf kp ws st).slots st.tmps st'.tmps _ z hun hs
  obtain ⟨v1, v2, v3⟩ := unmk_blks (n := st.bl.length) (genAt (shapeOf kp ws st).blks st.bl) (shapeOf kp ws st).blks st.bl st'.bl _ u1 hb
  have hmb : ((shapeOf kp ws st).mk' st z).bl = mkBlks (genAt (shapeOf kp ws st).blks st.bl) (shapeOf kp ws st).blks st.bl (mkSlots (genAt (shapeOf kp ws st).blks st.bl) (shapeOf kp ws st).slots st.tmps z).2 := rfl
  have hmt : ((shapeOf kp ws st).mk' st z).tmps = (mkSlots (genAt (shapeOf kp ws st).blks st.bl) (shapeOf kp ws st).slots st.tmps z).1 := rfl
  rw [← hmb] at v1 v3
  rw [← hmt] at u2 u4
  obtain ⟨mb, hmbe⟩ : ∃ mb, mb = ((shapeOf kp ws st).mk' st z).bl := ⟨_, rfl⟩
  rw [← hmbe] at v1 v3
  have hl : mb.length = st.bl.length := v1.trans hbl
  have kindAt : ∀ (b : Nat) (b2 : Blk), mb[b]? = some b2 → ∃ k b0, (shapeOf kp ws st).blks[b]? = some k ∧ st.bl[b]? = some b0 ∧ FromB st.bl.length (st.lock.contains b) k b0 ∧ FitB st'.bl (genAt (shapeOf kp ws st).blks st.bl) st.bl.length k st.bl[b]? st'.bl[b]? b2 := by
    intro b b2 hb2
    have hlt : b < (shapeOf kp ws st).blks.length := by rw [← v1]; exact lt_of_get hb2
    obtain ⟨b2', q1, q2⟩ := v3 b _ (List.getElem?_eq_getElem hlt)
    rw [hb2] at q1
    cases q1
    obtain ⟨b0, p1, p2⟩ := blkKinds_get kp st.lock st.bl st.bl 0 b _ (List.getElem?_eq_getElem hlt)
    rw [Nat.zero_add] at p2
    exact ⟨_, b0, List.getElem?_eq_getElem hlt, p1, p2, q2⟩
  have hM : Made st.bl st'.bl mb (genAt (shapeOf kp ws st).blks st.bl) := by
    intro b b2 hb2
    obtain ⟨k, b0, hk, h0, hfrom, hfit⟩ := kindAt b b2 hb2
    cases k with
    | same =>
      have e := hfit b0 h0
      have := hsame b hk
      exact Or.inl ⟨by rw [h0, e], by rw [this, h0, e]⟩
    | var cs =>
      obtain ⟨_, ⟨cs0, rfl⟩, _⟩ := hfrom
      obtain ⟨c1, c2, q1, q2, q3⟩ := hfit
      exact Or.inr (Or.inl ⟨cs0, c1, c2, h0, q1, q2, q3⟩)
    | arr grow g own nf t =>
      obtain ⟨_, g0, own0, nf0, l0, rfl, hg⟩ := hfrom
      obtain ⟨g1, own1, nf1, l, q1, q2, q3, q4, q5⟩ := hfit
      refine Or.inr (Or.inr ⟨g0, own0, nf0, t, l0, g1, own1, nf1, l, g, own, nf, h0, q1, q2, q3, q4, ?_⟩)
      rcases hg with ⟨rfl, rfl⟩ | ⟨rfl, rfl⟩
      · exact Or.inl rfl
      · exact Or.inr ⟨rfl, (q5 rfl).symm⟩
  have hgen : ∀ (b g : Nat) (own nf : Bool) (t : Ty) (l : List t.den), mb[b]? = some (.arr g own nf t l) → genAt (shapeOf kp ws st).blks st.bl b = g := by
    intro b g own nf t l hb2
    obtain ⟨k, b0, hk, h0, hfrom, hfit⟩ := kindAt b _ hb2
    unfold genAt
    rw [hk]
    cases k with
    | same =>
      have e := hfit b0 h0
      subst e
      simp only [h0]
    | var cs =>
      obtain ⟨c1, c2, q1, q2, q3⟩ := hfit
      cases q2
    | arr grow g' own' nf' t' =>
      obtain ⟨g1, own1, nf1, l', q1, q2, q3, q4, q5⟩ := hfit
      cases q2
      rfl
  have ev := hM.evo hl hE
  have hmem := hM.mem hl hgen hR.mem hR'.mem
  have hlt : ((shapeOf kp ws st).mk' st z).tmps.length = st.tmps.length := u2.trans hsl
  have hslot : ∀ t, t ∉ ws → ((shapeOf kp ws st).mk' st z).tmps[t]? = st.tmps[t]? := by
    intro t ht
    rcases Nat.lt_or_ge t st.tmps.length with q | q
    · have hk : t < (shapeOf kp ws st).slots.length := by omega
      obtain ⟨p1, p2, p3⟩ := slotKinds_get kp ws st.bl st.tmps 0 t _ (List.getElem?_eq_getElem hk)
      rw [Nat.zero_add] at p3
      obtain ⟨x2, q1, q2⟩ := u4 t _ (List.getElem?_eq_getElem hk)
      have hsm := p3.mpr ht
      rw [q1]
      rcases q2 with ⟨_, q2⟩ | ⟨q2, _⟩
      · rw [q2 _ (List.getElem?_eq_getElem q), List.getElem?_eq_getElem q]
      · exact absurd hsm q2
    · rw [List.getElem?_eq_none (by omega), List.getElem?_eq_none q]
  rw [← hmbe]
  refine ⟨⟨hmbe ▸ hmem, ?_, hR'.defers⟩, ev, hlt, hslot, ?_⟩
  · rw [← hmbe]
    have hal : a'.tmps.toList.length = st.tmps.length := by rw [← hR'.slots.length, u3, hsl]
    refine All2.of_get (by rw [hlt, hal]) fun i x v hx hv => ?_
    have hi : i < (shapeOf kp ws st).slots.length := by rw [← u2]; exact lt_of_get hx
    obtain ⟨p1, p2, p3⟩ := slotKinds_get kp ws st.bl st.tmps 0 i _ (List.getElem?_eq_getElem hi)
    rw [Nat.zero_add] at p3
    obtain ⟨x2, q1, q2⟩ := u4 i _ (List.getElem?_eq_getElem hi)
    rw [hx] at q1
    cases q1
    rcases q2 with ⟨hsm, q2⟩ | ⟨_, rfl | ⟨c1, c2, q2, rfl, q3⟩ | ⟨c1, c2, q2, rfl, q3⟩⟩
    · have ht := p3.mp hsm
      have e := q2 _ (List.getElem?_eq_getElem p2)
      obtain ⟨u, hu, hr⟩ := hR.slots.get (List.getElem?_eq_getElem p2)
      rw [Array.getElem?_toList] at hu hv
      rw [hfr i ht, hu] at hv
      cases hv
      rw [e]
      exact ev.repV hr
    · exact trivial
    · obtain ⟨u, hu, hr⟩ := hR'.slots.get q2
      rw [hv] at hu
      cases hu
      by_cases hc : c1 = .undef
      · subst hc
        rcases q3 with rfl | ⟨_, q⟩ | ⟨_, _, _, _, q, _⟩ | ⟨_, _, _, _, _, _, q, _⟩
        · exact trivial
        · exact q.elim
        · cases q
        · cases q
      · have hr : RepA E w' μ' st'.bl c1 v := by
          cases c1 <;> first | exact absurd rfl hc | exact hr
        exact RepV.at (hM.fit hl hgen q3 hr)
    · obtain ⟨u, hu, hr⟩ := hR'.slots.get q2
      rw [hv] at hu
      cases hu
      obtain ⟨vs, e, hr⟩ := hr
      exact ⟨vs, e, All2.comp (R := RepA E w' μ' st'.bl) (T := RepA E w' μ' mb) (fun x v y hf hr => hM.fit hl hgen hf hr) q3 hr⟩
  · intro b hk
    have hb2 : b < (shapeOf kp ws st).blks.length := lt_of_get hk
    obtain ⟨b2, q1, q2⟩ := v3 b _ hk
    rw [q1]
    have : b < st.bl.length := by omega
    rw [List.getElem?_eq_getElem this]
    rw [q2 _ (List.getElem?_eq_getElem this)]
end
end Go.Proofs.YtcaknaddeblecaaGreatDoor.Ev

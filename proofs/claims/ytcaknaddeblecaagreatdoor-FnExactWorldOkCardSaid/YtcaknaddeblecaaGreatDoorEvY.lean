/- Every order does what the order of the text does. -/
import Derived.Test.YtcaknaddeblecaaGreatDoorEvX
namespace Go.Proofs.YtcaknaddeblecaaGreatDoor.Ev
open Go Go.RowKit
set_option linter.unusedVariables false
set_option linter.unusedSimpArgs false
variable {ρ : Type}

section
variable {P : Program} {cx : Cx} {E : Env} {w0 w : World} {μ : Lie} {st : St} {a : Act}

/-- the state when the operations of L are done -/
structure Fit (all : List Oper) (st : St) (Xs : List V) (L : Nat → Bool) (s : St) : Prop where
  bl : s.bl = st.bl
  lock : s.lock = st.lock
  len : s.tmps.length = st.tmps.length
  get : ∀ t, t < st.tmps.length → s.tmps[t]? = (match writer all t with
    | some j => if L j = true then Xs[j]? else st.tmps[t]?
    | none => st.tmps[t]?)

theorem Fit.same {all : List Oper} {Xs : List V} {L : Nat → Bool} {s s' : St} (h : Fit all st Xs L s) (h' : Fit all st Xs L s') : s = s' := by
  have : s.tmps = s'.tmps := by
    apply List.ext_getElem?
    intro t
    rcases Nat.lt_or_ge t st.tmps.length with q | q
    · rw [h.get t q, h'.get t q]
    · rw [List.getElem?_eq_none (by rw [h.len]; exact q), List.getElem?_eq_none (by rw [h'.len]; exact q)]
  cases s; cases s'
  have h1 := h.bl; have h2 := h'.bl; have h3 := h.lock; have h4 := h'.lock
  simp only at this h1 h2 h3 h4
  subst this h1 h3
  rw [h2, h4]

theorem writer_some {all : List Oper} {t j : Nat} (h : writer all t = some j) : ∃ o, all[j]? = some o ∧ o.dst = some t := by
  unfold writer at h
  rw [List.findIdx?_eq_some_iff_getElem] at h
  obtain ⟨hj, h1, _⟩ := h
  exact ⟨all[j], List.getElem?_eq_getElem hj, by simpa using h1⟩

theorem Fit.congr {all : List Oper} {Xs : List V} {L L' : Nat → Bool} {s : St} (h : Fit all st Xs L s) (hL : ∀ j, j < all.length → L j = L' j) : Fit all st Xs L' s := by
  refine ⟨h.bl, h.lock, h.len, fun t ht => ?_⟩
  rw [h.get t ht]
  split
  · next j hj =>
    obtain ⟨o, ho, _⟩ := writer_some hj
    rw [hL j (lt_of_get' ho)]
  · rfl
where
  lt_of_get' {α : Type} {l : List α} {i : Nat} {x : α} (h : l[i]? = some x) : i < l.length := by
    rcases Nat.lt_or_ge i l.length with q | q
    · exact q
    · rw [List.getElem?_eq_none q] at h; cases h

theorem Fit.put {all : List Oper} {Xs : List V} {L : Nat → Bool} {s : St} (h : Fit all st Xs L s) {i : Nat} {o : Oper} {X : V} (ho : all[i]? = some o) (hX : Xs[i]? = some X) (hw : ∀ d, o.dst = some d → writer all d = some i) :
    Fit all st Xs (fun j => L j || j == i) (s.put o.dst X) := by
  cases hd : o.dst with
  | none =>
    refine ⟨h.bl, h.lock, h.len, fun t ht => ?_⟩
    show s.tmps[t]? = _
    rw [h.get t ht]
    split
    · next j hj =>
      obtain ⟨o', ho', hd'⟩ := writer_some hj
      have : j ≠ i := by rintro rfl; rw [ho] at ho'; cases ho'; rw [hd] at hd'; cases hd'
      have e : (j == i) = false := by simpa using this
      simp only [e, Bool.or_false]
    · rfl
  | some d =>
    have hwd := hw d hd
    refine ⟨h.bl, h.lock, by simpa [St.put] using h.len, fun t ht => ?_⟩
    show (s.tmps.set d X)[t]? = _
    by_cases e : t = d
    · subst e
      rw [hwd]
      simp only [beq_self_eq_true, Bool.or_true, if_true]
      rw [List.getElem?_set_self (by rw [h.len]; exact ht), hX]
    · rw [List.getElem?_set_ne (by omega), h.get t ht]
      split
      · next j hj =>
        obtain ⟨o', ho', hd'⟩ := writer_some hj
        have : j ≠ i := by rintro rfl; rw [ho] at ho'; cases ho'; rw [hd] at hd'; cases hd'; exact e rfl
        have e : (j == i) = false := by simpa using this
        simp only [e, Bool.or_false]
      · rfl

structure DrawOk (all : List Oper) : Prop where
  dst : ∀ (i : Nat) (o : Oper), all[i]? = some o → ∀ d, o.dst = some d → writer all d = some i
  back : ∀ (i : Nat) (o : Oper), all[i]? = some o → ∀ e ∈ o.after.toList, e.on < i
  reads : ∀ (i : Nat) (o : Oper), all[i]? = some o → ∀ t ∈ looked o, ∀ j, writer all t = some j → j ∈ edges o ∨ ∃ oj, all[j]? = some oj ∧ i ∈ edges oj
  guard : ∀ (i : Nat) (o : Oper), all[i]? = some o → ∀ j want, o.guard = some (j, want) → j ∈ edges o

theorem allFrom_get {α : Type} {p : Nat → α → Bool} : ∀ (l : List α) (n : Nat), allFrom p l n = true → ∀ (i : Nat) (x : α), l[i]? = some x → p (n + i) x = true
  | [], n, h, i, x, hx => by simp at hx
  | y :: l, n, h, i, x, hx => by
    simp only [allFrom, Bool.and_eq_true] at h
    cases i with
    | zero => simp only [List.getElem?_cons_zero, Option.some.injEq] at hx; subst hx; exact h.1
    | succ i =>
      have := allFrom_get l (n + 1) h.2 i x (by simpa using hx)
      rwa [show n + 1 + i = n + (i + 1) by omega] at this

theorem drawOk_sound {all : List Oper} (h : drawOk all = true) : DrawOk all := by
  have key : ∀ (i : Nat) (o : Oper), all[i]? = some o → ((match o.dst with | some d => writer all d == some i | none => true) = true ∧ (o.after.toList.all fun e => Nat.blt e.on i) = true ∧
      ((looked o).all fun t => match writer all t with | some j => (edges o).contains j || (match all[j]? with | some oj => (edges oj).contains i | none => false) | none => true) = true) ∧ (match o.guard with | some (j, _) => (edges o).contains j | none => true) = true := by
    intro i o ho
    have := allFrom_get all 0 h i o ho
    rw [Nat.zero_add] at this
    simp only [Bool.and_eq_true] at this
    exact ⟨⟨this.1.1.1, this.1.1.2, this.1.2⟩, this.2⟩
  refine ⟨fun i o ho d hd => ?_, fun i o ho e he => ?_, fun i o ho t ht j hj => ?_, fun i o ho j want hg => ?_⟩
  · have := (key i o ho).1.1
    rw [hd] at this
    simpa using this
  · have := List.all_eq_true.mp (key i o ho).1.2.1 e he
    exact Nat.le_of_ble_eq_true this
  · have := List.all_eq_true.mp (key i o ho).1.2.2 t ht
    rw [hj] at this
    simp only [Bool.or_eq_true] at this
    rcases this with h | h
    · exact Or.inl (by simpa using h)
    · split at h
      · next oj ho' => exact Or.inr ⟨oj, ho', by simpa using h⟩
      · cases h
  · have := (key i o ho).2
    rw [hg] at this
    simpa using this

theorem runs_steps {all : List Oper} (hd : DrawOk all) {Xs : List V} {st' : St} : ∀ (rest : List Oper) (i : Nat) (s : St) (Ys : List V), all.drop i = rest → Xs.drop i = Ys → Fit all st Xs (fun j => decide (j < i)) s → Runs cx all rest s Ys st' →
    (∀ (k : Nat) (o : Oper), i ≤ k → all[k]? = some o → ∃ s' X, Fit all st Xs (fun j => decide (j < k)) s' ∧ Xs[k]? = some X ∧ Step cx all o s' X) ∧ Fit all st Xs (fun j => decide (j < all.length)) st'
  | [], i, s, Ys, h1, h2, hf, hr => by
    obtain ⟨_, rfl⟩ := hr
    have hl : all.length ≤ i := by
      have := congrArg List.length h1
      simp at this; omega
    refine ⟨fun k o hk ho => ?_, hf.congr fun j hj => ?_⟩
    · rw [List.getElem?_eq_none (by omega)] at ho; cases ho
    · simp only [hj, decide_true, decide_eq_true_eq]; omega
  | o :: rest, i, s, Ys, h1, h2, hf, hr => by
    obtain ⟨X, Zs, rfl, hs, hr⟩ := hr
    have ho : all[i]? = some o := by
      have := congrArg (fun l => l[0]?) h1
      simpa using this
    have hX : Xs[i]? = some X := by
      have := congrArg (fun l => l[0]?) h2
      simpa using this
    have hp := (hf.put ho hX (hd.dst i o ho)).congr (L' := fun j => decide (j < i + 1)) fun j _ => by
      rw [Bool.eq_iff_iff]
      simp only [Bool.or_eq_true, decide_eq_true_eq, beq_iff_eq]
      omega
    obtain ⟨p1, p2⟩ := runs_steps hd rest (i + 1) _ Zs (by have := congrArg List.tail h1; simpa using this) (by have := congrArg List.tail h2; simpa using this) hp hr
    refine ⟨fun k o' hk ho' => ?_, p2⟩
    rcases Nat.lt_or_ge i k with q | q
    · exact p1 k o' q ho'
    · have : k = i := by omega
      subst this
      rw [ho] at ho'
      cases ho'
      exact ⟨s, X, hf, hX, hs⟩

theorem looked_mem {o : Oper} {t : Nat} (h : Operand.tmp t ∈ o.op.operands) : t ∈ looked o := by
  unfold looked
  rw [List.mem_filterMap]
  exact ⟨.tmp t, by simpa using h, rfl⟩

theorem edges_mem {o : Oper} {j : Nat} (h : j ∈ edges o) : ∃ e ∈ o.after.toList, Region.binds .any e = true ∧ e.on = j := by
  unfold edges at h
  rw [List.mem_filterMap] at h
  obtain ⟨e, he, h⟩ := h
  cases hb : Region.binds .any e with
  | true => rw [hb] at h; simp only [cond_true, Option.some.injEq] at h; exact ⟨e, he, hb, h⟩
  | false => rw [hb] at h; cases h

theorem opsDst_get : ∀ {os : List Oper} {i : Nat} {o : Oper} {d : Nat}, os[i]? = some o → o.dst = some d → d ∈ opsDst os
  | [], i, o, d, h, _ => by simp at h
  | x :: os, 0, o, d, h, hd => by
    simp only [List.getElem?_cons_zero, Option.some.injEq] at h
    subst h
    simp [opsDst, hd]
  | x :: os, i + 1, o, d, h, hd => by
    have := opsDst_get (os := os) (i := i) (by simpa using h) hd
    unfold opsDst
    split
    · exact List.mem_cons_of_mem _ this
    · exact this

/-- the unlisted -/
def unlisted (n : Nat) (listed : Array Bool) : List Nat := (List.range n).filter fun i => !listed.getD i true

theorem unlisted_less {n i : Nat} {listed : Array Bool} (hn : listed.size = n) (hi : i < n) (hu : listed.getD i true = false) : (unlisted n (listed.setIfInBounds i true)).length < (unlisted n listed).length := by
  have e : unlisted n (listed.setIfInBounds i true) = (unlisted n listed).filter fun j => j != i := by
    unfold unlisted
    rw [List.filter_filter]
    apply List.filter_congr
    intro j hj
    have hjn : j < n := by simpa using hj
    by_cases q : j = i
    · subst q
      simp [Array.getD_eq_getD_getElem?, Array.getElem?_setIfInBounds, hn, hi]
    · have : (j != i) = true := by simpa using q
      rw [this, Bool.true_and]
      simp [Array.getD_eq_getD_getElem?, Array.getElem?_setIfInBounds_ne (Ne.symm q)]
  rw [e, List.length_filter_lt_length_iff_exists]
  exact ⟨i, by unfold unlisted; rw [List.mem_filter]; exact ⟨by simpa using hi, by rw [hu]; rfl⟩, by simp⟩

theorem draw_sound (hcx : cx.good P E.G) {id : Nat} {ops : Array Oper} (hok : drawOk ops.toList = true) {Xs : List V} {st' : St} (hruns : Runs cx ops.toList ops.toList st Xs st') (hR : Rel E w0 μ st a w) {Q : Exit → Act → World → Prop}
    (hQ : ∀ μ' a' w', Rel E w0 μ' st' a' w' → (∀ t, t ∉ opsDst ops.toList → a'.tmps[t]? = a.tmps[t]?) → Goes w μ st w' μ' st' → Q .normal a' w') : (Code.region id ops true).wp P Q a w := by
  have hd := drawOk_sound hok
  obtain ⟨hsteps, hfin⟩ := runs_steps (cx := cx) hd ops.toList 0 st Xs rfl rfl ⟨rfl, rfl, rfl, fun t ht => by
    split
    · simp
    · rfl⟩ hruns
  have hsize : ops.toList.length = ops.size := by simp
  refine wp_region_any hcx.ok.mixed ?_
  have key : ∀ (fuel : Nat) (listed : Array Bool) (s : St) (μ1 : Lie) (a1 : Act) (w1 : World), listed.size = ops.size → (unlisted ops.size listed).length ≤ fuel → Fit ops.toList st Xs (fun j => listed.getD j false) s → Rel E w0 μ1 s a1 w1 →
      (∀ t, t ∉ opsDst ops.toList → a1.tmps[t]? = a.tmps[t]?) → Goes w μ st w1 μ1 s → (∀ (j : Nat) (oj : Oper), ops.toList[j]? = some oj → listed.getD j false = true → ∀ e ∈ edges oj, listed.getD e false = true) → wpAny P .any ops Q fuel listed a1 w1 := by
    intro fuel
    have atEnd : ∀ (listed : Array Bool) (s : St) (μ1 : Lie) (a1 : Act) (w1 : World), listed.size = ops.size → Region.ready .any ops listed = [] → Fit ops.toList st Xs (fun j => listed.getD j false) s → Rel E w0 μ1 s a1 w1 →
        (∀ t, t ∉ opsDst ops.toList → a1.tmps[t]? = a.tmps[t]?) → Goes w μ st w1 μ1 s → Q .normal a1 w1 := by
      intro listed s μ1 a1 w1 hn hready hf hR1 hk hg
      have all : ∀ (i : Nat), i < ops.size → listed.getD i false = true := by
        intro i
        induction i using Nat.strongRecOn with
        | _ i ih =>
          intro hi
          have hnot : i ∉ Region.ready .any ops listed := by rw [hready]; simp
          unfold Region.ready at hnot
          rw [List.mem_filter] at hnot
          have hil : i < listed.size := by omega
          cases hl : listed.getD i false with
          | true => rfl
          | false =>
            exfalso
            apply hnot
            refine ⟨by simpa using hi, ?_⟩
            have h1 : listed.getD i true = false := by
              rw [Array.getD_eq_getD_getElem?, Array.getElem?_eq_getElem hil] at hl ⊢; exact hl
            have hoi : ops[i]? = some ops[i] := Array.getElem?_eq_getElem hi
            rw [h1, hoi]
            simp only [Bool.not_false, Bool.true_and, Option.map_some, Option.getD_some]
            rw [Array.all_eq_true']
            intro e he
            have := hd.back i ops[i] (by rw [Array.getElem?_toList]; exact hoi) e (by simpa using he)
            rw [ih e.on this (by omega)]
            simp
      have : s = st' := (hf.congr (L' := fun j => decide (j < ops.toList.length)) fun j hj => by rw [all j (by omega)]; simp; omega).same hfin
      subst this
      exact hQ μ1 a1 w1 hR1 hk hg
    induction fuel with
    | zero =>
      intro listed s μ1 a1 w1 hn hc hf hR1 hk hg hcl
      have hready : Region.ready .any ops listed = [] := by
        unfold Region.ready
        rw [List.filter_eq_nil_iff]
        intro i hi
        have hnil : unlisted ops.size listed = [] := List.eq_nil_of_length_eq_zero (by omega)
        unfold unlisted at hnil
        rw [List.filter_eq_nil_iff] at hnil
        have := hnil i hi
        simp only [Bool.not_eq_true', Bool.not_eq_false] at this
        simp [this]
      exact ⟨hready, atEnd listed s μ1 a1 w1 hn hready hf hR1 hk hg⟩
    | succ fuel ih =>
      intro listed s μ1 a1 w1 hn hc hf hR1 hk hg hcl
      refine ⟨fun hready => atEnd listed s μ1 a1 w1 hn hready hf hR1 hk hg, fun i hi => ?_⟩
      unfold Region.ready at hi
      rw [List.mem_filter] at hi
      obtain ⟨hin, hi⟩ := hi
      have hin : i < ops.size := by simpa using hin
      have hoi : ops[i]? = some ops[i] := Array.getElem?_eq_getElem hin
      have hoi' : ops.toList[i]? = some ops[i] := by rw [Array.getElem?_toList]; exact hoi
      rw [hoi] at hi
      simp only [Option.map_some, Option.getD_some, Bool.and_eq_true, Bool.not_eq_true'] at hi
      obtain ⟨hul, hdeps⟩ := hi
      generalize ops[i] = o at hoi hoi' hdeps
      have hdep : ∀ j ∈ edges o, listed.getD j false = true ∧ j < i := by
        intro j hj
        obtain ⟨e, he, hb, rfl⟩ := edges_mem hj
        rw [Array.all_eq_true'] at hdeps
        have := hdeps e (by simpa using he)
        rw [hb] at this
        exact ⟨by simpa using this, hd.back i o hoi' e he⟩
      obtain ⟨si, X, hfi, hX, hstep⟩ := hsteps i o (Nat.zero_le _) hoi'
      -- what the operation reads is as in the order of the text
      have slot : ∀ t j, writer ops.toList t = some j → j ∈ edges o → s.tmps[t]? = si.tmps[t]? := by
        intro t j hw hj
        obtain ⟨h1, h2⟩ := hdep j hj
        rcases Nat.lt_or_ge t st.tmps.length with q | q
        · rw [hf.get t q, hfi.get t q, hw]
          simp [h1, h2]
        · rw [List.getElem?_eq_none (by rw [hf.len]; exact q), List.getElem?_eq_none (by rw [hfi.len]; exact q)]
      have slot' : ∀ t ∈ looked o, s.tmps[t]? = si.tmps[t]? := by
        intro t ht
        cases hw : writer ops.toList t with
        | some j =>
          rcases hd.reads i o hoi' t ht j hw with hr | ⟨oj, hoj, hie⟩
          · exact slot t j hw hr
          · have hij : i < j := by
              obtain ⟨e, he, _, rfl⟩ := edges_mem hie
              exact hd.back j oj hoj e he
            have hlj : listed.getD j false = false := by
              cases hl : listed.getD j false with
              | false => rfl
              | true =>
                have h1 := hcl j oj hoj hl i hie
                have hil : i < listed.size := by omega
                rw [Array.getD_eq_getD_getElem?, Array.getElem?_eq_getElem hil] at h1 hul
                simp only [Option.getD_some] at h1 hul
                rw [h1] at hul; cases hul
            rcases Nat.lt_or_ge t st.tmps.length with q | q
            · rw [hf.get t q, hfi.get t q, hw]
              have : ¬ j < i := by omega
              simp [hlj, this]
            · rw [List.getElem?_eq_none (by rw [hf.len]; exact q), List.getElem?_eq_none (by rw [hfi.len]; exact q)]
        | none =>
          rcases Nat.lt_or_ge t st.tmps.length with q | q
          · rw [hf.get t q, hfi.get t q, hw]
          · rw [List.getElem?_eq_none (by rw [hf.len]; exact q), List.getElem?_eq_none (by rw [hfi.len]; exact q)]
      have hget : ∀ x ∈ o.op.operands, s.get x = si.get x := by
        intro x hx
        cases x with
        | tmp t =>
          show s.tmps.getD t V.undef = si.tmps.getD t V.undef
          rw [List.getD_eq_getElem?_getD, List.getD_eq_getElem?_getD, slot' t (looked_mem hx)]
        | const v => rfl
        | global g => rfl
        | func f => rfl
      have hcalm : ∀ {Y : V}, evCalm cx o si some = some Y → evCalm cx o s some = some Y := fun h => by
        rw [evCalm_congr (cx := cx) (o := o) (st := si) (st' := s) (by rw [hf.bl, hfi.bl]) hget]; exact h
      have hn' : (listed.setIfInBounds i true).size = ops.size := by simpa using hn
      have hc' : (unlisted ops.size (listed.setIfInBounds i true)).length ≤ fuel := by
        have := unlisted_less hn hin hul; omega
      have hf' : Fit ops.toList st Xs (fun j => (listed.setIfInBounds i true).getD j false) (s.put o.dst X) := (hf.put hoi' hX (hd.dst i o hoi')).congr fun j hj => by
        by_cases q : j = i
        · subst q
          simp [Array.getD_eq_getD_getElem?, Array.getElem?_setIfInBounds, hn, hin]
        · have : (j == i) = false := by simpa using q
          rw [this, Bool.or_false]
          simp [Array.getD_eq_getD_getElem?, Array.getElem?_setIfInBounds_ne (Ne.symm q)]
      have hframe : ∀ v t, t ∉ opsDst ops.toList → (a1.put o.dst v).tmps[t]? = a.tmps[t]? := by
        intro v t ht
        rw [← hk t ht]
        cases hdst : o.dst with
        | none => rfl
        | some d =>
          have : d ≠ t := by rintro rfl; exact ht (opsDst_get hoi' hdst)
          simp only [Act.put]
          rw [Array.getElem?_setIfInBounds_ne this]
      have done : ∀ μ2 v w2, RepV E w2 μ2 s.bl X v → Rel E w0 μ2 s a1 w2 → Goes w1 μ1 s w2 μ2 s → wpAny P .any ops Q fuel (listed.setIfInBounds i true) (a1.put o.dst v) w2 := by
        intro μ2 v w2 hrep hR2 hg2
        refine ih _ _ μ2 _ w2 hn' hc' hf' (hR2.put o.dst hrep) (hframe v) ((hg.trans hg2).trans (goes_put o.dst X)) ?_
        intro j oj hoj hlj e he
        have mono : ∀ e, listed.getD e false = true → (listed.setIfInBounds i true).getD e false = true := by
          intro e h
          by_cases q : e = i
          · subst q
            simp [Array.getD_eq_getD_getElem?, Array.getElem?_setIfInBounds, hn, hin]
          · rw [Array.getD_eq_getD_getElem?, Array.getElem?_setIfInBounds_ne (Ne.symm q), ← Array.getD_eq_getD_getElem?]; exact h
        by_cases q : j = i
        · subst q
          rw [hoi'] at hoj; cases hoj
          exact mono e (hdep e he).1
        · refine mono e (hcl j oj hoj ?_ e he)
          rw [Array.getD_eq_getD_getElem?, Array.getElem?_setIfInBounds_ne (Ne.symm q), ← Array.getD_eq_getD_getElem?] at hlj
          exact hlj
      unfold wpOp
      simp only [hoi]
      unfold Step at hstep
      split at hstep
      · next hgd =>
        have hw : Region.wanted o (yielded ops a1.tmps) = true := by unfold Region.wanted; rw [hgd]
        rw [if_pos hw]
        exact Or.inl (evCalm_sound hcx hR1 (hcalm hstep) _ Q done)
      · next j want hgd =>
        obtain ⟨oj, d, h1, h2, hcase⟩ := hstep
        have hsd : s.tmps.getD d V.undef = si.tmps.getD d V.undef := by
          rw [List.getD_eq_getElem?_getD, slot d j (hd.dst j oj h1 d h2) (hd.guard i o hoi' j want hgd), ← List.getD_eq_getElem?_getD]
        rcases hcase with ⟨b, h3, h4, h5⟩ | ⟨h3, h5⟩
        case inr =>
          have hval := hR1.tmp d
          rw [hsd, h3] at hval
          have hval : a1.tmps.getD d undef = undef := hval.skipped_eq
          have hy : yielded ops a1.tmps j = none := by
            unfold yielded
            rw [← Array.getElem?_toList, h1]
            simp only [Option.bind_some, h2]
            rw [Array.getD_eq_getD_getElem?] at hval
            cases hq : a1.tmps[d]? with
            | none => rfl
            | some u =>
              rw [hq] at hval
              have hval : u = undef := hval
              subst hval
              rfl
          have hw : Region.wanted o (yielded ops a1.tmps) = false := by unfold Region.wanted; rw [hgd]; simp [hy]
          rw [hw]
          subst h5
          exact done μ1 undef w1 RepV.skipped hR1 (Goes.refl _ _ _)
        have hs3 : s.tmps.getD d V.undef = .at (.bool b) := by rw [hsd]; exact h3
        have hval := hR1.tmp d
        rw [hs3] at hval
        have hval : a1.tmps.getD d undef = .bool b := hval
        have hlt : a1.tmps[d]? = some (.bool b) := by
          rw [Array.getD_eq_getD_getElem?] at hval
          cases hq : a1.tmps[d]? with
          | none => rw [hq] at hval; exact absurd hval (by simp [undef])
          | some u => rw [hq] at hval; exact congrArg some hval
        have hy : yielded ops a1.tmps j = some b := by
          unfold yielded
          rw [← Array.getElem?_toList, h1]
          simp only [Option.bind_some, h2, hlt]
        have hw : Region.wanted o (yielded ops a1.tmps) = (b == want) := by unfold Region.wanted; rw [hgd]; simp [hy]
        rw [hw]
        by_cases e : b = want
        · rw [if_pos (by simpa using e)]
          exact Or.inl (evCalm_sound hcx hR1 (hcalm (h4 e)) _ Q done)
        · rw [if_neg (by simpa using e)]
          have := h5 e
          subst this
          exact done μ1 undef w1 RepV.skipped hR1 (Goes.refl _ _ _)
  have hb : Below w.heap.size w { w with drawn := w.drawn + 1 } := ⟨rfl, rfl, rfl, Nat.le_refl _, fun _ _ => rfl⟩
  obtain ⟨m1, e1⟩ := hR.mem.world hb
  have hnone : ∀ j, (Array.replicate ops.size false).getD j false = false := fun j => by
    rw [Array.getD_eq_getD_getElem?, Array.getElem?_replicate]
    split <;> rfl
  refine key ops.size _ st μ a _ (by simp) ?_ ⟨rfl, rfl, rfl, fun t ht => ?_⟩ (hR.next m1 e1) (fun _ _ => rfl) ⟨e1, rfl, fun _ _ _ => rfl⟩ (fun j oj _ hl => by rw [hnone j] at hl; cases hl)
  · unfold unlisted
    exact Nat.le_trans (List.length_filter_le _ _) (by simp)
  · split
    · next j hj =>
      have : (Array.replicate ops.size false).getD j false = false := by
        rw [Array.getD_eq_getD_getElem?, Array.getElem?_replicate]
        split <;> rfl
      rw [this]; rfl
    · rfl
end
end Go.Proofs.YtcaknaddeblecaaGreatDoor.Ev

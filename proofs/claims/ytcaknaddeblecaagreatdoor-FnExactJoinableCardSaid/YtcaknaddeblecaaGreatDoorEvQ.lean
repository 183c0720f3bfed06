/- Calls by a contract, and each operation. -/
import Derived.Test.YtcaknaddeblecaaGreatDoorEvP
namespace Go.Proofs.YtcaknaddeblecaaGreatDoor.Ev
open Go Go.RowKit
set_option linter.unusedVariables false
set_option linter.unusedSimpArgs false
variable {ρ : Type}

section
variable {P : Program} {cx : Cx} {E : Env} {w0 w : World} {μ : Lie} {st : St} {a : Act} {o : Oper} {K : V → St → Option ρ} {r : ρ}

theorem Holds.cells' {bl : List Blk} {fr : Bool} {S : Nat → Prop} (hS : ∀ k, S k → E.D μ bl fr k) {t : Ty} {x : t.den} {vs : List Value} (h : Holds w S t x vs) : RepAs E w μ bl (t.cells fr x) vs :=
  Holds.cells (h.weaken fun k hk _ => hS k hk)

theorem oneRes_length {S : Nat → Prop} {fresh : Bool} {t : Ty × Bool} {x : t.1.den} {v : Value} {ms : List (Option (Nat × Nat))} (n : Nat) (h : ResHold1 w S t x v ms) : (oneRes fresh t x n).2.length = ms.length := by
  obtain ⟨t, ow⟩ := t
  cases ow with
  | false => simp only [ResHold1] at h; rw [h.1]; rfl
  | true =>
    have e : (oneRes fresh (t, true) x n).2 = t.ownRows fresh x := rfl
    rw [e, ownRows_length]
    simp only [ResHold1] at h
    split at h
    · obtain ⟨vs, _, h⟩ := h; exact h.rows.symm
    · exact h.rows.symm

theorem oneRes_sound {S : Nat → Prop} {fresh : Bool} {bl : List Blk} (hS : ∀ k, S k → E.D μ bl fresh k) {t : Ty × Bool} {x : t.1.den} {v : Value} {ms : List (Option (Nat × Nat))} (n : Nat) (h : ResHold1 w S t x v ms)
    (hs : ∀ i, i < ms.length → bl[n + i]? = (oneRes fresh t x n).2[i]? ∧ μ (n + i) = ms.getD i none) : RepR E w μ bl (oneRes fresh t x n).1 v := by
  obtain ⟨t, ow⟩ := t
  cases ow with
  | false =>
    simp only [ResHold1] at h
    have h := h.2
    have e : (oneRes fresh (t, false) x n).1 = (t.isAgg, t.cells fresh x) := rfl
    rw [e]
    unfold RepR
    unfold ValHolds at h
    simp only
    split at h
    · next ha => rw [ha]; obtain ⟨vs, e, hh⟩ := h; exact ⟨vs, e, hh.cells' hS⟩
    · next ha => rw [ha]; exact h.cells' hS
  | true =>
    simp only [ResHold1] at h
    have e : (oneRes fresh (t, true) x n).1 = (t.isAgg, t.own x n) := rfl
    have e2 : (oneRes fresh (t, true) x n).2 = t.ownRows fresh x := rfl
    rw [e2] at hs
    rw [e]
    unfold RepR
    simp only
    split at h
    · next ha =>
      obtain ⟨vs, e, hh⟩ := h
      exact ⟨vs, e, own_sound (nf := fresh) (fun _ _ _ _ _ => trivial) n hh fun i hi => hs i (by rw [hh.rows]; exact hi)⟩
    · next ha =>
      exact own_sound (nf := fresh) (fun _ _ _ _ _ => trivial) n h fun i hi => hs i (by rw [h.rows]; exact hi)

theorem oneRes_blocks {S : Nat → Prop} {fresh : Bool} {bl : List Blk} (hS : ∀ k, S k → E.D μ bl fresh k) {t : Ty × Bool} {x : t.1.den} {v : Value} {ms : List (Option (Nat × Nat))} (n : Nat) (h : ResHold1 w S t x v ms) (hB : ∀ k c, some (k, c) ∈ ms → E.B ≤ k) :
    ∀ i blk, (oneRes fresh t x n).2[i]? = some blk → ∀ b, μ b = ms.getD i none → RepB E w μ bl b blk := by
  intro i blk hi b hb
  obtain ⟨t, ow⟩ := t
  cases ow with
  | false => have e2 : (oneRes fresh (t, false) x n).2 = [] := rfl; rw [e2] at hi; simp at hi
  | true =>
    have e2 : (oneRes fresh (t, true) x n).2 = t.ownRows fresh x := rfl
    rw [e2] at hi
    simp only [ResHold1] at h
    split at h
    · obtain ⟨vs, _, h⟩ := h; exact own_blocks hS h hB i blk hi b hb
    · exact own_blocks hS h hB i blk hi b hb

theorem giveRes_length {S : Nat → Prop} {fresh : Bool} : ∀ (ts : List (Ty × Bool)) (x : denR ts) (vs : List Value) (ms : List (Option (Nat × Nat))) (n : Nat), ResHold w S ts x vs ms → (giveRes fresh ts x n).2.length = ms.length
  | [], _, [], ms, n, h => by simp only [ResHold] at h; rw [h]; rfl
  | [], _, _ :: _, ms, n, h => h.elim
  | [t], x, [v], ms, n, h => oneRes_length n h
  | [t], x, [], ms, n, h => by simp only [ResHold] at h
  | [t], x, _ :: _ :: _, ms, n, h => by simp only [ResHold] at h
  | t :: u :: r, x, [], ms, n, h => by simp only [ResHold] at h
  | t :: u :: r, x, v :: vs, ms, n, h => by
    obtain ⟨m1, m2, rfl, h1, h2⟩ := h
    simp only [giveRes, List.length_append]
    rw [oneRes_length n h1, giveRes_length (u :: r) x.2 vs m2 _ h2]

theorem giveRes_sound {S : Nat → Prop} {fresh : Bool} {bl : List Blk} (hS : ∀ k, S k → E.D μ bl fresh k) : ∀ (ts : List (Ty × Bool)) (x : denR ts) (vs : List Value) (ms : List (Option (Nat × Nat))) (n : Nat), ResHold w S ts x vs ms →
    (∀ i, i < ms.length → bl[n + i]? = (giveRes fresh ts x n).2[i]? ∧ μ (n + i) = ms.getD i none) → All2 (RepR E w μ bl) (giveRes fresh ts x n).1 vs
  | [], _, [], ms, n, h, hs => trivial
  | [], _, _ :: _, ms, n, h, hs => h.elim
  | [t], x, [v], ms, n, h, hs => ⟨oneRes_sound hS n h hs, trivial⟩
  | [t], x, [], ms, n, h, hs => by simp only [ResHold] at h
  | [t], x, _ :: _ :: _, ms, n, h, hs => by simp only [ResHold] at h
  | t :: u :: r, x, [], ms, n, h, hs => by simp only [ResHold] at h
  | t :: u :: r, x, v :: vs, ms, n, h, hs => by
    obtain ⟨m1, m2, rfl, h1, h2⟩ := h
    have l1 := oneRes_length (fresh := fresh) n h1
    refine ⟨oneRes_sound hS n h1 fun i hi => ?_, giveRes_sound hS (u :: r) x.2 vs m2 _ h2 fun i hi => ?_⟩
    · obtain ⟨q1, q2⟩ := hs i (by rw [List.length_append]; omega)
      exact ⟨by rw [q1]; simp only [giveRes]; rw [List.getElem?_append_left (by omega)], by rw [q2, List.getD_eq_getElem?_getD, List.getD_eq_getElem?_getD, List.getElem?_append_left hi]⟩
    · obtain ⟨q1, q2⟩ := hs (m1.length + i) (by rw [List.length_append]; omega)
      rw [← Nat.add_assoc] at q1 q2
      rw [l1]
      exact ⟨by rw [q1]; simp only [giveRes]; rw [List.getElem?_append_right (by omega), l1, Nat.add_sub_cancel_left], by rw [q2, List.getD_eq_getElem?_getD, List.getD_eq_getElem?_getD, List.getElem?_append_right (by omega), Nat.add_sub_cancel_left]⟩

theorem giveRes_blocks {S : Nat → Prop} {fresh : Bool} {bl : List Blk} (hS : ∀ k, S k → E.D μ bl fresh k) : ∀ (ts : List (Ty × Bool)) (x : denR ts) (vs : List Value) (ms : List (Option (Nat × Nat))) (n : Nat), ResHold w S ts x vs ms →
    (∀ k c, some (k, c) ∈ ms → E.B ≤ k) → ∀ i blk, (giveRes fresh ts x n).2[i]? = some blk → ∀ b, μ b = ms.getD i none → RepB E w μ bl b blk
  | [], _, [], ms, n, h, hB, i, blk, hi, _, _ => by simp [giveRes] at hi
  | [], _, _ :: _, ms, n, h, hB, _, _, _, _, _ => h.elim
  | [t], x, [v], ms, n, h, hB, i, blk, hi, b, hb => oneRes_blocks hS n h hB i blk hi b hb
  | [t], x, [], ms, n, h, hB, _, _, _, _, _ => by simp only [ResHold] at h
  | [t], x, _ :: _ :: _, ms, n, h, hB, _, _, _, _, _ => by simp only [ResHold] at h
  | t :: u :: r, x, [], ms, n, h, hB, _, _, _, _, _ => by simp only [ResHold] at h
  | t :: u :: r, x, v :: vs, ms, n, h, hB, i, blk, hi, b, hb => by
    obtain ⟨m1, m2, rfl, h1, h2⟩ := h
    have l1 := oneRes_length (fresh := fresh) n h1
    simp only [giveRes] at hi
    by_cases q : i < m1.length
    · rw [List.getElem?_append_left (by omega)] at hi
      refine oneRes_blocks hS n h1 (fun k c hk => hB k c (List.mem_append_left _ hk)) i blk hi b ?_
      rw [hb, List.getD_eq_getElem?_getD, List.getD_eq_getElem?_getD, List.getElem?_append_left q]
    · rw [List.getElem?_append_right (by omega), l1] at hi
      refine giveRes_blocks hS (u :: r) x.2 vs m2 _ h2 (fun k c hk => hB k c (List.mem_append_right _ hk)) _ blk hi b ?_
      rw [hb, List.getD_eq_getElem?_getD, List.getD_eq_getElem?_getD, List.getElem?_append_right (by omega)]

theorem readArgs_sound {bl : List Blk} (hm : Mem E w0 w μ bl) {bs : List Nat} : ∀ (ts : List Ty) (Xs : List V) (vs : List Value) (x : denL ts), readArgs bl ts Xs = some x → All2 (RepV E w μ bl) Xs vs → (∀ b, b ∈ rowsIn Xs → b ∈ bs) →
    ArgsHold w (E.X μ bl bs false) ts x vs
  | [], [], [], _, _, _, _ => trivial
  | [], [], _ :: _, _, _, h, _ => h.elim
  | [], _ :: _, _, _, h, _, _ => by simp [readArgs] at h
  | t :: ts, [], _, _, h, _, _ => by simp [readArgs] at h
  | t :: ts, X :: Xs, [], _, _, h, _ => h.elim
  | t :: ts, X :: Xs, v :: vs, x, h, hr, hb => by
    simp only [readArgs] at h
    split at h
    · next y ys hy hys =>
      cases h
      refine ⟨ofV_sound hm hr.1 (fun b hbm => hb b ?_) hy, readArgs_sound hm ts Xs vs ys hys hr.2 fun b hbm => hb b ?_⟩
      · unfold rowsIn; rw [List.flatMap_cons]; exact List.mem_append_left _ hbm
      · unfold rowsIn; rw [List.flatMap_cons]; exact List.mem_append_right _ hbm
    · cases h

/-- what a call shows, once it has returned -/
def CallPost (E : Env) (w0 : World) (μ : Lie) (st : St) (a : Act) (w : World) (K : V → St → Option ρ) (r : ρ) (e : Ending) (w' : World) : Prop :=
  match e with
  | .returned v => ∃ X st' μ', K X st' = some r ∧ RepV E w' μ' st'.bl X v ∧ Rel E w0 μ' st' a w' ∧ st'.tmps = st.tmps ∧ Goes w μ st w' μ' st'
  | _ => False

theorem evCall_sound {f : FuncId} {s : CSpec} (hs : s.ok P E.G f) (hR : Rel E w0 μ st a w) {Xs : List V} {vs : List Value} (hX : All2 (RepV E w μ st.bl) Xs vs) (h : evCall s Xs st K = some r) :
    Calls P f vs.toArray w (CallPost E w0 μ st a w K r) := by
  unfold evCall at h
  split at h
  case h_2 => cases h
  next x hx =>
  cases hsem : s.sem x with
  | none => rw [hsem] at h; cases h
  | some y =>
    rw [hsem] at h
    simp only [Option.bind_some] at h
    split at h
    case h_2 => cases h
    next st1 h1 =>
    -- the state after what leads to own rows is frozen
    have key : ∃ S : Nat → Prop, ArgsHold w S s.params x vs ∧ Rel E w0 μ st1 a w ∧ st1.tmps = st.tmps ∧ Goes w μ st w μ st1 ∧ (s.fresh = false → ∀ k, S k → E.D μ st1.bl false k) := by
      cases hf : s.fresh with
      | true =>
        rw [hf] at h1
        simp only [cond_true] at h1
        cases h1
        exact ⟨_, readArgs_sound hR.mem _ _ _ _ hx hX (fun _ h => h), hR, rfl, Goes.refl _ _ _, fun q => by cases q⟩
      | false =>
        rw [hf] at h1
        simp only [cond_false] at h1
        obtain ⟨r1, t1, g1, o1, f1, k1⟩ := freezeAll_sound _ hR h1
        exact ⟨_, readArgs_sound hR.mem _ _ _ _ hx hX (fun _ h => h), r1, t1, g1, fun _ k hk => Env.X_D hk o1 f1⟩
    obtain ⟨S, hargs, r1, t1, g1, hSD⟩ := key
    refine (hs.calls w (hR.mem.start w hR.mem.below) S vs x y hargs hsem).mono fun e w' hp => ?_
    cases e with
    | panicked c => exact hp.elim
    | outgrown => exact hp.elim
    | returned v =>
      obtain ⟨hb, us, ms, rfl, hn, hres⟩ := hp
      have hlen := giveRes_length (fresh := s.fresh) s.res y us ms st1.bl.length hres
      have hD : ∀ ext : List Blk, ∀ k, s.S w.heap.size S ms k → E.D (μ.ext st1.bl.length ms) (st1.bl ++ ext) s.fresh k := by
        rintro ext k ⟨hk, hnm⟩
        refine ⟨?_, ?_⟩
        · rcases hk with hk | ⟨hf, hk⟩
          · exact Or.inl (Nat.le_trans r1.mem.big hk)
          · rw [hf]
            rcases (hSD hf k hk).1 with q | ⟨_, q⟩
            · exact Or.inl q
            · exact Or.inr ⟨rfl, q⟩
        · rintro ⟨b, c, he, hm⟩
          by_cases hlt : b < st1.bl.length
          · have hm' : mine st1.bl b := by unfold mine at hm ⊢; rwa [List.getElem?_append_left hlt] at hm
            have he' : μ b = some (k, c) := by unfold Lie.ext at he; rwa [if_pos hlt] at he
            rcases hk with hk | ⟨hf, hk⟩
            · have := r1.mem.lt (mine_alive hm') he'; omega
            · exact (hSD hf k hk).2 ⟨b, c, he', hm'⟩
          · unfold Lie.ext at he
            rw [if_neg hlt, List.getD_eq_getElem?_getD] at he
            cases hms : ms[b - st1.bl.length]? with
            | none => rw [hms] at he; cases he
            | some m =>
              rw [hms] at he
              have he : m = some (k, c) := he
              subst he
              exact hnm c (List.mem_of_getElem? hms)
      have hext : ∀ i, st1.bl.length ≤ st1.bl.length + i ∧ μ.ext st1.bl.length ms (st1.bl.length + i) = ms.getD i none := by
        intro i
        refine ⟨by omega, ?_⟩
        unfold Lie.ext
        rw [if_neg (by omega), Nat.add_sub_cancel_left]
      obtain ⟨m2, e2⟩ := r1.mem.snocs hb (giveRes s.fresh s.res y st1.bl.length).2 ms hn (fun ev i blk hi =>
        giveRes_blocks (hD _) s.res y us ms st1.bl.length hres (fun k c hk => Nat.le_trans r1.mem.big (hn.new k c hk)) i blk hi _ (hext i).2)
      have hrep := giveRes_sound (hD (giveRes s.fresh s.res y st1.bl.length).2) s.res y us ms st1.bl.length hres (fun i hi => by
        refine ⟨?_, (hext i).2⟩
        rw [List.getElem?_append_right (by omega), Nat.add_sub_cancel_left])
      exact ⟨_, _, _, h, toValue_rep hrep, r1.next m2 e2, t1, g1.trans (goes_snoc (bl' := []) e2)⟩

/-- what an inline call must show -/
def InlOk (P : Program) (E : Env) (inl : Inl ρ) : Prop :=
  ∀ (w0 w : World) (μ : Lie) (st : St) (a : Act) (path : List Nat) (f : FuncId) (Xs : List V) (vs : List Value) (K : V → St → Option ρ) (r : ρ), Rel E w0 μ st a w → All2 (RepV E w μ st.bl) Xs vs →
    inl path f Xs st K = some r → (∃ fn, P.funcs[f]? = some fn ∧ fn.name ≠ "runtime.NumGoroutine" ∧ fn.body.isSome = true) ∧ Calls P f vs.toArray w (CallPost E w0 μ st a w K r)

/-- what an operation must show -/
def OpOk (P : Program) (E : Env) (w0 : World) (μ : Lie) (st : St) (a : Act) (w : World) (o : Oper) (K : V → St → Option ρ) (r : ρ) : Prop :=
  ∀ (next : Act → World → Prop) (Q : Exit → Act → World → Prop), (∀ X st' μ' v w', K X st' = some r → RepV E w' μ' st'.bl X v → Rel E w0 μ' st' a w' → st'.tmps = st.tmps → Goes w μ st w' μ' st' → next (a.put o.dst v) w') → o.wp P a w next Q

theorem Eff.opOk (h : Eff P E w0 μ st a w o K r) : OpOk P E w0 μ st a w o K r := by
  intro next Q hn
  obtain ⟨X, st', μ', v, w', h1, h2, h3, h4, h5, h6⟩ := h
  unfold Oper.wp
  rcases h6 with h6 | ⟨h6, rfl⟩
  · rw [h6]; exact hn X st' μ' v w' h1 h2 h3 h4 h5
  · rw [h6]; exact hn _ st' μ' undef w' h1 trivial h3 h4 h5

theorem call_opOk {f : FuncId} {vs : List Value} {c : Call} (ho : o.op = .call c) (hfn : ∃ fn, P.funcs[f]? = some fn ∧ fn.name ≠ "runtime.NumGoroutine" ∧ fn.body.isSome = true) {x : Operand} (hc : c.callee = .value x) {cs : List Value}
    (hx : a.eval x = .func (.func f) #[] cs.toArray) (hv : vs = c.args.toList.map a.eval ++ cs) (h : Calls P f vs.toArray w (CallPost E w0 μ st a w K r)) : OpOk P E w0 μ st a w o K r := by
  intro next Q hn
  obtain ⟨fn, h1, h2, h3⟩ := hfn
  have hrun : (execOp a.eval o).run P w = .ok (.enter f vs.toArray) w := by
    have hb : ¬ fn.body = none := by intro hq; rw [hq] at h3; cases h3
    have harr : (c.args.map a.eval) ++ cs.toArray = vs.toArray := by
      subst hv
      apply Array.ext'
      simp
    unfold execOp
    simp only [ho]
    simp [resolve, hc, hx, Deferred.ofValue, invoke, callFunc, h1, h2, hb, harr]
  unfold Oper.wp
  rw [hrun, Oper.upon_enter]
  refine h.mono fun e w' hp => ?_
  cases e with
  | returned v =>
    obtain ⟨X, st', μ', q1, q2, q3, q4, q5⟩ := hp
    exact hn X st' μ' v w' q1 q2 q3 q4 q5
  | panicked c => exact hp.elim
  | outgrown => exact hp.elim
end
end Go.Proofs.YtcaknaddeblecaaGreatDoor.Ev

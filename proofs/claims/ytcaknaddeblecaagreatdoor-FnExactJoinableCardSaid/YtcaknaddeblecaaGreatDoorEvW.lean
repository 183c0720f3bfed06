/- A function's contract, out of what the evaluator says of it. -/
import Derived.Test.YtcaknaddeblecaaGreatDoorEvV
namespace Go.Proofs.YtcaknaddeblecaaGreatDoor.Ev
open Go Go.RowKit
set_option linter.unusedVariables false
set_option linter.unusedSimpArgs false

section
variable {P : Program} {cx : Cx} {E : Env} {w0 w : World} {μ : Lie} {st : St} {a : Act} {bl : List Blk}

theorem ownRefs_append : ∀ (c1 c2 : List A) (bs : List Nat), ownRefs bl (c1 ++ c2) = some bs → ∃ b1 b2, bs = b1 ++ b2 ∧ ownRefs bl c1 = some b1 ∧ ownRefs bl c2 = some b2
  | [], c2, bs, h => ⟨[], bs, rfl, rfl, h⟩
  | c :: c1, c2, bs, h => by
    have rest : ∀ bs, ownRefs bl (c1 ++ c2) = some bs → (∀ xs ys, ownRefs bl xs = some ys → ownRefs bl (c :: xs) = some ys) → ∃ b1 b2, bs = b1 ++ b2 ∧ ownRefs bl (c :: c1) = some b1 ∧ ownRefs bl c2 = some b2 := by
      intro bs h hc
      obtain ⟨b1, b2, e, h1, h2⟩ := ownRefs_append c1 c2 bs h
      exact ⟨b1, b2, e, hc _ _ h1, h2⟩
    cases c with
    | sl fr t l => simp [ownRefs] at h
    | os b g =>
      simp only [List.cons_append, ownRefs] at h
      split at h
      · next g' nf t l bs' hb hbs =>
        have hg := (cond_none h).1
        replace h := (cond_none h).2
        cases h
        obtain ⟨b1, b2, e, h1, h2⟩ := ownRefs_append c1 c2 bs' hbs
        refine ⟨b :: b1, b2, by rw [e]; rfl, ?_, h2⟩
        simp only [ownRefs, hb, h1, hg, cond_true]
      · cases h
    | undef => exact rest bs h fun xs ys hx => hx
    | int k n => exact rest bs h fun xs ys hx => hx
    | bool b => exact rest bs h fun xs ys hx => hx
    | str s => exact rest bs h fun xs ys hx => hx
    | err b => exact rest bs h fun xs ys hx => hx
    | ptr b off => exact rest bs h fun xs ys hx => hx
    | ep b g i off => exact rest bs h fun xs ys hx => hx
    | pp fr t x off => exact rest bs h fun xs ys hx => hx
    | fn f caps => exact rest bs h fun xs ys hx => hx

/-- the rows that are handed on -/
theorem ownRefs_mine : ∀ (cs : List A) (bs : List Nat), ownRefs bl cs = some bs → ∀ b ∈ bs, mine bl b
  | [], bs, h, b, hb => by simp only [ownRefs] at h; cases h; simp at hb
  | c :: cs, bs, h, b, hb => by
    cases c with
    | sl fr t l => simp [ownRefs] at h
    | os b' g =>
      simp only [ownRefs] at h
      split at h
      · next g' nf t l bs' hbl hbs =>
        replace h := (cond_none h).2
        cases h
        rcases List.mem_cons.mp hb with rfl | hb
        · unfold mine; rw [hbl]
        · exact ownRefs_mine cs bs' hbs b hb
      · cases h
    | undef => exact ownRefs_mine cs bs h b hb
    | int k n => exact ownRefs_mine cs bs h b hb
    | bool q => exact ownRefs_mine cs bs h b hb
    | str s => exact ownRefs_mine cs bs h b hb
    | err q => exact ownRefs_mine cs bs h b hb
    | ptr q off => exact ownRefs_mine cs bs h b hb
    | ep q g i off => exact ownRefs_mine cs bs h b hb
    | pp fr t x off => exact ownRefs_mine cs bs h b hb
    | fn f caps => exact ownRefs_mine cs bs h b hb

theorem view_scalar {x : A} (h : ∀ b g, x ≠ .os b g) : x.view bl = x := by
  cases x <;> first | rfl | exact absurd rfl (h _ _)

/-- own rows of a result -/
theorem own_take {fresh : Bool} {S : Nat → Prop} (hm : Mem E w0 w μ bl) (hS : ∀ k, E.D μ bl fresh k → S k) :
    ∀ (t : Ty) (cs : List A) (us : List Value) (x : t.den) (rest : List A) (bs : List Nat), RepAs E w μ bl cs us → t.ofCells fresh (cs.map (A.view bl)) = some (x, rest) → ownRefs bl cs = some bs →
      ∃ c1 c2 u1 u2 b1 b2, cs = c1 ++ c2 ∧ us = u1 ++ u2 ∧ bs = b1 ++ b2 ∧ rest = c2.map (A.view bl) ∧ RepAs E w μ bl c2 u2 ∧ ownRefs bl c2 = some b2 ∧ OwnHolds w S t x u1 (b1.map μ) := by
  intro t
  have base : ∀ (y : A), (∀ b g, y ≠ .os b g) → (∀ f t l, y ≠ .sl f t l) → ∀ (c : A) (cs : List A) (bs : List Nat), c.view bl = y → y ≠ .undef → ownRefs bl (c :: cs) = some bs → c = y ∧ ownRefs bl cs = some bs := by
    intro y hy1 hy2 c cs bs hv hu h
    have hc : c = y := by
      cases c with
      | os b g =>
        simp only [A.view] at hv
        split at hv
        · next g' own nf t l hb =>
          cases hg : g == g' with
          | true => rw [hg] at hv; exact absurd hv.symm (hy2 _ _ _)
          | false => rw [hg] at hv; exact absurd hv.symm hu
        · exact absurd hv.symm hu
      | _ => exact hv
    subst hc
    refine ⟨rfl, ?_⟩
    cases c <;> first | exact h | exact absurd rfl (hy1 _ _) | exact absurd rfl (hy2 _ _ _)
  induction t with
  | int k =>
    intro cs us x rest bs hr hc hb
    cases cs with
    | nil => simp [Ty.ofCells] at hc
    | cons c cs =>
      cases us with
      | nil => exact hr.elim
      | cons u us =>
        simp only [List.map_cons] at hc
        cases hv : c.view bl <;> rw [hv] at hc <;> simp [Ty.ofCells] at hc
        obtain ⟨rfl, rfl, rfl⟩ := hc
        obtain ⟨rfl, hb'⟩ := base _ (by simp) (by simp) c cs bs hv (by simp) hb
        exact ⟨[_], cs, [u], us, [], bs, rfl, rfl, rfl, rfl, hr.2, hb', rfl, congrArg (· :: []) hr.1⟩
  | bool =>
    intro cs us x rest bs hr hc hb
    cases cs with
    | nil => simp [Ty.ofCells] at hc
    | cons c cs =>
      cases us with
      | nil => exact hr.elim
      | cons u us =>
        simp only [List.map_cons] at hc
        cases hv : c.view bl <;> rw [hv] at hc <;> simp [Ty.ofCells] at hc
        obtain ⟨rfl, rfl⟩ := hc
        obtain ⟨rfl, hb'⟩ := base _ (by simp) (by simp) c cs bs hv (by simp) hb
        exact ⟨[_], cs, [u], us, [], bs, rfl, rfl, rfl, rfl, hr.2, hb', rfl, congrArg (· :: []) hr.1⟩
  | str =>
    intro cs us x rest bs hr hc hb
    cases cs with
    | nil => simp [Ty.ofCells] at hc
    | cons c cs =>
      cases us with
      | nil => exact hr.elim
      | cons u us =>
        simp only [List.map_cons] at hc
        cases hv : c.view bl <;> rw [hv] at hc <;> simp [Ty.ofCells] at hc
        obtain ⟨rfl, rfl⟩ := hc
        obtain ⟨rfl, hb'⟩ := base _ (by simp) (by simp) c cs bs hv (by simp) hb
        exact ⟨[_], cs, [u], us, [], bs, rfl, rfl, rfl, rfl, hr.2, hb', rfl, congrArg (· :: []) hr.1⟩
  | err =>
    intro cs us x rest bs hr hc hb
    cases cs with
    | nil => simp [Ty.ofCells] at hc
    | cons c cs =>
      cases us with
      | nil => exact hr.elim
      | cons u us =>
        simp only [List.map_cons] at hc
        cases hv : c.view bl <;> rw [hv] at hc <;> simp [Ty.ofCells] at hc
        obtain ⟨rfl, rfl⟩ := hc
        obtain ⟨rfl, hb'⟩ := base _ (by simp) (by simp) c cs bs hv (by simp) hb
        exact ⟨[_], cs, [u], us, [], bs, rfl, rfl, rfl, rfl, hr.2, hb', rfl, u, rfl, hr.1⟩
  | slice e ih =>
    intro cs us x rest bs hr hc hb
    cases cs with
    | nil => simp [Ty.ofCells] at hc
    | cons c cs =>
      cases us with
      | nil => exact hr.elim
      | cons u us =>
        cases c with
        | sl f t l => simp [ownRefs] at hb
        | os b g =>
          simp only [ownRefs] at hb
          split at hb
          case h_2 => cases hb
          next g' nf t l bs' hbl hbs =>
          have hg := (cond_none hb).1
          replace hb := (cond_none hb).2
          cases hb
          have hgg : g = g' := by simpa using hg
          subst hgg
          simp only [List.map_cons, A.view, hbl, beq_self_eq_true, cond_true, Ty.ofCells] at hc
          split at hc
          case h_2 => cases hc
          next p hq =>
          subst p
          have hn := (cond_none' hc).1
          replace hc := (cond_none' hc).2
          cases hc
          have hrow := (hr.1.2 _ _ _ _ _ hbl).2 rfl
          refine ⟨[_], cs, [u], us, [b], bs', rfl, rfl, rfl, rfl, hr.2, hbs, u, μ b, rfl, rfl, hrow, ?_⟩
          rcases hm.blocks b _ hbl with ⟨h1, h2⟩ | ⟨k, cap, vals, ty, fz, h1, h2, h3, h4, h5, h6, h7⟩
          · exact Or.inl ⟨h1, h2⟩
          · refine Or.inr ⟨k, cap, vals, ty, fz, h1, h3, h4, h5, h6, fun i hi => ?_⟩
            cases hf : t.flat with
            | true => exact (h7 i hi).flat hf
            | false =>
              rw [hf, Bool.or_false] at hn
              refine (h7 i hi).weaken fun k hk _ => hS k (Env.D_less (fun q => ?_) hk)
              subst q
              simpa using hn
        | _ => simp [Ty.ofCells, A.view] at hc
  | pair p q ihp ihq =>
    intro cs us x rest bs hr hc hb
    simp only [Ty.ofCells] at hc
    split at hc
    case h_2 => cases hc
    next x1 r1 h1 =>
    split at hc
    case h_2 => cases hc
    next x2 r2 h2 =>
    cases hc
    obtain ⟨c1, c2, u1, u2, b1, b2, rfl, rfl, rfl, rfl, p1, p2, p3⟩ := ihp cs us x1 r1 bs hr h1 hb
    obtain ⟨c3, c4, u3, u4, b3, b4, rfl, rfl, rfl, rfl, q1, q2, q3⟩ := ihq c2 u2 x2 _ b2 p1 h2 p2
    exact ⟨c1 ++ c3, c4, u1 ++ u3, u4, b1 ++ b3, b4, by simp, by simp, by simp, rfl, q1, q2, u1, u3, b1.map μ, b3.map μ, rfl, by simp, p3, q3⟩
  | struct t ih =>
    intro cs us x rest bs hr hc hb
    exact ih cs us x rest bs hr hc hb

theorem takeOne_sound {fresh : Bool} {S : Nat → Prop} (hm : Mem E w0 w μ bl) (hS : ∀ k, E.D μ bl fresh k → S k) {t : Ty × Bool} {v : Bool × List A} {u : Value} {y : t.1.den × List Nat × List Nat} (h : takeOne fresh bl t v = some y) (hr : RepR E w μ bl v u)
    (hX : ∀ k, E.X μ bl y.2.2 fresh k → S k) : ResHold1 w S t y.1 u (y.2.1.map μ) ∧ ∀ b ∈ y.2.1, mine bl b := by
  unfold takeOne at h
  have hag := (cond_none h).1
  replace h := (cond_none h).2
  have hag : v.1 = t.1.isAgg := by simpa using hag
  split at h
  case h_2 => cases h
  next x hx =>
  unfold RepR at hr
  unfold ResHold1
  cases ht : t.2 with
  | true =>
    rw [ht] at h
    simp only [cond_true] at h
    split at h
    case h_2 => cases h
    next bs hbs =>
    cases h
    have key : ∀ us, RepAs E w μ bl v.2 us → OwnHolds w S t.1 x us (bs.map μ) := by
      intro us hus
      obtain ⟨c1, c2, u1, u2, b1, b2, e1, e2, e3, e4, p1, p2, p3⟩ := own_take hm hS t.1 v.2 us x [] bs hus hx hbs
      have hc2 : c2 = [] := by cases c2 with | nil => rfl | cons _ _ => simp at e4
      subst hc2
      have hu2 : u2 = [] := by cases u2 with | nil => rfl | cons _ _ => exact p1.elim
      subst hu2
      have hb2 : b2 = [] := by simp only [ownRefs] at p2; cases p2; rfl
      subst hb2
      rw [e2, e3, List.append_nil, List.append_nil]
      exact p3
    refine ⟨?_, ownRefs_mine _ _ hbs⟩
    rw [← hag]
    cases hv : v.1 with
    | true => rw [hv] at hr; obtain ⟨us, e, hus⟩ := hr; exact ⟨us, e, key us hus⟩
    | false => rw [hv] at hr; exact key _ hr
  | false =>
    rw [ht] at h
    simp only [cond_false] at h
    cases h
    have key : ∀ us, RepAs E w μ bl v.2 us → Holds w S t.1 x us := by
      intro us hus
      have hv := view_reps hm v.2 us hus (bs := rowsOf v.2) fun c hc b g e => rowsOf_mem _ c hc b g e
      obtain ⟨p1, p2, e1, e2, e3, _⟩ := ofCells_sound t.1 _ us x [] hv hx
      have : p2 = [] := by cases p2 with | nil => rfl | cons _ _ => exact e3.elim
      subst this
      rw [List.append_nil] at e1
      subst e1
      exact e2.weaken fun k hk _ => hX k hk
    refine ⟨⟨rfl, ?_⟩, fun b hb => by simp at hb⟩
    unfold ValHolds
    rw [← hag]
    cases hv : v.1 with
    | true => rw [hv] at hr; obtain ⟨us, e, hus⟩ := hr; exact ⟨us, e, key us hus⟩
    | false => rw [hv] at hr; exact key _ hr

theorem Env.X_more {fr : Bool} {bs bs' : List Nat} (h : ∀ b ∈ bs, b ∈ bs') {k : Nat} (hk : E.X μ bl bs fr k) : E.X μ bl bs' fr k := by
  refine ⟨hk.1, ?_⟩
  rcases hk.2 with q | ⟨b, c, g, own, nf, t, l, q1, q2⟩
  · exact Or.inl q
  · exact Or.inr ⟨b, c, g, own, nf, t, l, h b q1, q2⟩

theorem takeRes_sound {fresh : Bool} {S : Nat → Prop} (hm : Mem E w0 w μ bl) (hS : ∀ k, E.D μ bl fresh k → S k) : ∀ (ts : List (Ty × Bool)) (vs : List (Bool × List A)) (us : List Value) (y : denR ts × List Nat × List Nat), takeRes fresh bl ts vs = some y → All2 (RepR E w μ bl) vs us →
    (∀ k, E.X μ bl y.2.2 fresh k → S k) → ResHold w S ts y.1 us (y.2.1.map μ) ∧ ∀ b ∈ y.2.1, mine bl b
  | [], [], [], y, h, _, _ => by simp only [takeRes] at h; cases h; exact ⟨rfl, fun b hb => by simp at hb⟩
  | [], [], _ :: _, y, h, hr, _ => hr.elim
  | [], _ :: _, _, y, h, _, _ => by simp [takeRes] at h
  | [t], [], _, y, h, _, _ => by simp [takeRes] at h
  | [t], [v], [u], y, h, hr, hX => takeOne_sound hm hS h hr.1 hX
  | [t], [v], [], y, h, hr, hX => hr.elim
  | [t], [v], _ :: _ :: _, y, h, hr, hX => hr.2.elim
  | [t], _ :: _ :: _, _, y, h, _, _ => by simp [takeRes] at h
  | t :: t' :: r, [], _, y, h, _, _ => by simp [takeRes] at h
  | t :: t' :: r, v :: vs, [], y, h, hr, _ => hr.elim
  | t :: t' :: r, v :: vs, u :: us, y, h, hr, hX => by
    simp only [takeRes] at h
    split at h
    case h_2 => cases h
    next y1 y2 h1 h2 =>
    cases h
    obtain ⟨p1, p2⟩ := takeOne_sound hm hS h1 hr.1 fun k hk => hX k (Env.X_more (fun b hb => List.mem_append_left _ hb) hk)
    obtain ⟨q1, q2⟩ := takeRes_sound hm hS (t' :: r) vs us y2 h2 hr.2 fun k hk => hX k (Env.X_more (fun b hb => List.mem_append_right _ hb) hk)
    refine ⟨⟨_, _, by simp, p1, q1⟩, fun b hb => ?_⟩
    rcases List.mem_append.mp hb with hb | hb
    · exact p2 b hb
    · exact q2 b hb

theorem apartAll_inj : ∀ (bs : List Nat), apartAll bs = true → ∀ (i j b : Nat), bs[i]? = some b → bs[j]? = some b → i = j
  | [], _, i, j, b, h, _ => by simp at h
  | x :: bs, ha, i, j, b, hi, hj => by
    simp only [apartAll, Bool.and_eq_true, Bool.not_eq_true'] at ha
    have hx : x ∉ bs := by simpa using ha.1
    cases i with
    | zero =>
      cases j with
      | zero => rfl
      | succ j =>
        simp only [List.getElem?_cons_zero, Option.some.injEq] at hi
        subst hi
        simp only [List.getElem?_cons_succ] at hj
        exact absurd (List.mem_of_getElem? hj) hx
    | succ i =>
      cases j with
      | zero =>
        simp only [List.getElem?_cons_zero, Option.some.injEq] at hj
        subst hj
        simp only [List.getElem?_cons_succ] at hi
        exact absurd (List.mem_of_getElem? hi) hx
      | succ j =>
        simp only [List.getElem?_cons_succ] at hi hj
        rw [apartAll_inj bs ha.2 i j b hi hj]

theorem giveArgs_sound {B : Nat} {S : Nat → Prop} {G : World → Prop} : ∀ (ts : List Ty) (x : denL ts) (vs : List Value), ArgsHold w S ts x vs → All2 (RepV ⟨B, S, G⟩ w (fun _ => none) []) (giveArgs ts x) vs
  | [], _, [], _ => trivial
  | [], _, _ :: _, h => h.elim
  | t :: ts, x, [], h => h.elim
  | t :: ts, x, v :: vs, h => by
    refine ⟨ValHolds.repV (E := ⟨B, S, G⟩) (fr := false) ?_, giveArgs_sound ts x.2 vs h.2⟩
    have h1 := h.1
    have hS : ∀ k, S k → Env.D ⟨B, S, G⟩ (fun _ => none) [] false k := fun k hk => ⟨Or.inr ⟨rfl, hk⟩, fun ⟨b, c, e, _⟩ => by cases e⟩
    unfold ValHolds at h1 ⊢
    split at h1
    · obtain ⟨us, e, hh⟩ := h1; exact ⟨us, e, hh.weaken fun k hk _ => hS k hk⟩
    · exact h1.weaken fun k hk _ => hS k hk

/-- A function keeps the contract that the evaluator gives it. -/
theorem evFn_ok {G : World → Prop} (hcx : cx.good P G) (d : Nat) {f : FuncId} {fn : Func} (hf : cx.body f = some fn) (s : CSpec) (hs : ∀ x r, s.sem x = some r → evFn cx d fn s.params s.res s.fresh x = some r) : s.ok P G f := by
  obtain ⟨p1, p2, p3⟩ := hcx.ok.body f fn hf
  refine ⟨⟨fn, p1, p2, p3⟩, fun w hG S args x r hargs hsem => ?_⟩
  have h := hs x r hsem
  unfold evFn at h
  split at h
  case h_2 => cases h
  next c hc =>
  refine calls_of_wp p1 hc ?_
  have hX := giveArgs_sound (B := w.heap.size) (G := G) _ _ _ hargs
  have hlen := hX.length
  have hm0 : Mem ⟨w.heap.size, S, G⟩ w w (fun _ => none) [] := ⟨fun w' hb => hcx.goes w w' hG hb, Below.refl _ w, Nat.le_refl _, fun b blk hb => by simp at hb, fun b b' k c c' h1 => by cases h1⟩
  have hR : Rel ⟨w.heap.size, S, G⟩ w (fun _ => none) { tmps := enter fn.ntmps (giveArgs s.params x), bl := [], lock := [] } { tmps := args.toArray ++ Array.replicate (fn.ntmps - args.toArray.size) undef, defers := [] } w := by
    refine ⟨hm0, ?_, rfl⟩
    simp only [enter, Array.toList_append, Array.toList_replicate, List.size_toArray]
    rw [hlen]
    refine hX.append ?_
    generalize fn.ntmps - args.length = m
    induction m with
    | zero => trivial
    | succ m ih => exact ⟨RepV.undef, ih⟩
  refine wp_mono (evCode_sound (E := ⟨w.heap.size, S, G⟩) hcx (evInl_sound hcx d) c w _ _ r _ _ w hR h) ?_
  rintro e a' w' ⟨ex, st', μ', rfl, hk, hR', kp, g⟩
  have fin : endFn cx fn s.res s.fresh st' = some r → a'.defers = [] ∧ ∃ v, (results fn a'.tmps).run P w' = .ok v w' ∧ s.post w S r v w' := by
    intro hk
    unfold endFn at hk
    split at hk
    case h_2 => cases hk
    next xs hxs =>
    split at hk
    case h_2 => cases hk
    next y hy =>
    have hap := (cond_none hk).1
    replace hk := (cond_none hk).2
    cases hk
    rw [Bool.and_eq_true] at hap
    obtain ⟨us, q1, q2⟩ := results_sound hcx.ok hR' hxs
    have hm := hR'.mem
    have mineAll : ∀ b ∈ y.2.1, mine st'.bl b := (takeRes_sound (S := fun _ => True) hm (fun _ _ => trivial) s.res xs us y hy q2 (fun _ _ => trivial)).2
    have inms : ∀ k c, some (k, c) ∈ y.2.1.map μ' → ∃ b ∈ y.2.1, μ' b = some (k, c) := fun k c hkc => by
      obtain ⟨b, hb, e⟩ := List.mem_map.mp hkc
      exact ⟨b, hb, e⟩
    have hSD : ∀ k, Env.D ⟨w.heap.size, S, G⟩ μ' st'.bl s.fresh k → s.S w.heap.size S (y.2.1.map μ') k := by
      rintro k ⟨h1, h2⟩
      refine ⟨h1, fun c hc => ?_⟩
      obtain ⟨b, hb, e⟩ := inms k c hc
      exact h2 ⟨b, c, e, mineAll b hb⟩
    have hSX : ∀ k, Env.X ⟨w.heap.size, S, G⟩ μ' st'.bl y.2.2 s.fresh k → s.S w.heap.size S (y.2.1.map μ') k := by
      rintro k ⟨h1, h2⟩
      refine ⟨h1, fun c hc => ?_⟩
      obtain ⟨b, hb, e⟩ := inms k c hc
      rcases h2 with h2 | ⟨b2, c2, g2, own, nf, t, l, hb2, e2, hbl2⟩
      · exact h2 ⟨b, c, e, mineAll b hb⟩
      · have := hm.apart b b2 k c c2 e e2 (mine_alive (mineAll b hb)) (by unfold alive; rw [hbl2]; trivial)
        subst this
        have := List.all_eq_true.mp hap.2 b hb
        simp only [Bool.not_eq_true', List.contains_eq_mem, decide_eq_false_iff_not] at this
        exact this hb2
    refine ⟨hR'.defers, packed us, q1, hm.below, us, y.2.1.map μ', rfl, ⟨fun k c hc => ?_, fun i j k c c' hi hj => ?_⟩, (takeRes_sound hm hSD s.res xs us y hy q2 hSX).1⟩
    · obtain ⟨b, hb, e⟩ := inms k c hc
      have hmb := mineAll b hb
      unfold mine at hmb
      split at hmb
      · next cs hbl =>
        obtain ⟨k', c', vals, ty, fz, h1, h2, _⟩ := hm.blocks b _ hbl
        rw [e] at h1; cases h1; exact h2
      · next g own nf t l hbl =>
        rcases hm.blocks b _ hbl with ⟨h1, _⟩ | ⟨k', c', vals, ty, fz, h1, h2, _⟩
        · rw [e] at h1; cases h1
        · rw [e] at h1; cases h1; exact h2
      · exact hmb.elim
    · rw [List.getElem?_map] at hi hj
      obtain ⟨b, hb, eb⟩ := Option.map_eq_some_iff.mp hi
      obtain ⟨b', hb', eb'⟩ := Option.map_eq_some_iff.mp hj
      have := hm.apart b b' k c c' eb eb' (mine_alive (mineAll b (List.mem_of_getElem? hb))) (mine_alive (mineAll b' (List.mem_of_getElem? hb')))
      subst this
      exact apartAll_inj _ hap.1 i j b hb hb'
  cases ex with
  | exit i => cases hk
  | normal =>
    obtain ⟨h1, v, h2, h3⟩ := fin hk
    exact ⟨h1, v, h2, h3⟩
  | ret =>
    obtain ⟨h1, v, h2, h3⟩ := fin hk
    exact ⟨h1, v, h2, h3⟩
end
end Go.Proofs.YtcaknaddeblecaaGreatDoor.Ev

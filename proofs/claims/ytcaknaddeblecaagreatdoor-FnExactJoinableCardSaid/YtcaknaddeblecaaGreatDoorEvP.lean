/- Calls by a contract. -/
import Derived.Test.YtcaknaddeblecaaGreatDoorEvO
namespace Go.Proofs.YtcaknaddeblecaaGreatDoor.Ev
open Go Go.RowKit
set_option linter.unusedVariables false
set_option linter.unusedSimpArgs false
variable {ρ : Type}

def ArgsHold (w : World) (S : Nat → Prop) : (ts : List Ty) → denL ts → List Value → Prop
  | [], _, [] => True
  | t :: ts, x, v :: vs => ValHolds w S t x.1 v ∧ ArgsHold w S ts x.2 vs
  | _, _, _ => False

/-- a row's elements in the block that it lies in -/
def RowAt (w : World) (S : Nat → Prop) (t : Ty) (l : List t.den) (m : Option (Nat × Nat)) : Prop :=
  (m = none ∧ l = []) ∨ ∃ k cap vals ty fz, m = some (k, cap) ∧ w.heap[k]? = some (.cells vals ty fz) ∧ unfrozen vals fz ∧ l.length ≤ cap ∧ vals.size = cap * t.size ∧ Elems w S t l vals.toList

/-- as 'Holds', with each outer slice a row that may be written -/
def OwnHolds (w : World) (S : Nat → Prop) : (t : Ty) → t.den → List Value → List (Option (Nat × Nat)) → Prop
  | .int k, n, vs, ms => ms = [] ∧ Holds w S (.int k) n vs
  | .bool, b, vs, ms => ms = [] ∧ Holds w S .bool b vs
  | .str, s, vs, ms => ms = [] ∧ Holds w S .str s vs
  | .err, b, vs, ms => ms = [] ∧ Holds w S .err b vs
  | .slice e, l, vs, ms => ∃ v m, vs = [v] ∧ ms = [m] ∧ RowVal m l.length v ∧ RowAt w S e l m
  | .pair a b, x, vs, ms => ∃ us ws m1 m2, vs = us ++ ws ∧ ms = m1 ++ m2 ∧ OwnHolds w S a x.1 us m1 ∧ OwnHolds w S b x.2 ws m2
  | .struct b, x, vs, ms => OwnHolds w S b x vs ms

def ResHold1 (w : World) (S : Nat → Prop) (t : Ty × Bool) (x : t.1.den) (v : Value) (ms : List (Option (Nat × Nat))) : Prop :=
  match t.2 with
  | true => (match t.1.isAgg with
    | true => ∃ vs : List Value, v = .agg vs.toArray ∧ OwnHolds w S t.1 x vs ms
    | false => OwnHolds w S t.1 x [v] ms)
  | false => ms = [] ∧ ValHolds w S t.1 x v

def ResHold (w : World) (S : Nat → Prop) : (ts : List (Ty × Bool)) → denR ts → List Value → List (Option (Nat × Nat)) → Prop
  | [], _, [], ms => ms = []
  | [t], x, [v], ms => ResHold1 w S t x v ms
  | t :: u :: r, x, v :: vs, ms => ∃ m1 m2, ms = m1 ++ m2 ∧ ResHold1 w S t x.1 v m1 ∧ ResHold w S (u :: r) x.2 vs m2
  | _, _, _, _ => False

def packed : List Value → Value
  | [v] => v
  | vs => .tuple vs.toArray

/-- where a call's results lie -/
def CSpec.S (s : CSpec) (B : Nat) (S : Nat → Prop) (ms : List (Option (Nat × Nat))) (k : Nat) : Prop := (B ≤ k ∨ (s.fresh = false ∧ S k)) ∧ ∀ c, some (k, c) ∉ ms

structure NewRows (B : Nat) (ms : List (Option (Nat × Nat))) : Prop where
  new : ∀ k c, some (k, c) ∈ ms → B ≤ k
  apart : ∀ (i j k c c' : Nat), ms[i]? = some (some (k, c)) → ms[j]? = some (some (k, c')) → i = j

def CSpec.post (s : CSpec) (w : World) (S : Nat → Prop) (r : denR s.res) (v : Value) (w' : World) : Prop :=
  Below w.heap.size w w' ∧ ∃ vs ms, v = packed vs ∧ NewRows w.heap.size ms ∧ ResHold w' (s.S w.heap.size S ms) s.res r vs ms

structure CSpec.ok (P : Program) (G : World → Prop) (f : FuncId) (s : CSpec) : Prop where
  fn : ∃ fn, P.funcs[f]? = some fn ∧ fn.name ≠ "runtime.NumGoroutine" ∧ fn.body.isSome = true
  calls : ∀ (w : World), G w → ∀ (S : Nat → Prop) (args : List Value) (x : denL s.params) (r : denR s.res), ArgsHold w S s.params x args → s.sem x = some r →
    Calls P f args.toArray w fun e w' => match e with | .returned v => s.post w S r v w' | _ => False

structure Cx.good (P : Program) (G : World → Prop) (cx : Cx) : Prop where
  ok : cx.ok P
  call : ∀ f s, cx.call f = some s → s.ok P G f
  goes : ∀ w w' : World, G w → Below w.heap.size w w' → G w'

section
variable {P : Program} {cx : Cx} {E : Env} {w0 w : World} {μ : Lie} {st : St} {a : Act} {o : Oper} {K : V → St → Option ρ} {r : ρ}

/-- several blocks more, at the state's end -/
def Lie.ext (μ : Lie) (n : Nat) (ms : List (Option (Nat × Nat))) : Lie := fun b => if b < n then μ b else ms.getD (b - n) none

theorem Mem.snocs {bl : List Blk} (h : Mem E w0 w μ bl) {w' : World} (hb : Below w.heap.size w w') (ext : List Blk) (ms : List (Option (Nat × Nat))) (hn : NewRows w.heap.size ms)
    (hrep : Evo w μ bl w' (μ.ext bl.length ms) (bl ++ ext) → ∀ i blk, ext[i]? = some blk → RepB E w' (μ.ext bl.length ms) (bl ++ ext) (bl.length + i) blk) :
    Mem E w0 w' (μ.ext bl.length ms) (bl ++ ext) ∧ Evo w μ bl w' (μ.ext bl.length ms) (bl ++ ext) := by
  have hget : ∀ b, b < bl.length → (bl ++ ext)[b]? = bl[b]? := fun b hlt => List.getElem?_append_left hlt
  have hμ : ∀ b, b < bl.length → μ.ext bl.length ms b = μ b := fun b hlt => if_pos hlt
  have hμn : ∀ b k c, ¬ b < bl.length → μ.ext bl.length ms b = some (k, c) → ms[b - bl.length]? = some (some (k, c)) := by
    intro b k c hlt he
    unfold Lie.ext at he
    rw [if_neg hlt, List.getD_eq_getElem?_getD] at he
    cases hm : ms[b - bl.length]? with
    | none => rw [hm] at he; cases he
    | some m => rw [hm] at he; exact congrArg some he
  have hnew : ∀ b k c, ¬ b < bl.length → μ.ext bl.length ms b = some (k, c) → w.heap.size ≤ k := fun b k c hlt he => hn.new k c (List.mem_of_getElem? (hμn b k c hlt he))
  have hown : ∀ k, Own (μ.ext bl.length ms) (bl ++ ext) k → k < w.heap.size → Own μ bl k := by
    rintro k ⟨b, c, he, hm⟩ hk
    by_cases hlt : b < bl.length
    · rw [hμ b hlt] at he
      exact ⟨b, c, he, by unfold mine at hm ⊢; rwa [hget b hlt] at hm⟩
    · have := hnew b k c hlt he; omega
  have ev : Evo w μ bl w' (μ.ext bl.length ms) (bl ++ ext) := by
    refine ⟨by simp, hb.size, fun b cs hlt hcs => ?_, fun b g own nf t l hlt hbl => ?_, fun k hk _ => hb.block k hk, hown⟩
    · rw [hget b hlt] at hcs
      exact ⟨⟨cs, hcs⟩, hμ b hlt⟩
    · rw [hget b hlt] at hbl
      exact ⟨g, own, nf, l, hbl, Nat.le_refl _, fun _ => ⟨rfl, hμ b hlt⟩⟩
  have halive : ∀ b, b < bl.length → alive (bl ++ ext) b → alive bl b := fun b hlt ha => by unfold alive at ha ⊢; rwa [hget b hlt] at ha
  refine ⟨⟨h.start, h.below.trans (hb.mono h.big), Nat.le_trans h.big hb.size, fun b blk' hbl => ?_, fun b b' k c c' h1 h2 a1 a2 => ?_⟩, ev⟩
  · by_cases hlt : b < bl.length
    · rw [hget b hlt] at hbl
      cases blk' with
      | dead => trivial
      | var cs => exact RepB.evo ev (hμ b hlt) (fun k c hk => hb.block k (h.lt (by simp [alive, hbl]) hk)) (h.blocks b _ hbl)
      | arr g own nf t l => exact RepB.evo ev (hμ b hlt) (fun k c hk => hb.block k (h.lt (by simp [alive, hbl]) hk)) (h.blocks b _ hbl)
    · rw [List.getElem?_append_right (by omega)] at hbl
      have := hrep ev _ _ hbl
      rwa [show bl.length + (b - bl.length) = b by omega] at this
  · by_cases l1 : b < bl.length <;> by_cases l2 : b' < bl.length
    · rw [hμ b l1] at h1
      rw [hμ b' l2] at h2
      exact h.apart b b' k c c' h1 h2 (halive b l1 a1) (halive b' l2 a2)
    · rw [hμ b l1] at h1
      have := hnew b' k c' l2 h2
      have := h.lt (halive b l1 a1) h1
      omega
    · rw [hμ b' l2] at h2
      have := hnew b k c l1 h1
      have := h.lt (halive b' l2 a2) h2
      omega
    · have e := hn.apart _ _ _ _ _ (hμn b k c l1 h1) (hμn b' k c' l2 h2)
      omega

theorem ownRows_length (nf : Bool) : ∀ (t : Ty) (x : t.den), (t.ownRows nf x).length = t.rows
  | .int _, _ | .bool, _ | .str, _ | .err, _ => rfl
  | .slice e, _ => rfl
  | .pair a b, x => by simp only [Ty.ownRows, List.length_append, Ty.rows, ownRows_length nf a, ownRows_length nf b]
  | .struct b, x => ownRows_length nf b x

theorem OwnHolds.rows {S : Nat → Prop} : ∀ {t : Ty} {x : t.den} {vs : List Value} {ms : List (Option (Nat × Nat))}, OwnHolds w S t x vs ms → ms.length = t.rows
  | .int _, _, _, _, h => by rw [h.1]; rfl
  | .bool, _, _, _, h => by rw [h.1]; rfl
  | .str, _, _, _, h => by rw [h.1]; rfl
  | .err, _, _, _, h => by rw [h.1]; rfl
  | .slice e, _, _, _, h => by obtain ⟨_, _, _, rfl, _⟩ := h; rfl
  | .pair a b, x, _, _, h => by obtain ⟨_, _, m1, m2, _, rfl, h1, h2⟩ := h; rw [List.length_append, h1.rows, h2.rows]; rfl
  | .struct b, x, _, _, h => OwnHolds.rows (t := b) h

/-- own rows of a result, as the caller's blocks -/
theorem own_sound {S : Nat → Prop} {nf : Bool} {bl : List Blk} (hB : ∀ k c b, μ b = some (k, c) → (∃ g own nf t l, bl[b]? = some (.arr g own nf t l)) → True) : ∀ {t : Ty} {x : t.den} {vs : List Value} {ms : List (Option (Nat × Nat))} (n : Nat), OwnHolds w S t x vs ms →
    (∀ i, i < t.rows → bl[n + i]? = (t.ownRows nf x)[i]? ∧ μ (n + i) = ms.getD i none) → RepAs E w μ bl (t.own x n) vs
  | .int _, _, _, _, n, h, _ => by
    have h := h.2
    simp only [Holds] at h; subst h; exact ⟨rfl, trivial⟩
  | .bool, _, _, _, n, h, _ => by
    have h := h.2
    simp only [Holds] at h; subst h; exact ⟨rfl, trivial⟩
  | .str, _, _, _, n, h, _ => by
    have h := h.2
    simp only [Holds] at h; subst h; exact ⟨rfl, trivial⟩
  | .err, _, _, _, n, h, _ => by
    have h' := h.2
    simp only [Holds] at h'; obtain ⟨v, rfl, h'⟩ := h'; exact ⟨h', trivial⟩
  | .slice e, l, _, _, n, h, hs => by
    obtain ⟨v, m, rfl, rfl, hr, _⟩ := h
    obtain ⟨h1, h2⟩ := hs 0 (by simp [Ty.rows])
    rw [Nat.add_zero] at h1 h2
    simp only [Ty.ownRows, List.getElem?_cons_zero] at h1
    rw [List.getD_cons_zero] at h2
    refine ⟨⟨⟨?_, ?_⟩, fun g' own nf' t' l' hb => ?_⟩, trivial⟩
    · unfold RowVal at hr
      split at hr
      · obtain ⟨rfl, _⟩ := hr; rfl
      · subst hr; rfl
    · rcases Nat.lt_or_ge n bl.length with q | q
      · exact q
      · rw [List.getElem?_eq_none q] at h1; cases h1
    · rw [h1] at hb
      cases hb
      exact ⟨Nat.le_refl _, fun _ => by rw [h2]; exact hr⟩
  | .pair a b, x, _, _, n, h, hs => by
    obtain ⟨us, ws, m1, m2, rfl, rfl, h1, h2⟩ := h
    have l1 := h1.rows
    have o1 := ownRows_length nf a x.1
    have p1 : RepAs E w μ bl (a.own x.1 n) us := own_sound (nf := nf) hB n h1 (by
      intro i hi
      obtain ⟨q1, q2⟩ := hs i (by simp only [Ty.rows]; omega)
      exact ⟨by rw [q1, Ty.ownRows, List.getElem?_append_left (by omega)], by rw [q2, List.getD_eq_getElem?_getD, List.getD_eq_getElem?_getD, List.getElem?_append_left (by omega)]⟩)
    have p2 : RepAs E w μ bl (b.own x.2 (n + a.rows)) ws := own_sound (nf := nf) hB (n + a.rows) h2 (by
      intro i hi
      obtain ⟨q1, q2⟩ := hs (a.rows + i) (by simp only [Ty.rows]; omega)
      rw [← Nat.add_assoc] at q1 q2
      exact ⟨by rw [q1, Ty.ownRows, List.getElem?_append_right (by omega), o1, Nat.add_sub_cancel_left], by rw [q2, List.getD_eq_getElem?_getD, List.getD_eq_getElem?_getD, List.getElem?_append_right (by omega), l1, Nat.add_sub_cancel_left]⟩)
    exact All2.append p1 p2
  | .struct b, x, _, _, n, h, hs => own_sound hB (t := b) n h hs

theorem own_blocks {S : Nat → Prop} {nf : Bool} {bl : List Blk} (hS : ∀ k, S k → E.D μ bl nf k) : ∀ {t : Ty} {x : t.den} {vs : List Value} {ms : List (Option (Nat × Nat))}, OwnHolds w S t x vs ms → (∀ k c, some (k, c) ∈ ms → E.B ≤ k) →
    ∀ i blk, (t.ownRows nf x)[i]? = some blk → ∀ b, μ b = ms.getD i none → RepB E w μ bl b blk
  | .int _, _, _, _, _, _, i, blk, h, _, _ => by simp [Ty.ownRows] at h
  | .bool, _, _, _, _, _, i, blk, h, _, _ => by simp [Ty.ownRows] at h
  | .str, _, _, _, _, _, i, blk, h, _, _ => by simp [Ty.ownRows] at h
  | .err, _, _, _, _, _, i, blk, h, _, _ => by simp [Ty.ownRows] at h
  | .slice e, l, _, _, h, hB, i, blk, hi, b, hb => by
    obtain ⟨v, m, rfl, rfl, _, hr⟩ := h
    cases i with
    | succ i => simp [Ty.ownRows] at hi
    | zero =>
      simp only [Ty.ownRows, List.getElem?_cons_zero, Option.some.injEq] at hi
      subst hi
      rw [List.getD_cons_zero] at hb
      rcases hr with ⟨h1, h2⟩ | ⟨k, cap, vals, ty, fz, h1, h2, h3, h4, h5, h6⟩
      · exact Or.inl ⟨by rw [hb, h1], h2⟩
      · exact Or.inr ⟨k, cap, vals, ty, fz, by rw [hb, h1], hB k cap (by rw [h1]; simp), h2, h3, h4, h5, fun j hj => (h6 j hj).weaken fun k hk _ => hS k hk⟩
  | .pair a b, x, _, _, h, hB, i, blk, hi, c, hc => by
    obtain ⟨us, ws, m1, m2, rfl, rfl, h1, h2⟩ := h
    have l1 := h1.rows
    have o1 := ownRows_length nf a x.1
    rw [Ty.ownRows] at hi
    by_cases q : i < a.rows
    · rw [List.getElem?_append_left (by omega)] at hi
      refine own_blocks hS h1 (fun k c hk => hB k c (List.mem_append_left _ hk)) i blk hi c ?_
      rw [hc, List.getD_eq_getElem?_getD, List.getD_eq_getElem?_getD, List.getElem?_append_left (by omega)]
    · rw [List.getElem?_append_right (by omega), o1] at hi
      refine own_blocks hS h2 (fun k c hk => hB k c (List.mem_append_right _ hk)) _ blk hi c ?_
      rw [hc, List.getD_eq_getElem?_getD, List.getD_eq_getElem?_getD, List.getElem?_append_right (by omega), l1]
  | .struct b, x, _, _, h, hB, i, blk, hi, c, hc => own_blocks hS (t := b) h hB i blk hi c hc

/-- one result, as the caller has it -/
def RepR (E : Env) (w : World) (μ : Lie) (bl : List Blk) (x : Bool × List A) (u : Value) : Prop :=
  match x.1 with
  | true => ∃ us : List Value, u = .agg us.toArray ∧ RepAs E w μ bl x.2 us
  | false => RepAs E w μ bl x.2 [u]

theorem toValue_rep {bl : List Blk} : ∀ {xs : List (Bool × List A)} {vs : List Value}, All2 (RepR E w μ bl) xs vs → RepV E w μ bl (toValue xs) (packed vs)
  | [], [], h => ⟨[], rfl, trivial⟩
  | [(true, cs)], [v], h => by obtain ⟨us, e, hr⟩ := h.1; exact ⟨us, e, hr⟩
  | [(false, [])], [v], h => h.1.elim
  | [(false, [c])], [v], h => RepV.at h.1.1
  | [(false, c :: d :: cs)], [v], h => h.1.2.elim
  | x :: y :: xs, [v], h => h.2.elim
  | [x], v :: u :: vs, h => h.2.elim
  | x :: y :: xs, v :: u :: vs, h => by
    have : toValue (x :: y :: xs) = .tup (x :: y :: xs) := by
      obtain ⟨b, cs⟩ := x
      cases b with
      | true => rfl
      | false => cases cs with
        | nil => rfl
        | cons c cs => cases cs <;> rfl
    rw [this]
    refine ⟨v :: u :: vs, rfl, h.imp fun p q hpq => ?_⟩
    unfold RepR at hpq
    split <;> simp_all
  | [], _ :: _, h => h.elim
  | _ :: _, [], h => h.elim
end
end Go.Proofs.YtcaknaddeblecaaGreatDoor.Ev

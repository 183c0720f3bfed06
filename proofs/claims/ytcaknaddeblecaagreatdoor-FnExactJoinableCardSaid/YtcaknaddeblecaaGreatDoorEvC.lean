/- A block is turned: what is known of a state goes on. -/
import Derived.Test.YtcaknaddeblecaaGreatDoorEvB
namespace Go.Proofs.YtcaknaddeblecaaGreatDoor.Ev
open Go Go.RowKit
set_option linter.unusedVariables false
set_option linter.unusedSimpArgs false

theorem getElem?_set_self {α : Type} {l : List α} {i : Nat} {x y : α} (h : l[i]? = some x) : (l.set i y)[i]? = some y := by
  have : i < l.length := by
    rcases Nat.lt_or_ge i l.length with g | g
    · exact g
    · rw [List.getElem?_eq_none g] at h; cases h
  simp [this]

theorem getElem?_set_ne' {α : Type} {l : List α} {i j : Nat} {y : α} (h : j ≠ i) : (l.set i y)[j]? = l[j]? := by
  rw [List.getElem?_set_ne (by omega)]

theorem Mem.turn {E : Env} {w0 w w' : World} {μ : Lie} {bl : List Blk} (h : Mem E w0 w μ bl) {b : Nat} {old blk' : Blk} (hb : bl[b]? = some old) (hm : mine bl b)
    (m' : Option (Nat × Nat)) (hos : w'.os = w.os) (htape : w'.tape = w.tape) (hout : w'.output = w.output) (hsz : w.heap.size ≤ w'.heap.size)
    (hw : ∀ j, j < w.heap.size → (∀ c, μ b ≠ some (j, c)) → w'.heap[j]? = w.heap[j]?)
    (hm' : m' = μ b ∨ ∀ k c, m' = some (k, c) → w.heap.size ≤ k)
    (hv : ∀ cs, blk' = .var cs → (∃ cs', old = .var cs') ∧ m' = μ b)
    (ha : ∀ g own nf t l, blk' = .arr g own nf t l → ∃ g' own' nf' l', old = .arr g' own' nf' t l' ∧ g' ≤ g ∧ (g' = g → l'.length = l.length ∧ m' = μ b))
    (hrep : Evo w μ bl w' (μ.put b m') (bl.set b blk') → RepB E w' (μ.put b m') (bl.set b blk') b blk') :
    Mem E w0 w' (μ.put b m') (bl.set b blk') ∧ Evo w μ bl w' (μ.put b m') (bl.set b blk') := by
  have hself := getElem?_set_self (y := blk') hb
  have hne : ∀ c, c ≠ b → (bl.set b blk')[c]? = bl[c]? := fun c hc => getElem?_set_ne' hc
  have hBk : ∀ k c, μ b = some (k, c) → E.B ≤ k := by
    intro k c hk
    have hr := h.blocks b old hb
    cases old with
    | var cs => obtain ⟨k', c', vals, ty, fz, h1, h2, _⟩ := hr; rw [hk] at h1; cases h1; exact h2
    | arr g own nf t l =>
      rcases hr with ⟨h1, _⟩ | ⟨k', c', vals, ty, fz, h1, h2, _⟩
      · rw [hk] at h1; cases h1
      · rw [hk] at h1; cases h1; exact h2
    | dead => unfold mine at hm; rw [hb] at hm; exact hm.elim
  have hbelow : Below E.B w w' := ⟨hos, htape, hout, hsz, fun k hk => hw k (Nat.lt_of_lt_of_le hk h.big) fun c hc => by have := hBk k c hc; omega⟩
  have hown : ∀ k, Own (μ.put b m') (bl.set b blk') k → k < w.heap.size → Own μ bl k := by
    rintro k ⟨d, c, hμ, hmd⟩ hk
    by_cases e : d = b
    · subst e
      rw [Lie.put_same] at hμ
      rcases hm' with rfl | hn
      · exact ⟨d, c, hμ, hm⟩
      · have := hn k c hμ; omega
    · rw [Lie.put_ne _ _ e] at hμ
      exact ⟨d, c, hμ, by unfold mine at hmd ⊢; rwa [hne d e] at hmd⟩
  have ev : Evo w μ bl w' (μ.put b m') (bl.set b blk') := by
    refine ⟨by simp, hsz, fun d cs hlt hcs => ?_, fun d g own nf t l hlt hbl => ?_, fun k hk ho => hw k hk fun c hc => ho ⟨b, c, hc, hm⟩, hown⟩
    · by_cases e : d = b
      · subst e
        rw [hself] at hcs; cases hcs
        obtain ⟨⟨cs', e1⟩, e2⟩ := hv cs rfl
        exact ⟨⟨cs', by rw [hb, e1]⟩, by rw [Lie.put_same, e2]⟩
      · rw [hne d e] at hcs
        exact ⟨⟨cs, hcs⟩, Lie.put_ne _ _ e⟩
    · by_cases e : d = b
      · subst e
        rw [hself] at hbl; cases hbl
        obtain ⟨g', own', nf', l', e1, e2, e3⟩ := ha g own nf t l rfl
        exact ⟨g', own', nf', l', by rw [hb, e1], e2, fun q => by rw [Lie.put_same]; exact e3 q⟩
      · rw [hne d e] at hbl
        exact ⟨g, own, nf, l, hbl, Nat.le_refl _, fun _ => ⟨rfl, Lie.put_ne _ _ e⟩⟩
  have haliveb : alive bl b := mine_alive hm
  have halive : ∀ c, alive (bl.set b blk') c → alive bl c := fun c hc => by
    by_cases e : c = b
    · rw [e]; exact haliveb
    · unfold alive at hc ⊢; rwa [hne c e] at hc
  have hkeep : ∀ c blk, c ≠ b → bl[c]? = some blk → alive bl c → ∀ k d, μ c = some (k, d) → w'.heap[k]? = w.heap[k]? := by
    intro c blk hc hcb hca k d hk
    refine hw k (h.lt hca hk) fun c' hbk => ?_
    exact hc (h.apart c b k d c' hk hbk hca haliveb)
  refine ⟨⟨h.start, h.below.trans hbelow, Nat.le_trans h.big hsz, fun c blk hcb => ?_, fun c c' k d d' h1 h2 a1 a2 => ?_⟩, ev⟩
  · by_cases e : c = b
    · subst e
      rw [hself] at hcb; cases hcb
      exact hrep ev
    · rw [hne c e] at hcb
      cases blk with
      | dead => trivial
      | var cs => exact RepB.evo ev (Lie.put_ne _ _ e) (hkeep c _ e hcb (by simp [alive, hcb])) (h.blocks c _ hcb)
      | arr g own nf t l => exact RepB.evo ev (Lie.put_ne _ _ e) (hkeep c _ e hcb (by simp [alive, hcb])) (h.blocks c _ hcb)
  · by_cases e : c = b <;> by_cases e' : c' = b
    · rw [e, e']
    · subst e
      rw [Lie.put_same] at h1
      rw [Lie.put_ne _ _ e'] at h2
      rcases hm' with rfl | hn
      · exact h.apart c c' k d d' h1 h2 haliveb (halive c' a2)
      · have := hn k d h1
        have := h.lt (halive c' a2) h2
        omega
    · subst e'
      rw [Lie.put_same] at h2
      rw [Lie.put_ne _ _ e] at h1
      rcases hm' with rfl | hn
      · exact h.apart c c' k d d' h1 h2 (halive c a1) haliveb
      · have := hn k d' h2
        have := h.lt (halive c a1) h1
        omega
    · rw [Lie.put_ne _ _ e] at h1
      rw [Lie.put_ne _ _ e'] at h2
      exact h.apart c c' k d d' h1 h2 (halive c a1) (halive c' a2)

theorem Lie.put_eq {μ : Lie} {b : Nat} {m : Option (Nat × Nat)} (h : m = μ b) : μ.put b m = μ := by
  funext c
  unfold Lie.put
  split
  · next e => rw [e, h]
  · rfl

/-- what the state's next one keeps of it, beside what is known of cells: locked blocks are as they were -/
structure Goes (w : World) (μ : Lie) (st : St) (w' : World) (μ' : Lie) (st' : St) : Prop where
  evo : Evo w μ st.bl w' μ' st'.bl
  lock : st'.lock = st.lock
  kept : ∀ b, b ∈ st.lock → b < st.bl.length → st'.bl[b]? = st.bl[b]?

theorem Goes.refl (w : World) (μ : Lie) (st : St) : Goes w μ st w μ st := ⟨Evo.refl _ _ _, rfl, fun _ _ _ => rfl⟩
theorem Goes.trans {w w' w'' : World} {μ μ' μ'' : Lie} {st st' st'' : St} (h : Goes w μ st w' μ' st') (h' : Goes w' μ' st' w'' μ'' st'') : Goes w μ st w'' μ'' st'' :=
  ⟨h.evo.trans h'.evo, h'.lock.trans h.lock, fun b hb hlt => (h'.kept b (by rw [h.lock]; exact hb) (Nat.lt_of_lt_of_le hlt h.evo.len)).trans (h.kept b hb hlt)⟩

/-- a state, a frame and a world that fit -/
structure Rel (E : Env) (w0 : World) (μ : Lie) (st : St) (a : Act) (w : World) : Prop where
  mem : Mem E w0 w μ st.bl
  slots : All2 (RepV E w μ st.bl) st.tmps a.tmps.toList
  defers : a.defers = []

theorem RepV.skipped {E : Env} {w : World} {μ : Lie} {bl : List Blk} : RepV E w μ bl V.skipped Go.undef := ⟨[], rfl, trivial⟩
theorem RepV.skipped_eq {E : Env} {w : World} {μ : Lie} {bl : List Blk} {v : Value} (h : RepV E w μ bl V.skipped v) : v = Go.undef := by
  obtain ⟨vs, rfl, h⟩ := h
  cases vs with
  | nil => rfl
  | cons x xs => exact h.elim

theorem RepV.undef {E : Env} {w : World} {μ : Lie} {bl : List Blk} {v : Value} : RepV E w μ bl V.undef v := trivial

theorem Rel.tmp {E : Env} {w0 w : World} {μ : Lie} {st : St} {a : Act} (h : Rel E w0 μ st a w) (t : Nat) : RepV E w μ st.bl (st.tmps.getD t V.undef) (a.tmps.getD t undef) := by
  cases hx : st.tmps[t]? with
  | none => rw [List.getD_eq_getElem?_getD, hx]; exact RepV.undef
  | some x =>
    obtain ⟨v, hv, hr⟩ := h.slots.get hx
    rw [List.getD_eq_getElem?_getD, hx]
    have : a.tmps.getD t undef = v := by
      have h2 : a.tmps[t]? = some v := by rw [← Array.getElem?_toList]; exact hv
      simp only [Array.getD_eq_getD_getElem?, h2, Option.getD_some]
    rw [this]; exact hr

theorem Rel.get {E : Env} {w0 w : World} {μ : Lie} {st : St} {a : Act} (h : Rel E w0 μ st a w) (x : Operand) : RepV E w μ st.bl (st.get x) (a.eval x) := by
  cases x with
  | tmp t => exact h.tmp t
  | const v => cases v <;> simp [St.get, ofConst, Act.eval, RepV, RepA]
  | global g => exact RepV.undef
  | func f => exact ⟨[], rfl, trivial⟩

theorem Rel.put {E : Env} {w0 w : World} {μ : Lie} {st : St} {a : Act} (h : Rel E w0 μ st a w) (d : Option Tmp) {x : V} {v : Value} (hx : RepV E w μ st.bl x v) : Rel E w0 μ (st.put d x) (a.put d v) w := by
  cases d with
  | none => exact h
  | some d =>
    refine ⟨h.mem, ?_, h.defers⟩
    show All2 _ (st.tmps.set d x) (a.tmps.setIfInBounds d v).toList
    rw [Array.toList_setIfInBounds]
    exact h.slots.set d hx

/-- the frame as it is, memory gone on -/
theorem Rel.next {E : Env} {w0 w w' : World} {μ μ' : Lie} {st : St} {a : Act} (h : Rel E w0 μ st a w) {bl' : List Blk} (hm : Mem E w0 w' μ' bl') (ev : Evo w μ st.bl w' μ' bl') : Rel E w0 μ' { st with bl := bl' } a w' :=
  ⟨hm, All2.imp (fun _ _ hx => ev.repV hx) h.slots, h.defers⟩

end Go.Proofs.YtcaknaddeblecaaGreatDoor.Ev

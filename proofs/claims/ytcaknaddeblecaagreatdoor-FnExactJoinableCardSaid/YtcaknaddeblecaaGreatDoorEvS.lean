/- Shapes: the state at a loop's head. -/
import Derived.Test.YtcaknaddeblecaaGreatDoorEvR
namespace Go.Proofs.YtcaknaddeblecaaGreatDoor.Ev
open Go Go.RowKit
set_option linter.unusedVariables false
set_option linter.unusedSimpArgs false
variable {ρ : Type}

section
variable {P : Program} {cx : Cx} {E : Env} {w0 w : World} {μ : Lie} {st : St} {a : Act}

/-- a cell at the head, out of one that is there -/
def FitA (bl' : List Blk) (gen : Nat → Nat) (n : Nat) (x y : A) : Prop :=
  y = .undef ∨ (y = x ∧ match x with
    | .int _ _ | .bool _ | .str _ | .err _ => True
    | .ptr b _ => b < n
    | .fn _ caps => ∀ p ∈ caps, p.1 < n
    | _ => False) ∨ (∃ fr fr' t l, x = .sl fr t l ∧ y = .sl fr' t l ∧ (fr' = true → fr = true)) ∨
  (∃ b g own nf t l, x = .os b g ∧ y = .os b (gen b) ∧ b < n ∧ bl'[b]? = some (.arr g own nf t l))

def KOk (n : Nat) : CellK → Prop
  | .os b => b < n
  | .ptr b _ => b < n
  | .fn _ caps => ∀ p ∈ caps, p.1 < n
  | _ => True

theorem lt_of_get {α : Type} {l : List α} {i : Nat} {x : α} (h : l[i]? = some x) : i < l.length := by
  rcases Nat.lt_or_ge i l.length with q | q
  · exact q
  · rw [List.getElem?_eq_none q] at h; cases h

theorem kind_ok (weak : Bool) (bl : List Blk) (x : A) : KOk bl.length (x.kind weak bl) := by
  cases x with
  | os b g =>
    simp only [A.kind]
    split
    · next hb =>
      cases hg : g == _ with
      | true => exact lt_of_get hb
      | false => trivial
    · trivial
  | ptr b off =>
    simp only [A.kind]
    cases h : Nat.blt b bl.length with
    | true => exact Nat.le_of_ble_eq_true h
    | false => trivial
  | fn f caps =>
    simp only [A.kind]
    cases h : caps.all fun p => Nat.blt p.1 bl.length with
    | true => intro p hp; exact Nat.le_of_ble_eq_true (List.all_eq_true.mp h p hp)
    | false => trivial
  | _ => trivial

theorem unmk_cells {bl' : List Blk} (gen : Nat → Nat) {n : Nat} {σ : Type} : ∀ (ks : List CellK) (cs : List A) (r : Option σ) (x : CellK.dens ks σ), unCells bl' ks cs r = some x → (∀ k ∈ ks, KOk n k) →
    r = some (mkCells gen ks x).2 ∧ All2 (FitA bl' gen n) cs (mkCells gen ks x).1
  | [], [], r, x, h, _ => ⟨h, trivial⟩
  | [], _ :: _, r, x, h, _ => by simp [unCells] at h
  | k :: ks, [], r, x, h, _ => by cases k <;> simp [unCells] at h
  | .drop :: ks, c :: cs, r, x, h, hk => by
    simp only [unCells] at h
    obtain ⟨h1, h2⟩ := unmk_cells gen ks cs r x h fun k hk' => hk k (List.mem_cons_of_mem _ hk')
    exact ⟨h1, Or.inl rfl, h2⟩
  | .int k :: ks, c :: cs, r, x, h, hk => by
    cases c <;> simp only [unCells, reduceCtorEq] at h
    split at h
    · next e =>
      subst e
      split at h
      · next y hy =>
        cases h
        obtain ⟨h1, h2⟩ := unmk_cells gen ks cs r y hy fun k hk' => hk k (List.mem_cons_of_mem _ hk')
        exact ⟨h1, Or.inr (Or.inl ⟨rfl, trivial⟩), h2⟩
      · cases h
    · cases h
  | .bool :: ks, c :: cs, r, x, h, hk => by
    cases c <;> simp only [unCells, reduceCtorEq] at h
    split at h
    · next y hy =>
      cases h
      obtain ⟨h1, h2⟩ := unmk_cells gen ks cs r y hy fun k hk' => hk k (List.mem_cons_of_mem _ hk')
      exact ⟨h1, Or.inr (Or.inl ⟨rfl, trivial⟩), h2⟩
    · cases h
  | .str :: ks, c :: cs, r, x, h, hk => by
    cases c <;> simp only [unCells, reduceCtorEq] at h
    split at h
    · next y hy =>
      cases h
      obtain ⟨h1, h2⟩ := unmk_cells gen ks cs r y hy fun k hk' => hk k (List.mem_cons_of_mem _ hk')
      exact ⟨h1, Or.inr (Or.inl ⟨rfl, trivial⟩), h2⟩
    · cases h
  | .err :: ks, c :: cs, r, x, h, hk => by
    cases c <;> simp only [unCells, reduceCtorEq] at h
    split at h
    · next y hy =>
      cases h
      obtain ⟨h1, h2⟩ := unmk_cells gen ks cs r y hy fun k hk' => hk k (List.mem_cons_of_mem _ hk')
      exact ⟨h1, Or.inr (Or.inl ⟨rfl, trivial⟩), h2⟩
    · cases h
  | .sl fr t :: ks, c :: cs, r, x, h, hk => by
    cases c <;> simp only [unCells, reduceCtorEq] at h
    next fr' t' l =>
    have hf := (cond_none' h).1
    replace h := (cond_none' h).2
    revert h
    split
    case h_2 => intro h; cases h
    next e he =>
    subst e
    intro h
    split at h
    · next y hy =>
      cases h
      obtain ⟨h1, h2⟩ := unmk_cells gen ks cs r y hy fun k hk' => hk k (List.mem_cons_of_mem _ hk')
      exact ⟨h1, Or.inr (Or.inr (Or.inl ⟨fr', fr, t', l, rfl, rfl, fun q => by subst q; simpa using hf⟩)), h2⟩
    · cases h
  | .os b :: ks, c :: cs, r, x, h, hk => by
    cases c <;> simp only [unCells, reduceCtorEq] at h
    next b' g =>
    have hf := (cond_none h).1
    replace h := (cond_none h).2
    have hf : b = b' := by simpa using hf
    subst hf
    split at h
    · next g' own nf t l hb =>
      have hg := (cond_none h).1
      replace h := (cond_none h).2
      have hg : g = g' := by simpa using hg
      subst hg
      obtain ⟨h1, h2⟩ := unmk_cells gen ks cs r x h fun k hk' => hk k (List.mem_cons_of_mem _ hk')
      exact ⟨h1, Or.inr (Or.inr (Or.inr ⟨b, g, own, nf, t, l, rfl, rfl, hk _ (List.mem_cons_self ..), hb⟩)), h2⟩
    · cases h
  | .ptr b off :: ks, c :: cs, r, x, h, hk => by
    cases c <;> simp only [unCells, reduceCtorEq] at h
    next b' off' =>
    have hf := (cond_none h).1
    replace h := (cond_none h).2
    simp only [Bool.and_eq_true, beq_iff_eq] at hf
    obtain ⟨rfl, rfl⟩ := hf
    obtain ⟨h1, h2⟩ := unmk_cells gen ks cs r x h fun k hk' => hk k (List.mem_cons_of_mem _ hk')
    exact ⟨h1, Or.inr (Or.inl ⟨rfl, hk _ (List.mem_cons_self ..)⟩), h2⟩
  | .fn f caps :: ks, c :: cs, r, x, h, hk => by
    cases c <;> simp only [unCells, reduceCtorEq] at h
    next f' caps' =>
    have hf := (cond_none h).1
    replace h := (cond_none h).2
    simp only [Bool.and_eq_true, beq_iff_eq, decide_eq_true_eq] at hf
    obtain ⟨rfl, rfl⟩ := hf
    obtain ⟨h1, h2⟩ := unmk_cells gen ks cs r x h fun k hk' => hk k (List.mem_cons_of_mem _ hk')
    exact ⟨h1, Or.inr (Or.inl ⟨rfl, hk _ (List.mem_cons_self ..)⟩), h2⟩

/-- a slot at the head -/
def FitV (bl' : List Blk) (gen : Nat → Nat) (n : Nat) (k : SlotK) (v0 v1 : Option V) (v2 : V) : Prop :=
  (k = .same ∧ (∀ v, v0 = some v → v2 = v)) ∨ (k ≠ .same ∧ (v2 = V.undef ∨ (∃ c1 c2, v1 = some (.at c1) ∧ v2 = .at c2 ∧ FitA bl' gen n c1 c2) ∨
  (∃ c1 c2, v1 = some (.agg c1) ∧ v2 = .agg c2 ∧ All2 (FitA bl' gen n) c1 c2)))

def SOk (n : Nat) : SlotK → Prop
  | .same => True
  | .at c => KOk n c
  | .agg cs => ∀ k ∈ cs, KOk n k

theorem headD_get {α : Type} (l : List α) (d : α) : ∀ v, l[0]? = some v → l.headD d = v := by
  intro v h
  cases l with
  | nil => cases h
  | cons x l => simpa using h

theorem tail_get {α : Type} (l : List α) (i : Nat) : l.tail[i]? = l[i + 1]? := by cases l <;> simp

theorem unmk_slots {bl' : List Blk} (gen : Nat → Nat) {n : Nat} {σ : Type} : ∀ (ks : List SlotK) (v0 vs : List V) (r : Option σ) (x : SlotK.dens ks σ), unSlots bl' ks vs r = some x → (∀ k ∈ ks, SOk n k) →
    r = some (mkSlots gen ks v0 x).2 ∧ (mkSlots gen ks v0 x).1.length = ks.length ∧ vs.length = ks.length ∧ ∀ (i : Nat) (k : SlotK), ks[i]? = some k → ∃ v2, (mkSlots gen ks v0 x).1[i]? = some v2 ∧ FitV bl' gen n k v0[i]? vs[i]? v2
  | [], v0, [], r, x, h, _ => ⟨h, rfl, rfl, fun i k hk => by simp at hk⟩
  | [], v0, _ :: _, r, x, h, _ => by simp [unSlots] at h
  | k :: ks, v0, [], r, x, h, _ => by
    cases k with
    | same => simp [unSlots] at h
    | «at» c => cases c <;> simp [unSlots] at h
    | agg cs => simp [unSlots] at h
  | .same :: ks, v0, v :: vs, r, x, h, hk => by
    simp only [unSlots] at h
    obtain ⟨h1, h2, h3, h4⟩ := unmk_slots gen ks v0.tail vs r x h fun k hk' => hk k (List.mem_cons_of_mem _ hk')
    refine ⟨h1, by simp only [mkSlots, List.length_cons, h2], by simp [h3], fun i k hi => ?_⟩
    cases i with
    | zero =>
      simp only [List.getElem?_cons_zero, Option.some.injEq] at hi
      subst hi
      exact ⟨_, rfl, Or.inl ⟨rfl, fun u hu => headD_get v0 _ u hu⟩⟩
    | succ i =>
      obtain ⟨v2, q1, q2⟩ := h4 i k (by simpa using hi)
      rw [tail_get] at q2
      exact ⟨v2, by simpa [mkSlots] using q1, by simpa using q2⟩
  | .agg cs :: ks, v0, v :: vs, r, x, h, hk => by
    cases v <;> simp only [unSlots, reduceCtorEq] at h
    next xs =>
    obtain ⟨c1, c2⟩ := unmk_cells gen cs xs _ x h (hk _ (List.mem_cons_self ..))
    obtain ⟨h1, h2, h3, h4⟩ := unmk_slots gen ks v0.tail vs r _ c1 fun k hk' => hk k (List.mem_cons_of_mem _ hk')
    refine ⟨h1, by simp only [mkSlots, List.length_cons, h2], by simp [h3], fun i k hi => ?_⟩
    cases i with
    | zero =>
      simp only [List.getElem?_cons_zero, Option.some.injEq] at hi
      subst hi
      exact ⟨_, rfl, Or.inr ⟨by simp, Or.inr (Or.inr ⟨xs, _, rfl, rfl, c2⟩)⟩⟩
    | succ i =>
      obtain ⟨v2, q1, q2⟩ := h4 i k (by simpa using hi)
      rw [tail_get] at q2
      exact ⟨v2, by simpa [mkSlots] using q1, by simpa using q2⟩
  | .at c :: ks, v0, v :: vs, r, x, h, hk => by
    have key : (∃ y, unCells bl' [c] [y] (unSlots bl' ks vs r) = some x ∧ (v = .at y ∨ c = .drop)) := by
      cases c with
      | drop => exact ⟨.undef, by simpa [unSlots, unCells] using h, Or.inr rfl⟩
      | _ => cases v <;> simp only [unSlots, reduceCtorEq] at h; exact ⟨_, h, Or.inl rfl⟩
    obtain ⟨y, hy, hv⟩ := key
    obtain ⟨c1, c2⟩ := unmk_cells gen [c] [y] _ x hy (fun k hk' => by have := List.mem_singleton.mp hk'; subst this; exact hk (.at k) (List.mem_cons_self ..))
    obtain ⟨h1, h2, h3, h4⟩ := unmk_slots gen ks v0.tail vs r _ c1 fun k hk' => hk k (List.mem_cons_of_mem _ hk')
    refine ⟨h1, by simp only [mkSlots, List.length_cons, h2], by simp [h3], fun i k hi => ?_⟩
    cases i with
    | zero =>
      simp only [List.getElem?_cons_zero, Option.some.injEq] at hi
      subst hi
      refine ⟨_, rfl, ?_⟩
      cases hm : (mkCells gen [c] x).1 with
      | nil => rw [hm] at c2; exact c2.elim
      | cons z zs =>
        rw [hm] at c2
        rcases hv with rfl | rfl
        · exact Or.inr ⟨by simp, Or.inr (Or.inl ⟨y, z, rfl, rfl, c2.1⟩)⟩
        · refine Or.inr ⟨by simp, Or.inl ?_⟩
          have : (mkCells (σ := SlotK.dens ks σ) gen [.drop] x).1 = [A.undef] := rfl
          rw [this] at hm
          cases hm
          rfl
    | succ i =>
      obtain ⟨v2, q1, q2⟩ := h4 i k (by simpa using hi)
      rw [tail_get] at q2
      exact ⟨v2, by simpa [mkSlots] using q1, by simpa using q2⟩

/-- a block at the head -/
def FitB (bl' : List Blk) (gen : Nat → Nat) (n : Nat) (k : BlkK) (b0 b1 : Option Blk) (b2 : Blk) : Prop :=
  match k with
  | .same => ∀ b, b0 = some b → b2 = b
  | .var _ => ∃ c1 c2, b1 = some (.var c1) ∧ b2 = .var c2 ∧ All2 (FitA bl' gen n) c1 c2
  | .arr grow g own nf t => ∃ g1 own1 nf1 l, b1 = some (.arr g1 own1 nf1 t l) ∧ b2 = .arr g own nf t l ∧ (own = true → own1 = true) ∧ (nf = true → nf1 = true) ∧ (grow = false → g = g1)

def BOk (n : Nat) : BlkK → Prop
  | .var cs => ∀ k ∈ cs, KOk n k
  | _ => True

theorem unmk_blks {bl' : List Blk} (gen : Nat → Nat) {n : Nat} : ∀ (ks : List BlkK) (b0 bs : List Blk) (x : BlkK.dens ks), unBlks bl' ks bs = some x → (∀ k ∈ ks, BOk n k) →
    (mkBlks gen ks b0 x).length = ks.length ∧ ks.length ≤ bs.length ∧ ∀ (i : Nat) (k : BlkK), ks[i]? = some k → ∃ b2, (mkBlks gen ks b0 x)[i]? = some b2 ∧ FitB bl' gen n k b0[i]? bs[i]? b2
  | [], b0, bs, x, h, _ => ⟨rfl, Nat.zero_le _, fun i k hk => by simp at hk⟩
  | k :: ks, b0, [], x, h, _ => by cases k <;> simp [unBlks] at h
  | .same :: ks, b0, b :: bs, x, h, hk => by
    simp only [unBlks] at h
    obtain ⟨h1, h2, h3⟩ := unmk_blks gen ks b0.tail bs x h fun k hk' => hk k (List.mem_cons_of_mem _ hk')
    refine ⟨by simp only [mkBlks, List.length_cons, h1], by simp; omega, fun i k hi => ?_⟩
    cases i with
    | zero =>
      simp only [List.getElem?_cons_zero, Option.some.injEq] at hi
      subst hi
      exact ⟨_, rfl, fun u hu => headD_get b0 _ u hu⟩
    | succ i =>
      obtain ⟨v2, q1, q2⟩ := h3 i k (by simpa using hi)
      rw [tail_get] at q2
      exact ⟨v2, by simpa [mkBlks] using q1, by simpa using q2⟩
  | .var cs :: ks, b0, b :: bs, x, h, hk => by
    cases b <;> simp only [unBlks, reduceCtorEq] at h
    next xs =>
    obtain ⟨c1, c2⟩ := unmk_cells gen cs xs _ x h (hk _ (List.mem_cons_self ..))
    obtain ⟨h1, h2, h3⟩ := unmk_blks gen ks b0.tail bs _ c1 fun k hk' => hk k (List.mem_cons_of_mem _ hk')
    refine ⟨by simp only [mkBlks, List.length_cons, h1], by simp; omega, fun i k hi => ?_⟩
    cases i with
    | zero =>
      simp only [List.getElem?_cons_zero, Option.some.injEq] at hi
      subst hi
      exact ⟨_, rfl, xs, _, rfl, rfl, c2⟩
    | succ i =>
      obtain ⟨v2, q1, q2⟩ := h3 i k (by simpa using hi)
      rw [tail_get] at q2
      exact ⟨v2, by simpa [mkBlks] using q1, by simpa using q2⟩
  | .arr grow g own nf t :: ks, b0, b :: bs, x, h, hk => by
    cases b <;> simp only [unBlks, reduceCtorEq] at h
    next g1 own1 nf1 t1 l =>
    have hf := (cond_none' h).1
    replace h := (cond_none' h).2
    simp only [Bool.or_eq_false_iff, Bool.and_eq_false_imp, Bool.not_eq_false', Bool.not_eq_true', beq_iff_eq] at hf
    obtain ⟨⟨f1, f2⟩, f3⟩ := hf
    revert h
    split
    case h_2 => intro h; cases h
    next e he =>
    subst e
    intro h
    split at h
    case h_2 => cases h
    next y hy =>
    cases h
    obtain ⟨h1, h2, h3⟩ := unmk_blks gen ks b0.tail bs y hy fun k hk' => hk k (List.mem_cons_of_mem _ hk')
    refine ⟨by simp only [mkBlks, List.length_cons, h1], by simp; omega, fun i k hi => ?_⟩
    cases i with
    | zero =>
      simp only [List.getElem?_cons_zero, Option.some.injEq] at hi
      subst hi
      exact ⟨_, rfl, g1, own1, nf1, l, rfl, rfl, f1, f2, f3⟩
    | succ i =>
      obtain ⟨v2, q1, q2⟩ := h3 i k (by simpa using hi)
      rw [tail_get] at q2
      exact ⟨v2, by simpa [mkBlks] using q1, by simpa using q2⟩

theorem slotKinds_get (kp : Keep) (ws : List Nat) (bl : List Blk) : ∀ (vs : List V) (n i : Nat) (k : SlotK), (slotKinds kp ws bl n vs)[i]? = some k → SOk bl.length k ∧ i < vs.length ∧ (k = .same ↔ n + i ∉ ws)
  | [], n, i, k, h => by simp [slotKinds] at h
  | v :: vs, n, i, k, h => by
    simp only [slotKinds] at h
    cases i with
    | succ i =>
      obtain ⟨h1, h2, h3⟩ := slotKinds_get kp ws bl vs (n + 1) i k (by simpa using h)
      exact ⟨h1, by simp; omega, by rw [h3, show n + 1 + i = n + (i + 1) by omega]⟩
    | zero =>
      simp only [List.getElem?_cons_zero, Option.some.injEq] at h
      subst h
      refine ⟨?_, by simp, ?_⟩
      · cases ws.contains n with
        | false => trivial
        | true =>
          simp only [cond_true]
          cases kp.slots.contains n with
          | false => trivial
          | true =>
            simp only [cond_true]
            cases v with
            | «at» x => exact kind_ok _ _ x
            | agg cs => intro k hk; obtain ⟨c, _, rfl⟩ := List.mem_map.mp hk; exact kind_ok _ _ c
            | tup _ => trivial
      · rw [Nat.add_zero]
        cases h : ws.contains n with
        | false =>
          simp only [cond_false, true_iff]
          simpa using h
        | true =>
          have hm : n ∈ ws := by simpa using h
          simp only [cond_true]
          constructor
          · intro e
            exfalso
            revert e
            cases kp.slots.contains n with
            | false => intro e; cases e
            | true => cases v <;> intro e <;> cases e
          · intro q; exact absurd hm q

theorem slotKinds_length (kp : Keep) (ws : List Nat) (bl : List Blk) : ∀ (vs : List V) (n : Nat), (slotKinds kp ws bl n vs).length = vs.length
  | [], _ => rfl
  | v :: vs, n => by simp only [slotKinds, List.length_cons, slotKinds_length kp ws bl vs]

/-- a block's kind and the block as it was when the loop began -/
def FromB (n : Nat) (locked : Bool) (k : BlkK) (b : Blk) : Prop :=
  match k with
  | .same => True
  | .var cs => locked = false ∧ (∃ cs0, b = .var cs0) ∧ ∀ k ∈ cs, KOk n k
  | .arr grow g own nf t => locked = false ∧ ∃ g0 own0 nf0 l0, b = .arr g0 own0 nf0 t l0 ∧ ((grow = true ∧ g = g0 + 1) ∨ (grow = false ∧ g = g0))

theorem blkKinds_get (kp : Keep) (lock : List Nat) (bl : List Blk) : ∀ (bs : List Blk) (n i : Nat) (k : BlkK), (blkKinds kp lock bl n bs)[i]? = some k → ∃ b, bs[i]? = some b ∧ FromB bl.length (lock.contains (n + i)) k b
  | [], n, i, k, h => by simp [blkKinds] at h
  | b :: bs, n, i, k, h => by
    simp only [blkKinds] at h
    cases i with
    | succ i =>
      obtain ⟨b', h1, h2⟩ := blkKinds_get kp lock bl bs (n + 1) i k (by simpa using h)
      exact ⟨b', by simpa using h1, by rwa [show n + (i + 1) = n + 1 + i by omega]⟩
    | zero =>
      simp only [List.getElem?_cons_zero, Option.some.injEq] at h
      subst h
      refine ⟨b, rfl, ?_⟩
      rw [Nat.add_zero]
      cases lock.contains n with
      | true => trivial
      | false =>
        simp only [cond_false]
        cases b with
        | dead => trivial
        | var cs =>
          simp only
          cases kp.blks.contains n with
          | false => trivial
          | true => exact ⟨rfl, ⟨cs, rfl⟩, fun k hk => by obtain ⟨c, _, rfl⟩ := List.mem_map.mp hk; exact kind_ok _ _ c⟩
        | arr g own nf t l =>
          simp only
          cases kp.grow.contains n with
          | true => exact ⟨rfl, g, own, nf, l, rfl, Or.inl ⟨rfl, rfl⟩⟩
          | false =>
            simp only [cond_false]
            cases kp.blks.contains n with
            | false => trivial
            | true => exact ⟨rfl, g, own, nf, l, rfl, Or.inr ⟨rfl, rfl⟩⟩

theorem blkKinds_length (kp : Keep) (lock : List Nat) (bl : List Blk) : ∀ (bs : List Blk) (n : Nat), (blkKinds kp lock bl n bs).length = bs.length
  | [], _ => rfl
  | b :: bs, n => by simp only [blkKinds, List.length_cons, blkKinds_length kp lock bl bs]

theorem lockOf_mem : ∀ (ks : List BlkK) (n i : Nat), ks[i]? = some .same → n + i ∈ lockOf ks n
  | [], _, _, h => by simp at h
  | k :: ks, n, 0, h => by
    simp only [List.getElem?_cons_zero, Option.some.injEq] at h
    subst h
    simp [lockOf]
  | k :: ks, n, i + 1, h => by
    have := lockOf_mem ks (n + 1) i (by simpa using h)
    rw [show n + 1 + i = n + (i + 1) by omega] at this
    cases k <;> simp only [lockOf] <;> first | exact this | exact List.mem_cons_of_mem _ this
end
end Go.Proofs.YtcaknaddeblecaaGreatDoor.Ev

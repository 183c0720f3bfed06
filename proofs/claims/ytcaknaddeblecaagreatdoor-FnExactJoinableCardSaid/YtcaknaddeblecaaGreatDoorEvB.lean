/- What it means that memory holds typed data, and that it goes on holding it. -/
import Derived.Test.YtcaknaddeblecaaGreatDoorEvA
namespace Go.Proofs.YtcaknaddeblecaaGreatDoor.Ev
open Go Go.RowKit
set_option linter.unusedVariables false
set_option linter.unusedSimpArgs false

theorem Ty.size_pos : ∀ t : Ty, 1 ≤ t.size
  | .int _ | .bool | .str | .err | .slice _ => Nat.le_refl 1
  | .pair a b => by have := Ty.size_pos a; simp only [Ty.size]; omega
  | .struct b => by have := Ty.size_pos b; simpa only [Ty.size] using this

/-- the cells vs are x, of type t; all that they lead to lies in blocks of S -/
def Holds (w : World) (S : Nat → Prop) : (t : Ty) → t.den → List Value → Prop
  | .int k, n, vs => vs = [.int k n]
  | .bool, b, vs => vs = [.bool b]
  | .str, s, vs => vs = [.string s]
  | .err, b, vs => ∃ v, vs = [v] ∧ (match b with | true => ∃ t u, v = .iface t u | false => v = .nilIface)
  | .slice e, l, vs => ∃ a cap, vs = [.slice a l.length cap] ∧ l.length ≤ cap ∧
      ∀ i (h : i < l.length), ∃ blk off cs, a = some ⟨blk, off, none⟩ ∧ S blk ∧ Holds w S e l[i] cs ∧
        ∀ j c, cs[j]? = some c → w.cell? ⟨blk, off + i * e.size + j, none⟩ = some c
  | .pair a b, x, vs => ∃ us ws, vs = us ++ ws ∧ Holds w S a x.1 us ∧ Holds w S b x.2 ws
  | .struct b, x, vs => Holds w S b x vs

theorem Holds.length {w : World} {S : Nat → Prop} : ∀ {t : Ty} {x : t.den} {vs : List Value}, Holds w S t x vs → vs.length = t.size
  | .int _, _, _, h => by simp only [Holds] at h; subst h; rfl
  | .bool, _, _, h => by simp only [Holds] at h; subst h; rfl
  | .str, _, _, h => by simp only [Holds] at h; subst h; rfl
  | .err, _, _, h => by simp only [Holds] at h; obtain ⟨v, rfl, _⟩ := h; rfl
  | .slice _, _, _, h => by simp only [Holds] at h; obtain ⟨a, cap, rfl, _⟩ := h; rfl
  | .pair a b, x, _, h => by
    simp only [Holds] at h
    obtain ⟨us, ws, rfl, h1, h2⟩ := h
    simp only [List.length_append, Ty.size, h1.length, h2.length]
  | .struct b, x, _, h => by simp only [Holds] at h; simpa only [Ty.size] using h.length (t := b)

theorem cell_block {w : World} {b o : Nat} {v : Value} (h : w.cell? ⟨b, o, none⟩ = some v) : b < w.heap.size := by
  unfold World.cell? at h
  rcases Nat.lt_or_ge b w.heap.size with g | g
  · exact g
  · rw [Array.getElem?_eq_none (by simpa using g)] at h; simp at h

theorem cell_same {w w' : World} {b : Nat} (h : w'.heap[b]? = w.heap[b]?) (o : Nat) : w'.cell? ⟨b, o, none⟩ = w.cell? ⟨b, o, none⟩ := by
  unfold World.cell?; simp only [h]

/-- what memory holds it still holds where the blocks that it lies in are as they were -/
theorem Holds.mono {w w' : World} {S S' : Nat → Prop} (hS : ∀ k, S k → k < w.heap.size → S' k ∧ w'.heap[k]? = w.heap[k]?) :
    ∀ {t : Ty} {x : t.den} {vs : List Value}, Holds w S t x vs → Holds w' S' t x vs
  | .int _, _, _, h => h
  | .bool, _, _, h => h
  | .str, _, _, h => h
  | .err, _, _, h => h
  | .slice e, l, vs, h => by
    simp only [Holds] at h ⊢
    obtain ⟨a, cap, hv, hc, he⟩ := h
    refine ⟨a, cap, hv, hc, fun i hi => ?_⟩
    obtain ⟨blk, off, cs, ha, hs, hh, hcell⟩ := he i hi
    have hlen := hh.length
    have hpos := e.size_pos
    have hblk : blk < w.heap.size := by
      cases cs with
      | nil => simp at hlen; omega
      | cons c r => exact cell_block (hcell 0 c rfl)
    have := hS blk hs hblk
    exact ⟨blk, off, cs, ha, this.1, hh.mono hS, fun j c hj => (cell_same this.2 _).trans (hcell j c hj)⟩
  | .pair a b, x, vs, h => by
    simp only [Holds] at h ⊢
    obtain ⟨us, ws, e, h1, h2⟩ := h
    exact ⟨us, ws, e, h1.mono hS, h2.mono hS⟩
  | .struct b, x, vs, h => by simp only [Holds] at h ⊢; exact Holds.mono hS (t := b) h

theorem Holds.weaken {w : World} {S S' : Nat → Prop} (hS : ∀ k, S k → k < w.heap.size → S' k) {t : Ty} {x : t.den} {vs : List Value} (h : Holds w S t x vs) : Holds w S' t x vs :=
  h.mono fun k hk hlt => ⟨hS k hk hlt, rfl⟩

/-- what leads nowhere is held whatever the blocks are -/
theorem Holds.flat {w : World} {S S' : Nat → Prop} : ∀ {t : Ty} {x : t.den} {vs : List Value}, t.flat = true → Holds w S t x vs → Holds w S' t x vs
  | .int _, _, _, _, h => h
  | .bool, _, _, _, h => h
  | .str, _, _, _, h => h
  | .err, _, _, hf, _ => by simp [Ty.flat] at hf
  | .slice e, l, vs, hf, h => by simp [Ty.flat] at hf
  | .pair a b, x, vs, hf, h => by
    simp only [Ty.flat, Bool.and_eq_true] at hf
    simp only [Holds] at h ⊢
    obtain ⟨us, ws, e, h1, h2⟩ := h
    exact ⟨us, ws, e, h1.flat hf.1, h2.flat hf.2⟩
  | .struct b, x, vs, hf, h => by simp only [Ty.flat] at hf; simp only [Holds] at h ⊢; exact Holds.flat (t := b) hf h

def All2 {α β : Type} (R : α → β → Prop) : List α → List β → Prop
  | [], [] => True
  | a :: as, b :: bs => R a b ∧ All2 R as bs
  | _, _ => False

theorem All2.imp {α β : Type} {R R' : α → β → Prop} (h : ∀ a b, R a b → R' a b) : ∀ {as : List α} {bs : List β}, All2 R as bs → All2 R' as bs
  | [], [], _ => trivial
  | _ :: _, _ :: _, hr => ⟨h _ _ hr.1, All2.imp h hr.2⟩
  | [], _ :: _, hr => hr.elim
  | _ :: _, [], hr => hr.elim

theorem All2.length {α β : Type} {R : α → β → Prop} : ∀ {as : List α} {bs : List β}, All2 R as bs → as.length = bs.length
  | [], [], _ => rfl
  | _ :: _, _ :: _, hr => congrArg (· + 1) (All2.length hr.2)
  | [], _ :: _, hr => hr.elim
  | _ :: _, [], hr => hr.elim

theorem All2.get {α β : Type} {R : α → β → Prop} : ∀ {as : List α} {bs : List β}, All2 R as bs → ∀ {i : Nat} {a : α}, as[i]? = some a → ∃ b, bs[i]? = some b ∧ R a b
  | [], [], _, i, a, h => by simp at h
  | x :: as, y :: bs, hr, 0, a, h => by simp at h; subst h; exact ⟨y, rfl, hr.1⟩
  | x :: as, y :: bs, hr, i + 1, a, h => by simp at h; simpa using All2.get hr.2 h
  | [], _ :: _, hr, _, _, _ => hr.elim
  | _ :: _, [], hr, _, _, _ => hr.elim

theorem All2.append {α β : Type} {R : α → β → Prop} : ∀ {as : List α} {bs : List β} {as' : List α} {bs' : List β}, All2 R as bs → All2 R as' bs' → All2 R (as ++ as') (bs ++ bs')
  | [], [], _, _, _, h => h
  | _ :: _, _ :: _, _, _, h, h' => ⟨h.1, All2.append h.2 h'⟩
  | [], _ :: _, _, _, h, _ => h.elim
  | _ :: _, [], _, _, h, _ => h.elim

theorem All2.drop {α β : Type} {R : α → β → Prop} : ∀ {as : List α} {bs : List β} (n : Nat), All2 R as bs → All2 R (as.drop n) (bs.drop n)
  | _, _, 0, h => by simpa using h
  | [], [], n + 1, h => by simpa using h
  | _ :: _, _ :: _, n + 1, h => by simpa using All2.drop n h.2
  | [], _ :: _, _ + 1, h => h.elim
  | _ :: _, [], _ + 1, h => h.elim

theorem All2.take {α β : Type} {R : α → β → Prop} : ∀ {as : List α} {bs : List β} (n : Nat), All2 R as bs → All2 R (as.take n) (bs.take n)
  | _, _, 0, h => by simp [All2]
  | [], [], n + 1, h => by simp [All2]
  | _ :: _, _ :: _, n + 1, h => ⟨h.1, All2.take n h.2⟩
  | [], _ :: _, _ + 1, h => h.elim
  | _ :: _, [], _ + 1, h => h.elim

theorem All2.set {α β : Type} {R : α → β → Prop} : ∀ {as : List α} {bs : List β} (n : Nat) {a : α} {b : β}, All2 R as bs → R a b → All2 R (as.set n a) (bs.set n b)
  | [], [], _, _, _, h, _ => by simpa using h
  | _ :: _, _ :: _, 0, _, _, h, hr => ⟨hr, h.2⟩
  | _ :: _, _ :: _, n + 1, _, _, h, hr => ⟨h.1, All2.set n h.2 hr⟩
  | [], _ :: _, _, _, _, h, _ => h.elim
  | _ :: _, [], _, _, _, h, _ => h.elim

theorem All2.of_get {α β : Type} {R : α → β → Prop} : ∀ {as : List α} {bs : List β}, as.length = bs.length → (∀ (i : Nat) (a : α) (b : β), as[i]? = some a → bs[i]? = some b → R a b) → All2 R as bs
  | [], [], _, _ => trivial
  | a :: as, b :: bs, hl, h => ⟨h 0 a b rfl rfl, All2.of_get (by simpa using hl) fun i x y hx hy => h (i + 1) x y (by simpa using hx) (by simpa using hy)⟩
  | [], _ :: _, hl, _ => by simp at hl
  | _ :: _, [], hl, _ => by simp at hl

/-! ### the abstract state and the world -/

/-- where an abstract block lies: its block, and (of a row) its capacity -/
abbrev Lie := Nat → Option (Nat × Nat)

def mine (bl : List Blk) (b : Nat) : Prop :=
  match bl[b]? with
  | some (.var _) => True
  | some (.arr _ own _ _ _) => own = true
  | _ => False

/-- block k is one that the state may write -/
def Own (μ : Lie) (bl : List Blk) (k : Nat) : Prop := ∃ b c, μ b = some (k, c) ∧ mine bl b

/-- G: what is known of every world of the call -/
structure Env where
  B : Nat
  S0 : Nat → Prop
  G : World → Prop

/-- blocks to which what is only read may lead -/
def Env.D (E : Env) (μ : Lie) (bl : List Blk) (fr : Bool) (k : Nat) : Prop := (E.B ≤ k ∨ (fr = false ∧ E.S0 k)) ∧ ¬ Own μ bl k

def isPtr (μ : Lie) (bl : List Blk) (b off : Nat) (v : Value) : Prop :=
  (v.oneCell' = true ∧ b < bl.length) ∧ ∀ cs, bl[b]? = some (.var cs) → ∃ k c, μ b = some (k, c) ∧ v = .pointer (some ⟨k, off, none⟩)

def RowVal (m : Option (Nat × Nat)) (n : Nat) (v : Value) : Prop :=
  match m with
  | none => v = .slice none 0 0 ∧ n = 0
  | some (k, cap) => v = .slice (some ⟨k, 0, none⟩) n cap

def RepA (E : Env) (w : World) (μ : Lie) (bl : List Blk) : A → Value → Prop
  | .undef, v => v.oneCell' = true
  | .int k n, v => v = .int k n
  | .bool b, v => v = .bool b
  | .str s, v => v = .string s
  | .err b, v => match b with | true => ∃ t u, v = .iface t u | false => v = .nilIface
  | .sl fr t l, v => Holds w (E.D μ bl fr) (.slice t) l [v]
  | .os b g, v => (v.oneCell' = true ∧ b < bl.length) ∧ ∀ g' own nf t l, bl[b]? = some (.arr g' own nf t l) → g ≤ g' ∧ (g = g' → RowVal (μ b) l.length v)
  | .ptr b off, v => isPtr μ bl b off v
  | .ep b g i off, v => (v.oneCell' = true ∧ b < bl.length) ∧ ∀ g' own nf t l, bl[b]? = some (.arr g' own nf t l) → g ≤ g' ∧ (g = g' → i < l.length ∧ ∃ k c, μ b = some (k, c) ∧ v = .pointer (some ⟨k, i * t.size + off, none⟩))
  | .pp fr t x off, v => ∃ blk base cs, v = .pointer (some ⟨blk, base + off, none⟩) ∧ E.D μ bl fr blk ∧ Holds w (E.D μ bl fr) t x cs ∧
      ∀ j c, cs[j]? = some c → w.cell? ⟨blk, base + j, none⟩ = some c
  | .fn f caps, v => ∃ vs : List Value, v = .func (.func f) #[] vs.toArray ∧ All2 (fun (p : Nat × Nat) u => isPtr μ bl p.1 p.2 u) caps vs

def RepAs (E : Env) (w : World) (μ : Lie) (bl : List Blk) (cs : List A) (vs : List Value) : Prop := All2 (RepA E w μ bl) cs vs

def RepV (E : Env) (w : World) (μ : Lie) (bl : List Blk) : V → Value → Prop
  | .at .undef, _ => True
  | .at x, v => RepA E w μ bl x v
  | .agg cs, v => ∃ vs : List Value, v = .agg vs.toArray ∧ RepAs E w μ bl cs vs
  | .tup xs, v => ∃ vs : List Value, v = .tuple vs.toArray ∧ All2 (fun (x : Bool × List A) u => match x.1 with
      | true => ∃ us : List Value, u = .agg us.toArray ∧ RepAs E w μ bl x.2 us
      | false => RepAs E w μ bl x.2 [u]) xs vs

def unfrozen (vals : Array Value) (fz : Nat × Nat) : Prop := ∀ i, i < vals.size → ¬ (fz.1 ≤ i ∧ i < fz.2)

/-- the elements of a row in a block's cells -/
def Elems (w : World) (S : Nat → Prop) (t : Ty) (l : List t.den) (vals : List Value) : Prop :=
  ∀ i (h : i < l.length), Holds w S t l[i] ((vals.drop (i * t.size)).take t.size)

def RepB (E : Env) (w : World) (μ : Lie) (bl : List Blk) (b : Nat) : Blk → Prop
  | .var cs => ∃ k c vals ty fz, μ b = some (k, c) ∧ E.B ≤ k ∧ w.heap[k]? = some (.cells vals ty fz) ∧ unfrozen vals fz ∧ RepAs E w μ bl cs vals.toList
  | .arr g own nf t l => (μ b = none ∧ l = []) ∨ ∃ k cap vals ty fz, μ b = some (k, cap) ∧ E.B ≤ k ∧ w.heap[k]? = some (.cells vals ty fz) ∧ unfrozen vals fz ∧
      l.length ≤ cap ∧ vals.size = cap * t.size ∧ Elems w (E.D μ bl nf) t l vals.toList
  | .dead => True

def alive (bl : List Blk) (b : Nat) : Prop :=
  match bl[b]? with
  | some (.var _) => True
  | some (.arr _ _ _ _ _) => True
  | _ => False

/-- the memory of a state -/
structure Mem (E : Env) (w0 w : World) (μ : Lie) (bl : List Blk) : Prop where
  start : ∀ w', Below E.B w0 w' → E.G w'
  below : Below E.B w0 w
  big : E.B ≤ w.heap.size
  blocks : ∀ b blk, bl[b]? = some blk → RepB E w μ bl b blk
  apart : ∀ b b' k c c', μ b = some (k, c) → μ b' = some (k, c') → alive bl b → alive bl b' → b = b'

theorem alive_lt {bl : List Blk} {b : Nat} (h : alive bl b) : b < bl.length := by
  rcases Nat.lt_or_ge b bl.length with g | g
  · exact g
  · unfold alive at h; rw [List.getElem?_eq_none g] at h; exact h.elim

theorem mine_alive {bl : List Blk} {b : Nat} (h : mine bl b) : alive bl b := by
  unfold mine at h; unfold alive
  split <;> simp_all

theorem RepV.at {E : Env} {w : World} {μ : Lie} {bl : List Blk} {x : A} {v : Value} (h : RepA E w μ bl x v) : RepV E w μ bl (.at x) v := by
  cases x <;> first | trivial | exact h

/-- what a cell holds is one cell -/
theorem RepA.one {E : Env} {w : World} {μ : Lie} {bl : List Blk} : ∀ {x : A} {v : Value}, RepA E w μ bl x v → v.oneCell' = true
  | .undef, _, h => h
  | .int _ _, _, h => by simp only [RepA] at h; subst h; rfl
  | .bool _, _, h => by simp only [RepA] at h; subst h; rfl
  | .str _, _, h => by simp only [RepA] at h; subst h; rfl
  | .err b, _, h => by
    cases b with
    | true => obtain ⟨t, u, rfl⟩ := h; rfl
    | false => have h : _ = Value.nilIface := h; subst h; rfl
  | .sl fr t l, _, h => by simp only [RepA, Holds] at h; obtain ⟨ad, cap, e, _⟩ := h; simp only [List.cons.injEq, and_true] at e; subst e; rfl
  | .os _ _, _, h => h.1.1
  | .ptr _ _, _, h => h.1.1
  | .ep _ _ _ _, _, h => h.1.1
  | .pp fr t x off, _, h => by obtain ⟨_, _, _, rfl, _⟩ := h; rfl
  | .fn f caps, _, h => by obtain ⟨_, rfl, _⟩ := h; rfl

/-- how a state may go on: what was known of a cell is known still -/
structure Evo (w : World) (μ : Lie) (bl : List Blk) (w' : World) (μ' : Lie) (bl' : List Blk) : Prop where
  len : bl.length ≤ bl'.length
  size : w.heap.size ≤ w'.heap.size
  var : ∀ b cs, b < bl.length → bl'[b]? = some (.var cs) → (∃ cs', bl[b]? = some (.var cs')) ∧ μ' b = μ b
  arr : ∀ b g own nf t l, b < bl.length → bl'[b]? = some (.arr g own nf t l) →
    ∃ g' own' nf' l', bl[b]? = some (.arr g' own' nf' t l') ∧ g' ≤ g ∧ (g' = g → l'.length = l.length ∧ μ' b = μ b)
  heap : ∀ k, k < w.heap.size → ¬ Own μ bl k → w'.heap[k]? = w.heap[k]?
  own : ∀ k, Own μ' bl' k → k < w.heap.size → Own μ bl k

theorem Evo.refl (w : World) (μ : Lie) (bl : List Blk) : Evo w μ bl w μ bl :=
  ⟨Nat.le_refl _, Nat.le_refl _, fun _ cs _ h => ⟨⟨cs, h⟩, rfl⟩, fun _ g own nf t l _ h => ⟨g, own, nf, l, h, Nat.le_refl _, fun _ => ⟨rfl, rfl⟩⟩, fun _ _ _ => rfl, fun _ h _ => h⟩

theorem Evo.D {E : Env} {w w' : World} {μ μ' : Lie} {bl bl' : List Blk} (h : Evo w μ bl w' μ' bl') {fr : Bool} :
    ∀ k, E.D μ bl fr k → k < w.heap.size → E.D μ' bl' fr k ∧ w'.heap[k]? = w.heap[k]? :=
  fun k hk hlt => ⟨⟨hk.1, fun ho => hk.2 (h.own k ho hlt)⟩, h.heap k hlt hk.2⟩

theorem Evo.isPtr {w w' : World} {μ μ' : Lie} {bl bl' : List Blk} (h : Evo w μ bl w' μ' bl') {b off : Nat} {v : Value} (hp : isPtr μ bl b off v) : isPtr μ' bl' b off v := by
  refine ⟨⟨hp.1.1, Nat.lt_of_lt_of_le hp.1.2 h.len⟩, fun cs hcs => ?_⟩
  obtain ⟨⟨cs', hcs'⟩, hμ⟩ := h.var b cs hp.1.2 hcs
  rw [hμ]; exact hp.2 cs' hcs'

theorem Evo.rep {E : Env} {w w' : World} {μ μ' : Lie} {bl bl' : List Blk} (h : Evo w μ bl w' μ' bl') : ∀ {x : A} {v : Value}, RepA E w μ bl x v → RepA E w' μ' bl' x v
  | .undef, _, hr => hr
  | .int _ _, _, hr => hr
  | .bool _, _, hr => hr
  | .str _, _, hr => hr
  | .err _, _, hr => hr
  | .sl fr t l, v, hr => Holds.mono (h.D (E := E)) (t := .slice t) hr
  | .os b g, v, hr => by
    refine ⟨⟨hr.1.1, Nat.lt_of_lt_of_le hr.1.2 h.len⟩, fun g' own nf t l hb => ?_⟩
    obtain ⟨g0, own0, nf0, l0, hb0, hg, he⟩ := h.arr b g' own nf t l hr.1.2 hb
    obtain ⟨h1, h2⟩ := hr.2 _ _ _ _ _ hb0
    refine ⟨Nat.le_trans h1 hg, fun e => ?_⟩
    subst e
    obtain rfl : g = g0 := by omega
    obtain ⟨e1, e2⟩ := he rfl
    rw [e2, ← e1]; exact h2 rfl
  | .ptr b off, v, hr => h.isPtr hr
  | .ep b g i off, v, hr => by
    refine ⟨⟨hr.1.1, Nat.lt_of_lt_of_le hr.1.2 h.len⟩, fun g' own nf t l hb => ?_⟩
    obtain ⟨g0, own0, nf0, l0, hb0, hg, he⟩ := h.arr b g' own nf t l hr.1.2 hb
    obtain ⟨h1, h2⟩ := hr.2 _ _ _ _ _ hb0
    refine ⟨Nat.le_trans h1 hg, fun e => ?_⟩
    subst e
    obtain rfl : g = g0 := by omega
    obtain ⟨e1, e2⟩ := he rfl
    rw [e2, ← e1]; exact h2 rfl
  | .pp fr t x off, v, hr => by
    obtain ⟨blk, base, cs, hv, hd, hh, hc⟩ := hr
    have hlen := hh.length
    have hpos := t.size_pos
    have hblk : blk < w.heap.size := by
      cases cs with
      | nil => simp at hlen; omega
      | cons c r => exact cell_block (hc 0 c rfl)
    have hD := h.D (E := E) (fr := fr) blk hd hblk
    exact ⟨blk, base, cs, hv, hD.1, hh.mono (h.D (E := E)), fun j c hj => (cell_same hD.2 _).trans (hc j c hj)⟩
  | .fn f caps, v, hr => by
    obtain ⟨vs, hv, hc⟩ := hr
    exact ⟨vs, hv, hc.imp fun _ _ hp => h.isPtr hp⟩

theorem Evo.trans {w w' w'' : World} {μ μ' μ'' : Lie} {bl bl' bl'' : List Blk} (h : Evo w μ bl w' μ' bl') (h' : Evo w' μ' bl' w'' μ'' bl'') : Evo w μ bl w'' μ'' bl'' := by
  refine ⟨Nat.le_trans h.len h'.len, Nat.le_trans h.size h'.size, fun b cs hb hcs => ?_, fun b g own nf t l hb hbl => ?_, fun k hk ho => ?_, fun k ho hk => h.own k (h'.own k ho (Nat.lt_of_lt_of_le hk h.size)) hk⟩
  · obtain ⟨⟨c1, h1⟩, e1⟩ := h'.var b cs (Nat.lt_of_lt_of_le hb h.len) hcs
    obtain ⟨h2, e2⟩ := h.var b c1 hb h1
    exact ⟨h2, e1.trans e2⟩
  · obtain ⟨g1, own1, nf1, l1, h1, hg1, e1⟩ := h'.arr b g own nf t l (Nat.lt_of_lt_of_le hb h.len) hbl
    obtain ⟨g2, own2, nf2, l2, h2, hg2, e2⟩ := h.arr b g1 own1 nf1 t l1 hb h1
    refine ⟨g2, own2, nf2, l2, h2, Nat.le_trans hg2 hg1, fun e => ?_⟩
    obtain rfl : g2 = g1 := by omega
    obtain ⟨a1, b1⟩ := e1 e
    obtain ⟨a2, b2⟩ := e2 rfl
    exact ⟨a2.trans a1, b1.trans b2⟩
  · exact (h'.heap k (Nat.lt_of_lt_of_le hk h.size) fun hx => ho (h.own k hx hk)).trans (h.heap k hk ho)

theorem Evo.reps {E : Env} {w w' : World} {μ μ' : Lie} {bl bl' : List Blk} (h : Evo w μ bl w' μ' bl') {cs : List A} {vs : List Value} (hr : RepAs E w μ bl cs vs) : RepAs E w' μ' bl' cs vs :=
  All2.imp (fun _ _ hx => h.rep hx) hr

theorem Evo.repV {E : Env} {w w' : World} {μ μ' : Lie} {bl bl' : List Blk} (h : Evo w μ bl w' μ' bl') : ∀ {x : V} {v : Value}, RepV E w μ bl x v → RepV E w' μ' bl' x v
  | .at .undef, v, hr => trivial
  | .at (.int _ _), _, hr => hr
  | .at (.bool _), _, hr => hr
  | .at (.str _), _, hr => hr
  | .at (.err _), _, hr => hr
  | .at (.sl fr t l), v, hr => h.rep (E := E) (x := .sl fr t l) hr
  | .at (.os b g), v, hr => h.rep (E := E) (x := .os b g) hr
  | .at (.ptr b off), v, hr => h.rep (E := E) (x := .ptr b off) hr
  | .at (.ep b g i off), v, hr => h.rep (E := E) (x := .ep b g i off) hr
  | .at (.pp fr t x off), v, hr => h.rep (E := E) (x := .pp fr t x off) hr
  | .at (.fn f caps), v, hr => h.rep (E := E) (x := .fn f caps) hr
  | .agg cs, v, hr => by obtain ⟨vs, e, hc⟩ := hr; exact ⟨vs, e, h.reps hc⟩
  | .tup xs, v, hr => by
    obtain ⟨vs, e, hc⟩ := hr
    refine ⟨vs, e, All2.imp (fun x u hx => ?_) hc⟩
    obtain ⟨ag, cs⟩ := x
    cases ag with
    | true => obtain ⟨us, e, hu⟩ := hx; exact ⟨us, e, h.reps hu⟩
    | false => exact h.reps hx

theorem Elems.mono {w w' : World} {S S' : Nat → Prop} (hS : ∀ k, S k → k < w.heap.size → S' k ∧ w'.heap[k]? = w.heap[k]?) {t : Ty} {l : List t.den} {vals : List Value} (h : Elems w S t l vals) : Elems w' S' t l vals :=
  fun i hi => (h i hi).mono hS

/-- a block that is as it was is held as it was -/
theorem RepB.evo {E : Env} {w w' : World} {μ μ' : Lie} {bl bl' : List Blk} (h : Evo w μ bl w' μ' bl') {b : Nat} {blk : Blk} (hμ : μ' b = μ b)
    (hk : ∀ k c, μ b = some (k, c) → w'.heap[k]? = w.heap[k]?) (hr : RepB E w μ bl b blk) : RepB E w' μ' bl' b blk := by
  cases blk with
  | var cs =>
    obtain ⟨k, c, vals, ty, fz, h1, h2, h3, h4, h5⟩ := hr
    exact ⟨k, c, vals, ty, fz, hμ.trans h1, h2, (hk k c h1).trans h3, h4, h.reps h5⟩
  | arr g own nf t l =>
    rcases hr with ⟨h1, h2⟩ | ⟨k, cap, vals, ty, fz, h1, h2, h3, h4, h5, h6, h7⟩
    · exact Or.inl ⟨hμ.trans h1, h2⟩
    · exact Or.inr ⟨k, cap, vals, ty, fz, hμ.trans h1, h2, (hk k cap h1).trans h3, h4, h5, h6, h7.mono (h.D (E := E))⟩
  | dead => trivial

/-- where a block lies: its number is one of the heap's -/
theorem Mem.lt {E : Env} {w0 w : World} {μ : Lie} {bl : List Blk} (h : Mem E w0 w μ bl) {b k c : Nat} (ha : alive bl b) (hμ : μ b = some (k, c)) : k < w.heap.size := by
  unfold alive at ha
  split at ha
  · next cs hb =>
    obtain ⟨k', c', vals, ty, fz, h1, h2, h3, _⟩ := h.blocks b _ hb
    rw [hμ] at h1; cases h1
    rcases Nat.lt_or_ge k w.heap.size with g | g
    · exact g
    · rw [Array.getElem?_eq_none (by simpa using g)] at h3; cases h3
  · next g own nf t l hb =>
    rcases h.blocks b _ hb with ⟨h1, _⟩ | ⟨k', c', vals, ty, fz, h1, h2, h3, _⟩
    · rw [hμ] at h1; cases h1
    · rw [hμ] at h1; cases h1
      rcases Nat.lt_or_ge k w.heap.size with g | g
      · exact g
      · rw [Array.getElem?_eq_none (by simpa using g)] at h3; cases h3
  · exact ha.elim

theorem Mem.own_lt {E : Env} {w0 w : World} {μ : Lie} {bl : List Blk} (h : Mem E w0 w μ bl) {k : Nat} (ho : Own μ bl k) : k < w.heap.size :=
  let ⟨_, _, hμ, hm⟩ := ho; h.lt (mine_alive hm) hμ

/-- the world goes on by itself: nothing of what was there is turned -/
theorem Mem.world {E : Env} {w0 w w' : World} {μ : Lie} {bl : List Blk} (h : Mem E w0 w μ bl) (hb : Below w.heap.size w w') : Mem E w0 w' μ bl ∧ Evo w μ bl w' μ bl := by
  have hsame : ∀ k, k < w.heap.size → w'.heap[k]? = w.heap[k]? := hb.block
  have ev : Evo w μ bl w' μ bl := ⟨Nat.le_refl _, hb.size, fun _ cs _ h => ⟨⟨cs, h⟩, rfl⟩, fun _ g own nf t l _ h => ⟨g, own, nf, l, h, Nat.le_refl _, fun _ => ⟨rfl, rfl⟩⟩, fun k hk _ => hsame k hk, fun _ h _ => h⟩
  refine ⟨⟨h.start, h.below.trans (hb.mono h.big), Nat.le_trans h.big hb.size, fun b blk hbl => ?_, h.apart⟩, ev⟩
  cases blk with
  | dead => trivial
  | var cs => exact RepB.evo ev rfl (fun k c hk => hsame k (h.lt (by simp [alive, hbl]) hk)) (h.blocks b _ hbl)
  | arr g own nf t l => exact RepB.evo ev rfl (fun k c hk => hsame k (h.lt (by simp [alive, hbl]) hk)) (h.blocks b _ hbl)

def Lie.put (μ : Lie) (b : Nat) (m : Option (Nat × Nat)) : Lie := fun c => if c = b then m else μ c

theorem Lie.put_same (μ : Lie) (b : Nat) (m : Option (Nat × Nat)) : Lie.put μ b m b = m := if_pos rfl
theorem Lie.put_ne (μ : Lie) {b c : Nat} (m : Option (Nat × Nat)) (h : c ≠ b) : Lie.put μ b m c = μ c := if_neg h

theorem getElem?_snoc {α : Type} (l : List α) (x : α) (i : Nat) : (l ++ [x])[i]? = if i < l.length then l[i]? else if i = l.length then some x else none := by
  rw [List.getElem?_append]
  split
  · rfl
  · rename_i h
    split
    · rename_i e; subst e; simp
    · rename_i e
      have : i - l.length ≠ 0 := by omega
      cases hc : i - l.length with
      | zero => omega
      | succ n => simp

/-- a block more, at the state's end -/
theorem Mem.snoc {E : Env} {w0 w : World} {μ : Lie} {bl : List Blk} (h : Mem E w0 w μ bl) {w' : World} (hb : Below w.heap.size w w') (blk : Blk) (m : Option (Nat × Nat))
    (hnew : ∀ k c, m = some (k, c) → w.heap.size ≤ k)
    (hrep : Evo w μ bl w' (μ.put bl.length m) (bl ++ [blk]) → RepB E w' (μ.put bl.length m) (bl ++ [blk]) bl.length blk) :
    Mem E w0 w' (μ.put bl.length m) (bl ++ [blk]) ∧ Evo w μ bl w' (μ.put bl.length m) (bl ++ [blk]) := by
  have hget : ∀ b, b < bl.length → (bl ++ [blk])[b]? = bl[b]? := fun b hlt => by rw [getElem?_snoc, if_pos hlt]
  have hown : ∀ k, Own (μ.put bl.length m) (bl ++ [blk]) k → k < w.heap.size → Own μ bl k := by
    rintro k ⟨b, c, hμ, hm⟩ hk
    by_cases e : b = bl.length
    · subst e
      rw [Lie.put_same] at hμ
      have := hnew k c hμ
      omega
    · rw [Lie.put_ne _ _ e] at hμ
      refine ⟨b, c, hμ, ?_⟩
      have hlt : b < bl.length := by
        have := alive_lt (mine_alive hm)
        simp only [List.length_append, List.length_cons, List.length_nil] at this
        omega
      unfold mine at hm ⊢
      rwa [hget b hlt] at hm
  have ev : Evo w μ bl w' (μ.put bl.length m) (bl ++ [blk]) := by
    refine ⟨by simp, hb.size, fun b cs hlt hcs => ?_, fun b g own nf t l hlt hbl => ?_, fun k hk _ => hb.block k hk, hown⟩
    · rw [hget b hlt] at hcs
      exact ⟨⟨cs, hcs⟩, Lie.put_ne _ _ (by omega)⟩
    · rw [hget b hlt] at hbl
      exact ⟨g, own, nf, l, hbl, Nat.le_refl _, fun _ => ⟨rfl, Lie.put_ne _ _ (by omega)⟩⟩
  have halive : ∀ b, b < bl.length → alive (bl ++ [blk]) b → alive bl b := fun b hlt ha => by unfold alive at ha ⊢; rwa [hget b hlt] at ha
  have hltb : ∀ b, alive (bl ++ [blk]) b → b < bl.length ∨ b = bl.length := fun b ha => by
    have := alive_lt ha
    simp only [List.length_append, List.length_cons, List.length_nil] at this
    omega
  refine ⟨⟨h.start, h.below.trans (hb.mono h.big), Nat.le_trans h.big hb.size, fun b blk' hbl => ?_, fun b b' k c c' h1 h2 a1 a2 => ?_⟩, ev⟩
  · rw [getElem?_snoc] at hbl
    split at hbl
    · rename_i hlt
      cases blk' with
      | dead => trivial
      | var cs => exact RepB.evo ev (Lie.put_ne _ _ (by omega)) (fun k c hk => hb.block k (h.lt (by simp [alive, hbl]) hk)) (h.blocks b _ hbl)
      | arr g own nf t l => exact RepB.evo ev (Lie.put_ne _ _ (by omega)) (fun k c hk => hb.block k (h.lt (by simp [alive, hbl]) hk)) (h.blocks b _ hbl)
    · split at hbl
      · rename_i e; subst e; cases hbl; exact hrep ev
      · cases hbl
  · rcases hltb b a1 with l1 | e1 <;> rcases hltb b' a2 with l2 | e2
    · rw [Lie.put_ne _ _ (by omega)] at h1 h2
      exact h.apart b b' k c c' h1 h2 (halive b l1 a1) (halive b' l2 a2)
    · subst e2
      rw [Lie.put_ne _ _ (by omega)] at h1
      rw [Lie.put_same] at h2
      have := hnew k c' h2
      have := h.lt (halive b l1 a1) h1
      omega
    · subst e1
      rw [Lie.put_ne _ _ (by omega)] at h2
      rw [Lie.put_same] at h1
      have := hnew k c h1
      have := h.lt (halive b' l2 a2) h2
      omega
    · omega
end Go.Proofs.YtcaknaddeblecaaGreatDoor.Ev

/- What the table of types says, and: what only computes comes to what the evaluator says. -/
import Derived.Test.YtcaknaddeblecaaGreatDoorEvC
namespace Go.Proofs.YtcaknaddeblecaaGreatDoor.Ev
open Go Go.RowKit
set_option linter.unusedVariables false
set_option linter.unusedSimpArgs false

/-! ### types -/
def zeroVals : Ty → List Value
  | .int k => [.int k 0]
  | .bool => [.bool false]
  | .str => [.string ⟨#[]⟩]
  | .err => [.nilIface]
  | .slice _ => [.slice none 0 0]
  | .pair a b => zeroVals a ++ zeroVals b
  | .struct b => zeroVals b

def Basic (P : Program) (t : TypeId) (size : Nat) (zero : Value) : Prop :=
  ∃ i, P.info? t = some i ∧ i.size = size ∧ i.bytes ≤ 4096 ∧ i.zero = some zero

def lastField (f : TypeId → Prop) (fs : List Field) (off : Nat) : Prop :=
  match fs with
  | [g] => g.offset = off ∧ f g.type ∧ g.name ≠ "_"
  | _ => False

/-- type t of the program is the type; its fields, where it is a struct's body -/
def TyF (P : Program) : Ty → (TypeId → Prop) × (List Field → Nat → Prop)
  | .int k => (fun t => P.underlying t = some (.int k) ∧ Basic P t 1 (.int k 0), lastField fun t => P.underlying t = some (.int k) ∧ Basic P t 1 (.int k 0))
  | .bool => (fun t => P.underlying t = some .bool ∧ Basic P t 1 (.bool false), lastField fun t => P.underlying t = some .bool ∧ Basic P t 1 (.bool false))
  | .str => (fun t => P.underlying t = some .string ∧ Basic P t 1 (.string ⟨#[]⟩), lastField fun t => P.underlying t = some .string ∧ Basic P t 1 (.string ⟨#[]⟩))
  | .err => (fun t => (∃ ms, P.underlying t = some (.interface ms)) ∧ Basic P t 1 .nilIface, lastField fun t => (∃ ms, P.underlying t = some (.interface ms)) ∧ Basic P t 1 .nilIface)
  | .slice e => (fun t => (∃ u, P.underlying t = some (.slice u) ∧ (TyF P e).1 u) ∧ Basic P t 1 (.slice none 0 0), lastField fun t => (∃ u, P.underlying t = some (.slice u) ∧ (TyF P e).1 u) ∧ Basic P t 1 (.slice none 0 0))
  | .pair a b => (fun _ => False, fun fs off => match fs with
    | f :: g :: r => f.offset = off ∧ ((TyF P a).1 f.type ∧ f.name ≠ "_") ∧ (TyF P b).2 (g :: r) (off + a.size)
    | _ => False)
  | .struct b => (fun t => (∃ fs, P.underlying t = some (.struct fs) ∧ (TyF P b).2 fs.toList 0) ∧ Basic P t b.size (.agg (zeroVals b).toArray),
      lastField fun t => (∃ fs, P.underlying t = some (.struct fs) ∧ (TyF P b).2 fs.toList 0) ∧ Basic P t b.size (.agg (zeroVals b).toArray))

def TyOf (P : Program) (t : TypeId) (ty : Ty) : Prop := (TyF P ty).1 t

def zeroV : Ty → Value
  | .struct b => .agg (zeroVals b).toArray
  | .int k => .int k 0
  | .bool => .bool false
  | .str => .string ⟨#[]⟩
  | .err => .nilIface
  | .slice _ => .slice none 0 0
  | .pair _ _ => undef

theorem TyOf.basic {P : Program} {t : TypeId} : ∀ {ty : Ty}, TyOf P t ty → Basic P t ty.size (zeroV ty)
  | .int _, h | .bool, h | .str, h | .err, h | .slice _, h | .struct _, h => h.2
  | .pair _ _, h => h.elim

theorem TyF.last {P : Program} {fs : List Field} {off : Nat} : ∀ {ty : Ty}, (∀ a b, ty ≠ .pair a b) → (TyF P ty).2 fs off → ∃ g, fs = [g] ∧ g.offset = off ∧ TyOf P g.type ty ∧ g.name ≠ "_" := by
  intro ty hp h
  have key : ∀ f : TypeId → Prop, lastField f fs off → ∃ g, fs = [g] ∧ g.offset = off ∧ f g.type ∧ g.name ≠ "_" := by
    intro f hf
    unfold lastField at hf
    split at hf
    · next g => exact ⟨g, rfl, hf.1, hf.2⟩
    · exact hf.elim
  cases ty with
  | pair a b => exact absurd rfl (hp a b)
  | int k => exact key _ h
  | bool => exact key _ h
  | str => exact key _ h
  | err => exact key _ h
  | slice e => exact key _ h
  | struct b => exact key _ h

theorem TyF.field {P : Program} : ∀ {ty : Ty} {fs : List Field} {off i d : Nat} {u : Ty}, (TyF P ty).2 fs off → ty.fieldIn i off = some (d, u) →
    ∃ f, fs[i]? = some f ∧ f.offset = d ∧ TyOf P f.type u := by
  intro ty
  have base : ∀ {ty : Ty} {fs : List Field} {off i d : Nat} {u : Ty}, (∀ a b, ty ≠ .pair a b) → (TyF P ty).2 fs off → ty.fieldIn i off = some (d, u) →
      ∃ f, fs[i]? = some f ∧ f.offset = d ∧ TyOf P f.type u := by
    intro ty fs off i d u hp h hf
    obtain ⟨g, rfl, h1, h2, _⟩ := TyF.last hp h
    cases i with
    | zero =>
      have : ty.fieldIn 0 off = some (off, ty) := by cases ty <;> first | rfl | exact absurd rfl (hp _ _)
      rw [this] at hf; cases hf
      exact ⟨g, rfl, h1, h2⟩
    | succ n =>
      have : ty.fieldIn (n + 1) off = none := by cases ty <;> first | rfl | exact absurd rfl (hp _ _)
      rw [this] at hf; cases hf
  induction ty with
  | pair a b iha ihb =>
    intro fs off i d u h hf
    simp only [TyF] at h
    split at h
    · next f g r =>
      obtain ⟨h1, ⟨h2, _⟩, h3⟩ := h
      cases i with
      | zero => simp only [Ty.fieldIn] at hf; cases hf; exact ⟨f, rfl, h1, h2⟩
      | succ n =>
        simp only [Ty.fieldIn] at hf
        obtain ⟨f', e1, e2, e3⟩ := ihb h3 hf
        exact ⟨f', by simpa using e1, e2, e3⟩
    · exact h.elim
  | int k => exact fun h hf => base (by intro a b e; cases e) h hf
  | bool => exact fun h hf => base (by intro a b e; cases e) h hf
  | str => exact fun h hf => base (by intro a b e; cases e) h hf
  | err => exact fun h hf => base (by intro a b e; cases e) h hf
  | slice e _ => exact fun h hf => base (by intro a b e; cases e) h hf
  | struct b _ => exact fun h hf => base (by intro a b e; cases e) h hf

theorem TyOf.field {P : Program} {t : TypeId} {ty u : Ty} {i d : Nat} (h : TyOf P t ty) (hf : ty.field i = some (d, u)) :
    ∃ fs f, P.underlying t = some (.struct fs) ∧ fs[i]? = some f ∧ f.offset = d ∧ TyOf P f.type u := by
  cases ty with
  | struct b =>
    obtain ⟨⟨fs, h1, h2⟩, _⟩ := h
    obtain ⟨f, e1, e2, e3⟩ := TyF.field h2 hf
    exact ⟨fs, f, h1, by rw [← Array.getElem?_toList]; exact e1, e2, e3⟩
  | _ => simp [Ty.field] at hf

/-- the runs of the words on types -/
theorem run_typeInfo {P : Program} {t : TypeId} {i : TypeInfo} (h : P.info? t = some i) (w : World) : (typeInfo t).run P w = .ok i w := by
  simp [typeInfo, h]
theorem run_sizeOf {P : Program} {t : TypeId} {ty : Ty} (h : TyOf P t ty) (w : World) : (sizeOf t).run P w = .ok ty.size w := by
  obtain ⟨i, h1, h2, _⟩ := h.basic
  simp [sizeOf, run_typeInfo h1, h2]
theorem run_zeroValue {P : Program} {t : TypeId} {ty : Ty} (h : TyOf P t ty) (w : World) : (zeroValue t).run P w = .ok (zeroV ty) w := by
  obtain ⟨i, h1, _, _, h2⟩ := h.basic
  simp [zeroValue, run_typeInfo h1, h2]
theorem run_isAgg {P : Program} {t : TypeId} {ty : Ty} (h : TyOf P t ty) (w : World) : (isAgg t).run P w = .ok ty.isAgg w := by
  cases ty with
  | pair a b => exact h.elim
  | int k => simp [isAgg, run_underlying h.1, Ty.isAgg]
  | bool => simp [isAgg, run_underlying h.1, Ty.isAgg]
  | str => simp [isAgg, run_underlying h.1, Ty.isAgg]
  | err => obtain ⟨⟨ms, hm⟩, _⟩ := h; simp [isAgg, run_underlying hm, Ty.isAgg]
  | slice e => obtain ⟨⟨u, hu, _⟩, _⟩ := h; simp [isAgg, run_underlying hu, Ty.isAgg]
  | struct b => obtain ⟨⟨fs, hf, _⟩, _⟩ := h; simp [isAgg, run_underlying hf, Ty.isAgg]

/-- the cells of zero -/
theorem zeroVals_length : ∀ t : Ty, (zeroVals t).length = t.size
  | .int _ | .bool | .str | .err | .slice _ => rfl
  | .pair a b => by simp only [zeroVals, List.length_append, Ty.size, zeroVals_length a, zeroVals_length b]
  | .struct b => by simp only [zeroVals, Ty.size, zeroVals_length b]

theorem zeroV_cells {P : Program} {t : TypeId} {ty : Ty} (h : TyOf P t ty) : (zeroV ty).cells = (zeroVals ty).toArray := by
  cases ty with
  | pair a b => exact h.elim
  | _ => rfl

theorem Holds.zero {w : World} {S : Nat → Prop} : ∀ t : Ty, Holds w S t t.zero (zeroVals t)
  | .int _ | .bool | .str => rfl
  | .err => ⟨_, rfl, rfl⟩
  | .slice e => ⟨none, 0, rfl, Nat.le_refl _, fun i h => absurd h (Nat.not_lt_zero _)⟩
  | .pair a b => ⟨_, _, rfl, Holds.zero a, Holds.zero b⟩
  | .struct b => Holds.zero b

/-- cells that hold typed data are what the evaluator makes of it -/
theorem Holds.cells {E : Env} {w : World} {μ : Lie} {bl : List Blk} {fr : Bool} : ∀ {t : Ty} {x : t.den} {vs : List Value}, Holds w (E.D μ bl fr) t x vs → RepAs E w μ bl (t.cells fr x) vs
  | .int k, n, vs, h => by simp only [Holds] at h; subst h; exact ⟨rfl, trivial⟩
  | .bool, b, vs, h => by simp only [Holds] at h; subst h; exact ⟨rfl, trivial⟩
  | .str, s, vs, h => by simp only [Holds] at h; subst h; exact ⟨rfl, trivial⟩
  | .err, b, vs, h => by simp only [Holds] at h; obtain ⟨v, rfl, h⟩ := h; exact ⟨h, trivial⟩
  | .slice e, l, vs, h => by
    have h' := h
    simp only [Holds] at h'
    obtain ⟨a, cap, rfl, _⟩ := h'
    exact ⟨h, trivial⟩
  | .pair a b, x, vs, h => by
    simp only [Holds] at h
    obtain ⟨us, ws, rfl, h1, h2⟩ := h
    exact All2.append h1.cells h2.cells
  | .struct b, x, vs, h => by simp only [Holds] at h; exact Holds.cells (t := b) h

theorem cells_length (fr : Bool) : ∀ (t : Ty) (x : t.den), (t.cells fr x).length = t.size
  | .int _, _ | .bool, _ | .str, _ | .err, _ | .slice _, _ => rfl
  | .pair a b, x => by simp only [Ty.cells, List.length_append, Ty.size, cells_length]
  | .struct b, x => by simp only [Ty.cells, Ty.size, cells_length fr b]

/-- a value of a type in memory's words -/
def ValHolds (w : World) (S : Nat → Prop) (t : Ty) (x : t.den) (v : Value) : Prop :=
  match t.isAgg with
  | true => ∃ vs : List Value, v = .agg vs.toArray ∧ Holds w S t x vs
  | false => Holds w S t x [v]

theorem ValHolds.repV {E : Env} {w : World} {μ : Lie} {bl : List Blk} {fr : Bool} {t : Ty} {x : t.den} {v : Value} (h : ValHolds w (E.D μ bl fr) t x v) : RepV E w μ bl (t.toV fr x) v := by
  cases t with
  | struct b => obtain ⟨vs, e, hh⟩ := h; exact ⟨vs, e, Holds.cells (t := .struct b) hh⟩
  | pair a b => exact RepV.undef
  | int k => exact RepV.at ((Holds.cells (fr := fr) (t := .int k) h).1)
  | bool => exact RepV.at ((Holds.cells (fr := fr) (t := .bool) h).1)
  | str => exact RepV.at ((Holds.cells (fr := fr) (t := .str) h).1)
  | err => exact RepV.at ((Holds.cells (fr := fr) (t := .err) h).1)
  | slice e => exact RepV.at ((Holds.cells (fr := fr) (t := .slice e) h).1)
end Go.Proofs.YtcaknaddeblecaaGreatDoor.Ev

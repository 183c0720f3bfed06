/- Tables of types and of functions, checked by computation. -/
import Derived.Test.YtcaknaddeblecaaGreatDoorEvZ
import Derived.KernelRfl
namespace Go.Proofs.YtcaknaddeblecaaGreatDoor.Ev
open Go Go.RowKit
set_option linter.unusedVariables false
set_option linter.unusedSimpArgs false

def valEq : Value → Value → Bool
  | .int k n, .int k' n' => decide (k = k') && decide (n = n')
  | .bool b, .bool b' => b == b'
  | .string s, .string s' => decide (s.data.toList = s'.data.toList)
  | .nilIface, .nilIface => true
  | .slice none m c, .slice none m' c' => Nat.beq m m' && Nat.beq c c'
  | _, _ => false

theorem valEq_sound {u v : Value} (h : valEq u v = true) : u = v := by
  unfold valEq at h
  split at h
  · simp only [Bool.and_eq_true, decide_eq_true_eq] at h; rw [h.1, h.2]
  · simp only [beq_iff_eq] at h; rw [h]
  · next s s' =>
    have h := of_decide_eq_true h
    cases s; cases s'
    simp only at h
    rw [Array.ext' h]
  · rfl
  · simp only [Bool.and_eq_true, Nat.beq_eq] at h; rw [h.1, h.2]
  · cases h

def valsEq : List Value → List Value → Bool
  | [], [] => true
  | u :: us, v :: vs => valEq u v && valsEq us vs
  | _, _ => false

theorem valsEq_sound : ∀ {us vs : List Value}, valsEq us vs = true → us = vs
  | [], [], _ => rfl
  | u :: us, v :: vs, h => by
    simp only [valsEq, Bool.and_eq_true] at h
    rw [valEq_sound h.1, valsEq_sound h.2]
  | [], _ :: _, h => by cases h
  | _ :: _, [], h => by cases h

def zeroEq (z : Value) (ty : Ty) : Bool :=
  match z with
  | .agg cs => ty.isAgg && valsEq cs.toList (zeroVals ty)
  | v => !ty.isAgg && valsEq [v] (zeroVals ty)

theorem zeroEq_sound {z : Value} {ty : Ty} (hp : ∀ a b, ty ≠ .pair a b) (h : zeroEq z ty = true) : z = zeroV ty := by
  unfold zeroEq at h
  split at h
  · next cs =>
    simp only [Bool.and_eq_true] at h
    have h2 := valsEq_sound h.2
    cases ty <;> simp [Ty.isAgg] at h
    next b =>
    simp only [zeroV]
    rw [show zeroVals b = cs.toList from h2.symm]
  · simp only [Bool.and_eq_true, Bool.not_eq_true'] at h
    have h2 := valsEq_sound h.2
    cases ty with
    | pair a b => exact absurd rfl (hp a b)
    | struct b => simp [Ty.isAgg] at h
    | int k => simp only [zeroVals, List.cons.injEq, and_true] at h2; exact h2
    | bool => simp only [zeroVals, List.cons.injEq, and_true] at h2; exact h2
    | str => simp only [zeroVals, List.cons.injEq, and_true] at h2; exact h2
    | err => simp only [zeroVals, List.cons.injEq, and_true] at h2; exact h2
    | slice e => simp only [zeroVals, List.cons.injEq, and_true] at h2; exact h2

def basicB (P : Program) (t : TypeId) (ty : Ty) : Bool :=
  match P.info? t with
  | some i => Nat.beq i.size ty.size && Nat.ble i.bytes 4096 && (match i.zero with | some z => zeroEq z ty | none => false)
  | none => false

theorem basicB_sound {P : Program} {t : TypeId} {ty : Ty} (hp : ∀ a b, ty ≠ .pair a b) (h : basicB P t ty = true) : Basic P t ty.size (zeroV ty) := by
  unfold basicB at h
  split at h
  case h_2 => cases h
  next i hi =>
  simp only [Bool.and_eq_true, Nat.beq_eq] at h
  obtain ⟨⟨h1, h2⟩, h3⟩ := h
  split at h3
  case h_2 => cases h3
  next z hz => exact ⟨i, hi, h1, Nat.le_of_ble_eq_true h2, by rw [hz, zeroEq_sound hp h3]⟩

def lastB (f : TypeId → Bool) (fs : List Field) (off : Nat) : Bool :=
  match fs with
  | [g] => Nat.beq g.offset off && f g.type && !decide (g.name = "_")
  | _ => false

theorem lastB_sound {f : TypeId → Bool} {F : TypeId → Prop} (hf : ∀ t, f t = true → F t) {fs : List Field} {off : Nat} (h : lastB f fs off = true) : lastField F fs off := by
  unfold lastB at h
  split at h
  · next g =>
    simp only [Bool.and_eq_true, Nat.beq_eq, Bool.not_eq_true', decide_eq_false_iff_not] at h
    exact ⟨h.1.1, hf _ h.1.2, h.2⟩
  · cases h

def tyB (P : Program) : Ty → (TypeId → Bool) × (List Field → Nat → Bool)
  | .int k => (fun t => (match P.underlying t with | some (.int k') => decide (k = k') | _ => false) && basicB P t (.int k), lastB fun t => (match P.underlying t with | some (.int k') => decide (k = k') | _ => false) && basicB P t (.int k))
  | .bool => (fun t => (match P.underlying t with | some .bool => true | _ => false) && basicB P t .bool, lastB fun t => (match P.underlying t with | some .bool => true | _ => false) && basicB P t .bool)
  | .str => (fun t => (match P.underlying t with | some .string => true | _ => false) && basicB P t .str, lastB fun t => (match P.underlying t with | some .string => true | _ => false) && basicB P t .str)
  | .err => (fun t => (match P.underlying t with | some (.interface _) => true | _ => false) && basicB P t .err, lastB fun t => (match P.underlying t with | some (.interface _) => true | _ => false) && basicB P t .err)
  | .slice e => (fun t => (match P.underlying t with | some (.slice u) => (tyB P e).1 u | _ => false) && basicB P t (.slice e), lastB fun t => (match P.underlying t with | some (.slice u) => (tyB P e).1 u | _ => false) && basicB P t (.slice e))
  | .pair a b => (fun _ => false, fun fs off => match fs with
    | f :: g :: r => Nat.beq f.offset off && ((tyB P a).1 f.type && !decide (f.name = "_")) && (tyB P b).2 (g :: r) (off + a.size)
    | _ => false)
  | .struct b => (fun t => (match P.underlying t with | some (.struct fs) => (tyB P b).2 fs.toList 0 | _ => false) && basicB P t (.struct b),
      lastB fun t => (match P.underlying t with | some (.struct fs) => (tyB P b).2 fs.toList 0 | _ => false) && basicB P t (.struct b))

theorem tyB_sound {P : Program} : ∀ ty : Ty, (∀ t, (tyB P ty).1 t = true → (TyF P ty).1 t) ∧ (∀ fs off, (tyB P ty).2 fs off = true → (TyF P ty).2 fs off) := by
  intro ty
  induction ty with
  | int k =>
    have first : ∀ t, (tyB P (.int k)).1 t = true → (TyF P (.int k)).1 t := by
      intro t h
      simp only [tyB, Bool.and_eq_true] at h
      have hb := basicB_sound (by intro a b e; cases e) h.2
      replace h := h.1
      split at h
      · next k' hk => have e := of_decide_eq_true h; subst e; exact ⟨hk, hb⟩
      · cases h
    exact ⟨first, fun fs off h => lastB_sound (F := (TyF P (.int k)).1) first h⟩
  | bool =>
    have first : ∀ t, (tyB P .bool).1 t = true → (TyF P .bool).1 t := by
      intro t h
      simp only [tyB, Bool.and_eq_true] at h
      have hb := basicB_sound (by intro a b e; cases e) h.2
      replace h := h.1
      split at h
      · next hk => exact ⟨hk, hb⟩
      · cases h
    exact ⟨first, fun fs off h => lastB_sound (F := (TyF P .bool).1) first h⟩
  | str =>
    have first : ∀ t, (tyB P .str).1 t = true → (TyF P .str).1 t := by
      intro t h
      simp only [tyB, Bool.and_eq_true] at h
      have hb := basicB_sound (by intro a b e; cases e) h.2
      replace h := h.1
      split at h
      · next hk => exact ⟨hk, hb⟩
      · cases h
    exact ⟨first, fun fs off h => lastB_sound (F := (TyF P .str).1) first h⟩
  | err =>
    have first : ∀ t, (tyB P .err).1 t = true → (TyF P .err).1 t := by
      intro t h
      simp only [tyB, Bool.and_eq_true] at h
      have hb := basicB_sound (by intro a b e; cases e) h.2
      replace h := h.1
      split at h
      · next ms hk => exact ⟨⟨ms, hk⟩, hb⟩
      · cases h
    exact ⟨first, fun fs off h => lastB_sound (F := (TyF P .err).1) first h⟩
  | slice e ih =>
    have first : ∀ t, (tyB P (.slice e)).1 t = true → (TyF P (.slice e)).1 t := by
      intro t h
      simp only [tyB, Bool.and_eq_true] at h
      have hb := basicB_sound (by intro a b e; cases e) h.2
      replace h := h.1
      split at h
      · next u hk => exact ⟨⟨u, hk, ih.1 u h⟩, hb⟩
      · cases h
    exact ⟨first, fun fs off h => lastB_sound (F := (TyF P (.slice e)).1) first h⟩
  | pair a b iha ihb =>
    refine ⟨fun t h => by simp [tyB] at h, fun fs off h => ?_⟩
    simp only [tyB] at h
    split at h
    · next f g r =>
      simp only [Bool.and_eq_true, Nat.beq_eq, Bool.not_eq_true', decide_eq_false_iff_not] at h
      exact ⟨h.1.1, ⟨iha.1 _ h.1.2.1, h.1.2.2⟩, ihb.2 _ _ h.2⟩
    · cases h
  | struct b ih =>
    have first : ∀ t, (tyB P (.struct b)).1 t = true → (TyF P (.struct b)).1 t := by
      intro t h
      simp only [tyB, Bool.and_eq_true] at h
      have hb := basicB_sound (by intro a b e; cases e) h.2
      replace h := h.1
      split at h
      · next fs hk => exact ⟨⟨fs, hk, ih.2 _ _ h⟩, hb⟩
      · cases h
    exact ⟨first, fun fs off h => lastB_sound (F := (TyF P (.struct b)).1) first h⟩

def look {α : Type} : List (Nat × α) → Nat → Option α
  | [], _ => none
  | (g, x) :: r, f => bif Nat.beq g f then some x else look r f

theorem look_mem {α : Type} : ∀ (l : List (Nat × α)) (f : Nat) (x : α), look l f = some x → (f, x) ∈ l
  | [], _, _, h => by cases h
  | (g, y) :: r, f, x, h => by
    simp only [look] at h
    cases hg : Nat.beq g f with
    | true =>
      rw [hg] at h
      cases h
      have := Nat.eq_of_beq_eq_true hg
      subst this
      exact List.mem_cons_self ..
    | false => rw [hg] at h; exact List.mem_cons_of_mem _ (look_mem r f x h)

/-- a context out of tables -/
structure Tabs where
  ty : List (Nat × Ty)
  cmp : List Nat
  body : List (Nat × Func)
  keep : List Nat → Nat → Keep
  k : Nat

def Tabs.cx (T : Tabs) (calls : List (Nat × CSpec)) : Cx where
  ty := look T.ty
  cmp := fun t => T.cmp.contains t
  body := look T.body
  call := look calls
  keep := T.keep
  k := T.k

def bodiesOk (P : Program) : List (Nat × Func) → Prop
  | [] => True
  | (f, fn) :: r => (P.funcs[f]? = some fn ∧ (decide (fn.name = "runtime.NumGoroutine")) = false ∧ fn.body.isSome = true) ∧ bodiesOk P r

structure Tabs.ok (P : Program) (T : Tabs) : Prop where
  ty : (T.ty.all fun p => (tyB P p.2).1 p.1) = true
  cmp : (T.cmp.all fun t => !P.stoodInHeld t && !P.eqGuardType P.depth t) = true
  body : bodiesOk P T.body
  mixed : P.follows .mixedOrders = true

theorem bodiesOk_get {P : Program} : ∀ (l : List (Nat × Func)), bodiesOk P l → ∀ f fn, (f, fn) ∈ l → P.funcs[f]? = some fn ∧ fn.name ≠ "runtime.NumGoroutine" ∧ fn.body.isSome = true
  | [], _, f, fn, h => by simp at h
  | (g, gn) :: r, ho, f, fn, h => by
    rcases List.mem_cons.mp h with e | h
    · cases e
      exact ⟨ho.1.1, of_decide_eq_false ho.1.2.1, ho.1.2.2⟩
    · exact bodiesOk_get r ho.2 f fn h

theorem Tabs.cx_ok {P : Program} {T : Tabs} (h : T.ok P) (calls : List (Nat × CSpec)) : (T.cx calls).ok P := by
  refine ⟨fun t ty ht => ?_, fun t ht => ?_, fun f fn hf => bodiesOk_get _ h.body f fn (look_mem _ _ _ hf), h.mixed⟩
  · exact (tyB_sound ty).1 t (List.all_eq_true.mp h.ty _ (look_mem _ _ _ ht))
  · have hm : t ∈ T.cmp := by simpa [Tabs.cx] using ht
    have := List.all_eq_true.mp h.cmp t hm
    simpa using this

/-- what stays true of worlds while a call goes on -/
def Lasts (G : World → Prop) : Prop := ∀ w w' : World, G w → Below w.heap.size w w' → G w'

def callsOk (P : Program) (G : World → Prop) : List (Nat × CSpec) → Prop
  | [] => True
  | (f, s) :: r => s.ok P G f ∧ callsOk P G r

theorem callsOk_get {P : Program} {G : World → Prop} : ∀ (l : List (Nat × CSpec)), callsOk P G l → ∀ f s, (f, s) ∈ l → s.ok P G f
  | [], _, f, s, h => by simp at h
  | (g, gs) :: r, ho, f, s, h => by
    rcases List.mem_cons.mp h with e | h
    · cases e; exact ho.1
    · exact callsOk_get r ho.2 f s h

theorem Tabs.good {P : Program} {T : Tabs} (h : T.ok P) {G : World → Prop} (hG : Lasts G) {calls : List (Nat × CSpec)} (hc : callsOk P G calls) : (T.cx calls).good P G :=
  ⟨T.cx_ok h calls, fun f s hs => callsOk_get _ hc f s (look_mem _ _ _ hs), hG⟩

/-- one function more: its contract, out of the evaluator's word -/
theorem fn_ok {P : Program} {T : Tabs} (h : T.ok P) {G : World → Prop} (hG : Lasts G) {calls : List (Nat × CSpec)} (hc : callsOk P G calls) (d : Nat) {f : FuncId} {fn : Func} (hf : look T.body f = some fn) (s : CSpec) (hs : evFn (T.cx calls) d fn s.params s.res s.fresh = s.sem) : s.ok P G f :=
  evFn_ok (T.good h hG hc) d hf s fun x r hr => by rw [hs]; exact hr

/-- all that was there when the call began is there still -/
def since (W w : World) : Prop := W.heap.size ≤ w.heap.size ∧ Below W.heap.size W w
theorem since.lasts (W : World) : Lasts (since W) := fun _ _ h hb => ⟨Nat.le_trans h.1 hb.size, h.2.trans (hb.mono h.1)⟩
theorem since.refl (W : World) : since W W := ⟨Nat.le_refl _, Below.refl _ _⟩
end Go.Proofs.YtcaknaddeblecaaGreatDoor.Ev

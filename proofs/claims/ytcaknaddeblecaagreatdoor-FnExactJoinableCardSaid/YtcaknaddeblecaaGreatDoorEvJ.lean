/- Operations that make memory, or write it. -/
import Derived.Test.YtcaknaddeblecaaGreatDoorEvI
namespace Go.Proofs.YtcaknaddeblecaaGreatDoor.Ev
open Go Go.RowKit
set_option linter.unusedVariables false
set_option linter.unusedSimpArgs false
variable {ρ : Type}

/-- what an operation that makes or writes memory must show -/
def Eff (P : Program) (E : Env) (w0 : World) (μ : Lie) (st : St) (a : Act) (w : World) (o : Oper) (K : V → St → Option ρ) (r : ρ) : Prop :=
  ∃ X st' μ' v w', K X st' = some r ∧ RepV E w' μ' st'.bl X v ∧ Rel E w0 μ' st' a w' ∧ st'.tmps = st.tmps ∧ Goes w μ st w' μ' st' ∧
    ((execOp a.eval o).run P w = .ok (.value v) w' ∨ ((execOp a.eval o).run P w = .ok .skip w' ∧ X = V.undef))

section
variable {P : Program} {cx : Cx} {E : Env} {w0 w : World} {μ : Lie} {st : St} {a : Act} {o : Oper} {K : V → St → Option ρ} {r : ρ}

theorem Eff.of_pure (hR : Rel E w0 μ st a w) (h : Pure P E μ st a w o (fun v => K v st) r) : Eff P E w0 μ st a w o K r := by
  obtain ⟨X, v, h1, h2, h3⟩ := h
  exact ⟨X, st, μ, v, w, h1, h2, hR, rfl, Goes.refl _ _ _, Or.inl h3⟩

/-- a new block in the world -/
theorem below_push (w : World) (o : Obj) : Below w.heap.size w { w with heap := w.heap.push o } :=
  (Below.refl _ w).alloc (Nat.le_refl _) o

theorem heap_push_new (w : World) (o : Obj) : ({ w with heap := w.heap.push o } : World).heap[w.heap.size]? = some o := by
  simp

theorem unfrozen_zero (vals : Array Value) : unfrozen vals (0, 0) := fun i _ h => by simp at h

theorem snoc_row_none {bl : List Blk} (hm : Mem E w0 w μ bl) (t : Ty) : Mem E w0 w (μ.put bl.length none) (bl ++ [.arr 0 true true t []]) ∧ Evo w μ bl w (μ.put bl.length none) (bl ++ [.arr 0 true true t []]) :=
  hm.snoc (Below.refl _ w) _ none (fun k c e => by cases e) fun _ => Or.inl ⟨Lie.put_same _ _ _, rfl⟩

theorem snoc_var {bl : List Blk} (hm : Mem E w0 w μ bl) {cs : List A} {vs : List Value} (hr : RepAs E w μ bl cs vs) (ty : TypeId) :
    Mem E w0 { w with heap := w.heap.push (.cells vs.toArray ty) } (μ.put bl.length (some (w.heap.size, 0))) (bl ++ [.var cs]) ∧
    Evo w μ bl { w with heap := w.heap.push (.cells vs.toArray ty) } (μ.put bl.length (some (w.heap.size, 0))) (bl ++ [.var cs]) :=
  hm.snoc (below_push w _) _ _ (fun k c e => by cases e; exact Nat.le_refl _) fun ev =>
    ⟨w.heap.size, 0, vs.toArray, ty, (0, 0), Lie.put_same _ _ _, hm.big, heap_push_new _ _, unfrozen_zero _, ev.reps hr⟩

theorem getElem?_snoc_last {α : Type} (l : List α) (x : α) : (l ++ [x])[l.length]? = some x := by simp

theorem snoc_row {bl : List Blk} (hm : Mem E w0 w μ bl) {w' : World} (hb : Below w.heap.size w w') {k cap : Nat} {vals : Array Value} {ty : TypeId} {fz : Nat × Nat} (hk : w.heap.size ≤ k) (hh : w'.heap[k]? = some (.cells vals ty fz)) (hf : unfrozen vals fz)
    {nf : Bool} {t : Ty} {l : List t.den} (hl : l.length ≤ cap) (hsz : vals.size = cap * t.size) (hel : Elems w (E.D μ bl nf) t l vals.toList) (g : Nat) :
    Mem E w0 w' (μ.put bl.length (some (k, cap))) (bl ++ [.arr g true nf t l]) ∧ Evo w μ bl w' (μ.put bl.length (some (k, cap))) (bl ++ [.arr g true nf t l]) :=
  hm.snoc hb _ _ (fun k' c e => by cases e; exact hk) fun ev =>
    Or.inr ⟨k, cap, vals, ty, fz, Lie.put_same _ _ _, Nat.le_trans hm.big hk, hh, hf, hl, hsz, hel.mono (ev.D (E := E))⟩

/-- cells of zero, with the empty slices -/
def Zero1 (x : A) (v : Value) : Prop := (∃ t, x = .sl true t [] ∧ v = .slice none 0 0) ∨ ((∀ E w μ bl, RepA E w μ bl x v) ∧ ∀ t, x ≠ .sl true t [])

theorem zero1 : ∀ t : Ty, All2 Zero1 (zeroCells t) (zeroVals t)
  | .int k => ⟨Or.inr ⟨fun _ _ _ _ => rfl, fun _ => by simp⟩, trivial⟩
  | .bool => ⟨Or.inr ⟨fun _ _ _ _ => rfl, fun _ => by simp⟩, trivial⟩
  | .str => ⟨Or.inr ⟨fun _ _ _ _ => rfl, fun _ => by simp⟩, trivial⟩
  | .err => ⟨Or.inr ⟨fun _ _ _ _ => rfl, fun _ => by simp⟩, trivial⟩
  | .slice e => ⟨Or.inl ⟨e, rfl, rfl⟩, trivial⟩
  | .pair a b => All2.append (zero1 a) (zero1 b)
  | .struct b => zero1 b

theorem openRows_sound : ∀ (cs : List A) (vs : List Value), All2 Zero1 cs vs → ∀ (bl : List Blk) (μ : Lie), Mem E w0 w μ bl →
    ∃ μ', Mem E w0 w μ' (bl ++ (openRows cs bl.length).2) ∧ Evo w μ bl w μ' (bl ++ (openRows cs bl.length).2) ∧ RepAs E w μ' (bl ++ (openRows cs bl.length).2) (openRows cs bl.length).1 vs
  | [], [], _, bl, μ, hm => ⟨μ, by simpa [openRows] using hm, by simpa [openRows] using Evo.refl w μ bl, trivial⟩
  | [], _ :: _, h, _, _, _ => h.elim
  | _ :: _, [], h, _, _, _ => h.elim
  | c :: cs, v :: vs, h, bl, μ, hm => by
    obtain ⟨h1, h2⟩ := h
    rcases h1 with ⟨t, rfl, rfl⟩ | ⟨h1, hne⟩
    · obtain ⟨m1, e1⟩ := snoc_row_none hm t
      obtain ⟨μ', m2, e2, r2⟩ := openRows_sound cs vs h2 _ _ m1
      simp only [List.length_append, List.length_cons, List.length_nil, Nat.zero_add] at m2 e2 r2
      have e : bl ++ (openRows (A.sl true t [] :: cs) bl.length).2 = bl ++ [Blk.arr 0 true true t []] ++ (openRows cs (bl.length + 1)).2 := by
        rw [openRows, List.append_assoc]; rfl
      refine ⟨μ', e ▸ m2, e ▸ e1.trans e2, ?_⟩
      rw [e, openRows]
      refine ⟨e2.rep (x := .os bl.length 0) ⟨⟨rfl, by simp⟩, fun g' own nf u l hb => ?_⟩, r2⟩
      rw [getElem?_snoc_last] at hb
      cases hb
      exact ⟨Nat.le_refl _, fun _ => by rw [Lie.put_same]; exact ⟨rfl, rfl⟩⟩
    · obtain ⟨μ', m2, e2, r2⟩ := openRows_sound cs vs h2 bl μ hm
      have e : openRows (c :: cs) bl.length = (c :: (openRows cs bl.length).1, (openRows cs bl.length).2) := by
        rw [openRows]
        intro t e
        exact hne t e
      refine ⟨μ', by rw [e]; exact m2, by rw [e]; exact e2, ?_⟩
      rw [e]
      exact ⟨h1 _ _ _ _, r2⟩

theorem goes_snoc {bl' : List Blk} {μ' : Lie} {w' : World} {ext : List Blk} (ev : Evo w μ st.bl w' μ' (st.bl ++ ext)) : Goes w μ st w' μ' { st with bl := st.bl ++ ext } :=
  ⟨ev, rfl, fun b _ hlt => by simp [List.getElem?_append_left hlt]⟩

theorem eff_alloc (hcx : cx.ok P) (hR : Rel E w0 μ st a w) {inl : Inl ρ} {path : List Nat} {t : TypeId} (ho : o.op = .alloc t) (h : evOp cx inl path o st K = some r) : Eff P E w0 μ st a w o K r := by
  unfold evOp at h; simp only [ho] at h
  split at h
  · next ty ht =>
    have hty := hcx.ty t _ ht
    obtain ⟨μ1, m1, e1, r1⟩ := openRows_sound _ _ (zero1 ty) st.bl μ hR.mem
    obtain ⟨m2, e2⟩ := snoc_var m1 r1 t
    have ev := e1.trans e2
    refine ⟨_, _, _, .pointer (some ⟨w.heap.size, 0, none⟩), _, h, ?_, hR.next m2 ev, rfl, ?_, Or.inl ?_⟩
    · refine ⟨⟨rfl, by simp⟩, fun cs hb => ⟨w.heap.size, 0, ?_, rfl⟩⟩
      rw [show st.bl.length + (openRows (zeroCells ty) st.bl.length).2.length = (st.bl ++ (openRows (zeroCells ty) st.bl.length).2).length by simp, Lie.put_same]
    · rw [List.append_assoc]
      exact goes_snoc (bl' := []) (by rw [← List.append_assoc]; exact ev)
    · unfold execOp
      simp only [ho]
      simp [Instr.alloc, run_zeroValue hty, newVar, newRow, zeroV_cells hty]
  · cases h

theorem eff_box (hcx : cx.ok P) (hR : Rel E w0 μ st a w) {inl : Inl ρ} {path : List Nat} {t : TypeId} {x : Operand} (ho : o.op = .box t x) (h : evOp cx inl path o st K = some r) : Eff P E w0 μ st a w o K r := by
  unfold evOp at h; simp only [ho] at h
  split at h
  · next ty cs ht hf =>
    obtain ⟨hlen, h⟩ := cond_none h
    have hr := full_sound (hR.get x) hf
    obtain ⟨m2, e2⟩ := snoc_var hR.mem hr t
    refine ⟨_, _, _, .pointer (some ⟨w.heap.size, 0, none⟩), _, h, ?_, hR.next m2 e2, rfl, goes_snoc (bl' := []) e2, Or.inl ?_⟩
    · exact ⟨⟨rfl, by simp⟩, fun cs hb => ⟨w.heap.size, 0, Lie.put_same _ _ _, rfl⟩⟩
    · unfold execOp
      simp only [ho]
      simp [Instr.box, newVar, newRow]
  · cases h

theorem eff_nil (hcx : cx.ok P) (hR : Rel E w0 μ st a w) {x : Operand} (ho : o.op = .move x ∨ o.op = .assign x) {e : Ty} (hn : nilSlice x = true)
    (h : K (.at (.os st.bl.length 0)) { st with bl := st.bl ++ [.arr 0 true true e []] } = some r) : Eff P E w0 μ st a w o K r := by
  have hx : x = .const (.slice none 0 0) := by
    unfold nilSlice at hn; split at hn <;> first | rfl | cases hn
  obtain ⟨m2, e2⟩ := snoc_row_none hR.mem e
  refine ⟨_, _, _, .slice none 0 0, _, h, ?_, hR.next m2 e2, rfl, goes_snoc (bl' := []) e2, Or.inl ?_⟩
  · refine ⟨⟨rfl, by simp⟩, fun g' own nf u l hb => ?_⟩
    rw [getElem?_snoc_last] at hb
    cases hb
    exact ⟨Nat.le_refl _, fun _ => by rw [Lie.put_same]; exact ⟨rfl, rfl⟩⟩
  · unfold execOp
    rcases ho with ho | ho <;> simp [ho, hx, Act.eval]

/-! ### rows are frozen -/
theorem freeze_sound {bl : List Blk} (hm : Mem E w0 w μ bl) {b g : Nat} {nf : Bool} {t : Ty} {l : List t.den} (hb : bl[b]? = some (.arr g true nf t l)) :
    Mem E w0 w μ (bl.set b (.arr g false nf t l)) ∧ Evo w μ bl w μ (bl.set b (.arr g false nf t l)) ∧ (∀ k, Own μ (bl.set b (.arr g false nf t l)) k → Own μ bl k ∧ ∀ c, μ b ≠ some (k, c)) := by
  have hmine : mine bl b := by unfold mine; rw [hb]
  have hself := getElem?_set_self (y := Blk.arr g false nf t l) hb
  have h := hm.turn (w' := w) (blk' := .arr g false nf t l) hb hmine (μ b) rfl rfl rfl (Nat.le_refl _) (fun _ _ _ => rfl) (Or.inl rfl) (fun cs e => by cases e)
    (fun g' own nf' t' l' e => by cases e; exact ⟨g, true, nf, l, rfl, Nat.le_refl _, fun _ => ⟨rfl, rfl⟩⟩)
    (fun ev => by
      rcases hm.blocks b _ hb with ⟨h1, h2⟩ | ⟨k, cap, vals, ty, fz, h1, h2, h3, h4, h5, h6, h7⟩
      · exact Or.inl ⟨by rw [Lie.put_same]; exact h1, h2⟩
      · exact Or.inr ⟨k, cap, vals, ty, fz, by rw [Lie.put_same]; exact h1, h2, h3, h4, h5, h6, h7.mono (ev.D (E := E))⟩)
  rw [Lie.put_eq rfl] at h
  refine ⟨h.1, h.2, fun k ho => ?_⟩
  obtain ⟨c, d, hc, hmc⟩ := ho
  have hcb : c ≠ b := by
    rintro rfl
    unfold mine at hmc
    rw [hself] at hmc
    cases hmc
  have hmc' : mine bl c := by unfold mine at hmc ⊢; rwa [getElem?_set_ne' hcb] at hmc
  exact ⟨⟨c, d, hc, hmc'⟩, fun e he => hcb (hm.apart c b k d e hc he (mine_alive hmc') (mine_alive hmine))⟩

theorem goes_set {st : St} {b : Nat} {blk : Blk} {μ' : Lie} {w' : World} (hl : st.lock.contains b = false) (ev : Evo w μ st.bl w' μ' (st.bl.set b blk)) : Goes w μ st w' μ' { st with bl := st.bl.set b blk } :=
  ⟨ev, rfl, fun c hc _ => by
    have : c ≠ b := by
      rintro rfl
      rw [List.contains_eq_mem, decide_eq_false_iff_not] at hl
      exact hl hc
    exact getElem?_set_ne' this⟩

theorem St.freeze_sound {st st' : St} (hR : Rel E w0 μ st a w) {b : Nat} (h : st.freeze b = some st') :
    Rel E w0 μ st' a w ∧ st'.tmps = st.tmps ∧ Goes w μ st w μ st' ∧ (∀ k, Own μ st'.bl k → Own μ st.bl k) ∧ (∀ k c, μ b = some (k, c) → (∃ g own nf t l, st.bl[b]? = some (.arr g own nf t l)) → ¬ Own μ st'.bl k) ∧
      (∀ (c g : Nat) (own nf : Bool) (t : Ty) (l : List t.den), st.bl[c]? = some (.arr g own nf t l) → ∃ own', st'.bl[c]? = some (.arr g own' nf t l)) := by
  unfold St.freeze at h
  split at h
  · next g nf t l hb =>
    obtain ⟨hl, h⟩ := cond_none' h
    cases h
    obtain ⟨m, ev, ho⟩ := Ev.freeze_sound hR.mem hb
    refine ⟨hR.next m ev, rfl, goes_set hl ev, fun k hk => (ho k hk).1, fun k c hk _ hown => (ho k hown).2 c hk, fun c g' own nf' t' l' hc => ?_⟩
    by_cases e : c = b
    · subst e
      rw [hb] at hc; cases hc
      exact ⟨false, getElem?_set_self hb⟩
    · exact ⟨own, by rw [show ({ st with bl := st.bl.set b (.arr g false nf t l) } : St).bl = st.bl.set b (.arr g false nf t l) from rfl, getElem?_set_ne' e]; exact hc⟩
  · next hne =>
    cases h
    refine ⟨hR, rfl, Goes.refl _ _ _, fun _ h => h, fun k c hk ⟨g, own, nf, t, l, hb⟩ hown => ?_, fun c g own nf t l hc => ⟨own, hc⟩⟩
    obtain ⟨d, e, hd, hmd⟩ := hown
    have hbd : d = b := hR.mem.apart d b k e c hd hk (mine_alive hmd) (by unfold alive; rw [hb]; trivial)
    subst hbd
    unfold mine at hmd
    rw [hb] at hmd
    simp only at hmd
    subst hmd
    exact hne g nf t l hb

theorem freezeAll_sound : ∀ (bs : List Nat) {st st' : St}, Rel E w0 μ st a w → freezeAll st bs = some st' →
    Rel E w0 μ st' a w ∧ st'.tmps = st.tmps ∧ Goes w μ st w μ st' ∧ (∀ k, Own μ st'.bl k → Own μ st.bl k) ∧ (∀ b ∈ bs, ∀ k c, μ b = some (k, c) → (∃ g own nf t l, st.bl[b]? = some (.arr g own nf t l)) → ¬ Own μ st'.bl k) ∧
      (∀ (c g : Nat) (own nf : Bool) (t : Ty) (l : List t.den), st.bl[c]? = some (.arr g own nf t l) → ∃ own', st'.bl[c]? = some (.arr g own' nf t l))
  | [], st, st', hR, h => by simp only [freezeAll] at h; cases h; exact ⟨hR, rfl, Goes.refl _ _ _, fun _ h => h, fun _ h => by simp at h, fun c g own nf t l hc => ⟨own, hc⟩⟩
  | b :: bs, st, st', hR, h => by
    simp only [freezeAll] at h
    split at h
    · next st1 h1 =>
      obtain ⟨r1, t1, g1, o1, f1, k1⟩ := St.freeze_sound hR h1
      obtain ⟨r2, t2, g2, o2, f2, k2⟩ := freezeAll_sound bs r1 h
      refine ⟨r2, t2.trans t1, g1.trans g2, fun k hk => o1 k (o2 k hk), fun c hc k d hk hb => ?_, fun c g own nf t l hc => ?_⟩
      · rcases List.mem_cons.mp hc with rfl | hc
        · exact fun ho => f1 k d hk hb (o2 k ho)
        · obtain ⟨g, own, nf, t, l, hb⟩ := hb
          obtain ⟨own', hb'⟩ := k1 _ _ _ _ _ _ hb
          exact f2 c hc k d hk ⟨_, _, _, _, _, hb'⟩
      · obtain ⟨own', hb'⟩ := k1 _ _ _ _ _ _ hc
        exact k2 _ _ _ _ _ _ hb'
    · cases h

/-- what was read with the own rows is only read now -/
theorem Env.X_D {bl bl' : List Blk} {bs : List Nat} {fr : Bool} {k : Nat} (h : E.X μ bl bs fr k) (ho : ∀ k, Own μ bl' k → Own μ bl k)
    (hf : ∀ b ∈ bs, ∀ k c, μ b = some (k, c) → (∃ g own nf t l, bl[b]? = some (.arr g own nf t l)) → ¬ Own μ bl' k) : E.D μ bl' fr k := by
  refine ⟨h.1, fun hown => ?_⟩
  rcases h.2 with h2 | ⟨b, c, g, own, nf, t, l, hb, hk, hbl⟩
  · exact h2 (ho k hown)
  · exact hf b hb k c hk ⟨_, _, _, _, _, hbl⟩ hown

/-! ### typed data off cells -/
theorem All2.split {α β : Type} {R : α → β → Prop} : ∀ {as as' : List α} {bs : List β}, All2 R (as ++ as') bs → ∃ us ws, bs = us ++ ws ∧ All2 R as us ∧ All2 R as' ws
  | [], as', bs, h => ⟨[], bs, rfl, trivial, h⟩
  | a :: as, as', [], h => h.elim
  | a :: as, as', b :: bs, h => by
    obtain ⟨us, ws, rfl, h1, h2⟩ := All2.split h.2
    exact ⟨b :: us, ws, rfl, ⟨h.1, h1⟩, h2⟩

/-- a cell as it is read: own rows as what they hold -/
def RepX (E : Env) (w : World) (μ : Lie) (bl : List Blk) (bs : List Nat) (x : A) (v : Value) : Prop :=
  match x with
  | .sl fr t l => Holds w (E.X μ bl bs fr) (.slice t) l [v]
  | .int k n => v = .int k n
  | .bool b => v = .bool b
  | .str s => v = .string s
  | .err b => match b with | true => ∃ t u, v = .iface t u | false => v = .nilIface
  | _ => True

theorem view_rep {bl : List Blk} (hm : Mem E w0 w μ bl) {x : A} {v : Value} (hx : RepA E w μ bl x v) {bs : List Nat} (hbs : ∀ b g, x = .os b g → b ∈ bs) : RepX E w μ bl bs (x.view bl) v := by
  have := view_sound hm hx hbs
  cases hy : x.view bl with
  | sl fr t l => rw [hy] at this; exact this
  | undef => trivial
  | os b g => trivial
  | ptr b off => trivial
  | ep b g i off => trivial
  | pp fr t y off => trivial
  | fn f caps => trivial
  | int k n => rw [hy] at this; rcases this with e | ⟨e, _⟩ <;> first | (subst e; exact hx) | cases e
  | bool b => rw [hy] at this; rcases this with e | ⟨e, _⟩ <;> first | (subst e; exact hx) | cases e
  | str s => rw [hy] at this; rcases this with e | ⟨e, _⟩ <;> first | (subst e; exact hx) | cases e
  | err b => rw [hy] at this; rcases this with e | ⟨e, _⟩ <;> first | (subst e; exact hx) | cases e

/-- blocks where what is read typed may lie: with need, only such as were made by the call -/
def Env.XN (E : Env) (μ : Lie) (bl : List Blk) (bs : List Nat) (need : Bool) (k : Nat) : Prop := E.X μ bl bs need k

theorem ofCells_sound {bl : List Blk} {bs : List Nat} {need : Bool} : ∀ (t : Ty) (cs : List A) (vs : List Value) (x : t.den) (rest : List A), All2 (RepX E w μ bl bs) cs vs → t.ofCells need cs = some (x, rest) →
    ∃ us ws, vs = us ++ ws ∧ Holds w (E.X μ bl bs need) t x us ∧ All2 (RepX E w μ bl bs) rest ws ∧ ∃ pre, cs = pre ++ rest ∧ All2 (RepX E w μ bl bs) pre us := by
  intro t
  induction t with
  | int k =>
    intro cs vs x rest h hc
    cases cs with
    | nil => simp [Ty.ofCells] at hc
    | cons c cs =>
      cases vs with
      | nil => exact h.elim
      | cons v vs =>
        cases c <;> simp [Ty.ofCells] at hc
        obtain ⟨rfl, rfl, rfl⟩ := hc
        exact ⟨[v], vs, rfl, congrArg (· :: []) h.1, h.2, [_], rfl, h.1, trivial⟩
  | bool =>
    intro cs vs x rest h hc
    cases cs with
    | nil => simp [Ty.ofCells] at hc
    | cons c cs =>
      cases vs with
      | nil => exact h.elim
      | cons v vs =>
        cases c <;> simp [Ty.ofCells] at hc
        obtain ⟨rfl, rfl⟩ := hc
        exact ⟨[v], vs, rfl, congrArg (· :: []) h.1, h.2, [_], rfl, h.1, trivial⟩
  | str =>
    intro cs vs x rest h hc
    cases cs with
    | nil => simp [Ty.ofCells] at hc
    | cons c cs =>
      cases vs with
      | nil => exact h.elim
      | cons v vs =>
        cases c <;> simp [Ty.ofCells] at hc
        obtain ⟨rfl, rfl⟩ := hc
        exact ⟨[v], vs, rfl, congrArg (· :: []) h.1, h.2, [_], rfl, h.1, trivial⟩
  | err =>
    intro cs vs x rest h hc
    cases cs with
    | nil => simp [Ty.ofCells] at hc
    | cons c cs =>
      cases vs with
      | nil => exact h.elim
      | cons v vs =>
        cases c <;> simp [Ty.ofCells] at hc
        obtain ⟨rfl, rfl⟩ := hc
        exact ⟨[v], vs, rfl, ⟨v, rfl, h.1⟩, h.2, [_], rfl, h.1, trivial⟩
  | slice e ih =>
    intro cs vs x rest h hc
    cases cs with
    | nil => simp [Ty.ofCells] at hc
    | cons c cs =>
      cases vs with
      | nil => exact h.elim
      | cons v vs =>
        cases c with
        | sl fr t' l =>
          simp only [Ty.ofCells] at hc
          split at hc
          · next hq =>
            obtain ⟨hn, hc⟩ := cond_none' hc
            rename_i p _
            subst p
            cases hc
            refine ⟨[v], vs, rfl, Holds.weaken (fun k hk _ => ?_) (t := .slice t') h.1, h.2, [_], rfl, h.1, trivial⟩
            refine ⟨?_, hk.2⟩
            rcases hk.1 with h1 | ⟨rfl, h1⟩
            · exact Or.inl h1
            · cases need with
              | true => cases hn
              | false => exact Or.inr ⟨rfl, h1⟩
          · cases hc
        | _ => simp [Ty.ofCells] at hc
  | pair a b iha ihb =>
    intro cs vs x rest h hc
    simp only [Ty.ofCells] at hc
    split at hc
    · next x1 r1 h1 =>
      split at hc
      · next x2 r2 h2 =>
        cases hc
        obtain ⟨us, ws, rfl, p1, p2, pre1, q1, q2⟩ := iha cs vs x1 r1 h h1
        obtain ⟨us', ws', rfl, p3, p4, pre2, q3, q4⟩ := ihb r1 ws x2 rest p2 h2
        exact ⟨us ++ us', ws', by rw [List.append_assoc], ⟨us, us', rfl, p1, p3⟩, p4, pre1 ++ pre2, by rw [q1, q3, List.append_assoc], q2.append q4⟩
      · cases hc
    · cases hc
  | struct b ih =>
    intro cs vs x rest h hc
    exact ih cs vs x rest h hc
end
end Go.Proofs.YtcaknaddeblecaaGreatDoor.Ev

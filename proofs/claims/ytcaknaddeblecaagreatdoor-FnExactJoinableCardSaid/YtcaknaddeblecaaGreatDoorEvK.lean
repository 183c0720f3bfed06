/- Rows are made, grown and written. -/
import Derived.Test.YtcaknaddeblecaaGreatDoorEvJ
import Derived.Lib.ConvBytes
namespace Go.Proofs.YtcaknaddeblecaaGreatDoor.Ev
open Go Go.RowKit
set_option linter.unusedVariables false
set_option linter.unusedSimpArgs false
variable {ρ : Type}

section
variable {P : Program} {cx : Cx} {E : Env} {w0 w : World} {μ : Lie} {st : St} {a : Act} {o : Oper} {K : V → St → Option ρ} {r : ρ}

theorem Basic.bytes {t : TypeId} {n : Nat} {v : Value} (h : Basic P t n v) : ∃ i, P.info? t = some i ∧ i.bytes ≤ 4096 := let ⟨i, h1, _, h2, _⟩ := h; ⟨i, h1, h2⟩

theorem elemTy_sound (hcx : cx.ok P) {t : TypeId} {e : Ty} (h : elemTy cx t = some e) : ∃ u, P.underlying t = some (.slice u) ∧ TyOf P u e := by
  unfold elemTy at h
  split at h
  · next e' he => cases h; exact (hcx.ty t _ he).1
  · cases h

theorem drop_take_get {α : Type} (l : List α) (a n j : Nat) (h : j < n) : ((l.drop a).take n)[j]? = l[a + j]? := by
  rw [List.getElem?_take_of_lt h, List.getElem?_drop]

theorem zeros_elems {S : Nat → Prop} {e : Ty} (n m : Nat) (hm : n ≤ m) (vals : Array Value) (hv : ∀ j, j < m * e.size → vals.toList[j]? = (zeroVals e)[j % e.size]?) : Elems w S e (List.replicate n e.zero) vals.toList := by
  intro i hi
  rw [List.length_replicate] at hi
  have hpos := e.size_pos
  have hz := zeroVals_length e
  have : (vals.toList.drop (i * e.size)).take e.size = zeroVals e := by
    apply List.ext_getElem?
    intro j
    rcases Nat.lt_or_ge j e.size with g | g
    · have hj : i * e.size + j < m * e.size := by
        have : (i + 1) * e.size ≤ m * e.size := Nat.mul_le_mul_right _ (by omega)
        rw [Nat.add_mul] at this; omega
      rw [drop_take_get _ _ _ _ g, hv _ hj, Nat.mul_comm, Nat.mul_add_mod, Nat.mod_eq_of_lt g]
    · rw [List.getElem?_eq_none (by simp; omega), List.getElem?_eq_none (by omega)]
  rw [this, List.getElem_replicate]
  exact Holds.zero e

theorem eff_makeSlice (hcx : cx.ok P) (hR : Rel E w0 μ st a w) {inl : Inl ρ} {path : List Nat} {t : TypeId} {n c : Operand} (ho : o.op = .makeSlice t n c) (h : evOp cx inl path o st K = some r) : Eff P E w0 μ st a w o K r := by
  unfold evOp at h; simp only [ho] at h
  split at h
  · next e k n' k' c' ht hn hc =>
    have hb := (cond_none h).1
    replace h := (cond_none h).2
    obtain ⟨h0, he, h1⟩ := of_decide_eq_true hb
    subst he
    obtain ⟨u, hu, hte⟩ := elemTy_sound hcx ht
    obtain ⟨i, hi, hby⟩ := hte.basic.bytes
    have en := int_of hR hn
    have ec := int_of hR hc
    obtain ⟨m, rfl⟩ : ∃ m : Nat, n' = m := ⟨n'.toNat, by omega⟩
    have hm : m < 8589934592 := by unfold most at h1; omega
    have hw : IntKind.i64.wrap (m : Int) = m := by rw [← wr_eq]; simp only [wr, wrap64]; omega
    have hbig : ¬ ((i.bytes : Int) * (m : Int) > 281474976710656) := by
      have : i.bytes * m ≤ 4096 * m := Nat.mul_le_mul_right _ hby
      have h2 : (i.bytes : Int) * (m : Int) = ((i.bytes * m : Nat) : Int) := by simp
      rw [h2]; omega
    have hneg : ¬ ((m : Int) < 0) := by omega
    have hz := zeroVals_length e
    have hpos := e.size_pos
    let vals : Array Value := (Array.range (m * e.size)).map fun j => (zeroVals e).toArray[j % (zeroVals e).toArray.size]!
    have hvals : ∀ j, j < m * e.size → vals.toList[j]? = (zeroVals e)[j % e.size]? := by
      intro j hj
      have hlt : j % e.size < (zeroVals e).length := by rw [hz]; exact Nat.mod_lt _ (by omega)
      simp only [vals, Array.toList_map, Array.toList_range, List.getElem?_map, List.getElem?_range hj, Option.map_some, List.size_toArray, hz]
      rw [List.getElem?_eq_getElem hlt, getElem!_pos _ _ (by simpa [hz] using hlt)]
      simp
    have hsz : vals.size = m * e.size := by simp [vals]
    have hrun : (Instr.makeSlice t (a.eval n) (a.eval c)).run P w = .ok (.slice (some ⟨w.heap.size, 0, none⟩) m m) { w with heap := w.heap.push (.cells vals u) } := by
      by_cases hm0 : m = 0
      · have : vals = #[] := by apply Array.eq_empty_of_size_eq_zero; rw [hsz, hm0, Nat.zero_mul]
        rw [this]
        subst hm0
        have hw0 : IntKind.i64.wrap 0 = 0 := rfl
        simp [Instr.makeSlice, run_underlying hu, en, ec, asInt, asIntOf, run_typeInfo hi, hw0, run_sizeOf hte, newRow]
        rw [show Array.range 0 = #[] from Array.eq_empty_of_size_eq_zero (by simp)]
        simp
      · have hne : ¬ (m * e.size = 0) := Nat.mul_ne_zero hm0 (by omega)
        simp [Instr.makeSlice, run_underlying hu, en, ec, asInt, asIntOf, run_typeInfo hi, hw, hbig, hneg, run_sizeOf hte, hm0, newRow, run_zeroValue hte, zeroV_cells hte, vals]
        exact fun hh => absurd hh hne
    obtain ⟨m2, e2⟩ := snoc_row hR.mem (below_push w (.cells vals u)) (Nat.le_refl _) (heap_push_new w _) (unfrozen_zero _) (nf := true) (t := e) (l := List.replicate m e.zero) (cap := m) (by simp) hsz
      (zeros_elems m m (Nat.le_refl _) vals hvals) 0
    refine ⟨_, _, _, .slice (some ⟨w.heap.size, 0, none⟩) m m, _, h, ?_, hR.next m2 e2, rfl, goes_snoc (bl' := []) e2, Or.inl (by unfold execOp; simp only [ho]; simp [hrun])⟩
    refine ⟨⟨rfl, by simp⟩, fun g' own nf u' l hb => ?_⟩
    rw [getElem?_snoc_last] at hb
    cases hb
    exact ⟨Nat.le_refl _, fun _ => by rw [Lie.put_same]; simp [RowVal]⟩
  · cases h

theorem ofCells_undef {need : Bool} : ∀ (t : Ty) (r : List A), t.ofCells need (.undef :: r) = none
  | .int _, _ | .bool, _ | .str, _ | .err, _ | .slice _, _ => rfl
  | .pair a b, r => by simp only [Ty.ofCells, ofCells_undef a r]
  | .struct b, r => by simp only [Ty.ofCells, ofCells_undef b r]

/-- a value read as typed data -/
theorem ofV_sound {bl : List Blk} (hm : Mem E w0 w μ bl) {X : V} {v : Value} {t : Ty} {x : t.den} {need : Bool} {bs : List Nat} (hx : RepV E w μ bl X v) (hbs : ∀ b, b ∈ rowsOf X.cells → b ∈ bs) (h : t.ofV need bl X = some x) :
    ValHolds w (E.X μ bl bs need) t x v := by
  unfold Ty.ofV at h
  split at h
  · next c =>
    obtain ⟨ha, h⟩ := cond_none' h
    split at h
    · next y hy =>
      cases h
      have hr : RepA E w μ bl c v := by
        cases c <;> first | exact hx | (exfalso; rw [show A.view bl .undef = .undef from rfl, ofCells_undef] at hy; cases hy)
      have hv := view_rep hm hr (bs := bs) (fun b g e => hbs b (by subst e; simp [V.cells, rowsOf]))
      obtain ⟨us, ws, e1, e2, e3, _⟩ := ofCells_sound t [c.view bl] [v] x [] ⟨hv, trivial⟩ hy
      have hws : ws = [] := by cases ws with | nil => rfl | cons _ _ => exact e3.elim
      subst hws
      rw [List.append_nil] at e1
      subst e1
      unfold ValHolds
      rw [ha]; exact e2
    · cases h
  · next cs =>
    obtain ⟨ha, h⟩ := cond_none h
    split at h
    · next y hy =>
      cases h
      obtain ⟨vs, rfl, hr⟩ := hx
      have hv : All2 (RepX E w μ bl bs) (cs.map (A.view bl)) vs := by
        have key : ∀ (cs : List A) (vs : List Value), RepAs E w μ bl cs vs → (∀ b, b ∈ rowsOf cs → b ∈ bs) → All2 (RepX E w μ bl bs) (cs.map (A.view bl)) vs := by
          intro cs
          induction cs with
          | nil => intro vs hr _; cases vs with | nil => trivial | cons _ _ => exact hr.elim
          | cons c cs ih =>
            intro vs hr hb
            cases vs with
            | nil => exact hr.elim
            | cons v vs =>
              refine ⟨view_rep hm hr.1 (fun b g e => hb b (by subst e; simp [rowsOf])), ih vs hr.2 (fun b hbm => hb b ?_)⟩
              cases c <;> simp [rowsOf] <;> first | exact hbm | exact Or.inr hbm
        exact key cs vs hr hbs
      obtain ⟨us, ws, e1, e2, e3, _⟩ := ofCells_sound t _ vs x [] hv hy
      have hws : ws = [] := by cases ws with | nil => rfl | cons _ _ => exact e3.elim
      subst hws
      rw [List.append_nil] at e1
      subst e1
      unfold ValHolds
      rw [ha]; exact ⟨vs, rfl, e2⟩
    · cases h
  · cases h

theorem bytesOf_get (s : ByteArray) (i : Nat) : (bytesOf s)[i]? = (s.data.toList[i]?).map fun b => (b.toNat : Int) := by
  simp [bytesOf]

theorem eff_bytes (hcx : cx.ok P) (hR : Rel E w0 μ st a w) {inl : Inl ρ} {path : List Nat} {c d : TypeId} {x : Operand} (ho : o.op = .convert c d x) {s : ByteArray} (hc : cx.ty c = some .str) (hd : elemTy cx d = some (.int .u8)) (hx : st.get x = .at (.str s))
    (h : K (.at (.os st.bl.length 0)) { st with bl := st.bl ++ [.arr 0 true true (.int .u8) (bytesOf s)] } = some r) : Eff P E w0 μ st a w o K r := by
  obtain ⟨u, hu, hte⟩ := elemTy_sound hcx hd
  have ex := str_of hR hx
  have hrun := Lib.run_convert_string_bytes (P := P) w c d u s (hcx.ty c _ hc).1 hu hte.1
  have hge := grownCap_ge w s.size 0 u
  have hsd : s.data.size = s.size := rfl
  have hb : Below w.heap.size w (Lib.bytesWorld w u s) := by
    refine ⟨?_, ?_, ?_, by rw [Lib.bytesWorld_size]; omega, fun k hk => Lib.bytesWorld_at_old w u s k hk⟩ <;> simp [Lib.bytesWorld, World.freeze, World.alloc, World.drew, -World.alloc_eq, -World.drew_eq]
  have hlen : (bytesOf s).length = s.size := by simp [bytesOf]
  obtain ⟨m2, e2⟩ := snoc_row hR.mem hb (Nat.le_refl _) (Lib.bytesWorld_at_new w u s) (fun i hi h => by omega) (nf := true) (t := .int .u8) (l := bytesOf s) (cap := grownCap w s.size 0 u) (by rw [hlen]; exact hge)
    (by simp only [Lib.bytesCells, Array.size_append, Array.size_map, Array.size_replicate, hsd, Ty.size]; omega)
    (fun i hi => by
      have hi' : i < s.data.toList.length := by rw [hlen] at hi; simpa using hi
      have : ((Lib.bytesCells w u s).toList.drop (i * (Ty.int IntKind.u8).size)).take (Ty.int IntKind.u8).size = [.int .u8 (bytesOf s)[i]] := by
        apply List.ext_getElem?
        intro j
        cases j with
        | zero =>
          rw [drop_take_get _ _ _ _ (by simp [Ty.size])]
          simp only [Ty.size, Nat.mul_one, Nat.add_zero, Lib.bytesCells, Array.toList_append, Array.toList_map, List.getElem?_cons_zero]
          rw [List.getElem?_append_left (by simpa using hi')]
          rw [List.getElem?_map, List.getElem?_eq_getElem hi']
          simp [bytesOf]
        | succ j => simp [Ty.size]; omega
      rw [this]; rfl) 0
  refine ⟨_, _, _, _, _, h, ?_, hR.next m2 e2, rfl, goes_snoc (bl' := []) e2, Or.inl (by unfold execOp; simp only [ho, ex]; simp [hrun]; rfl)⟩
  refine ⟨⟨rfl, by simp⟩, fun g' own nf u' l hb => ?_⟩
  rw [getElem?_snoc_last] at hb
  cases hb
  exact ⟨Nat.le_refl _, fun _ => by rw [Lie.put_same, hlen]; simp [RowVal]⟩

theorem eff_slice_own (hcx : cx.ok P) (hR : Rel E w0 μ st a w) {t : TypeId} {x : Operand} {lo hi : Option Operand} (ho : o.op = .slice t x lo hi none) {b g : Nat} (hx : st.get x = .at (.os b g)) {st' : St} (hf : st.freeze b = some st')
    (h : evSlice cx t (.at ((A.os b g).view st.bl)) lo hi st (fun v => K v st') = some r) : Eff P E w0 μ st a w o K r := by
  have hr := hR.get x
  rw [hx] at hr
  obtain ⟨r1, t1, g1, o1, f1, k1⟩ := St.freeze_sound hR hf
  have hv := view_sound hR.mem (x := .os b g) hr (bs := [b]) (fun b' g' e => by cases e; simp)
  cases hy : (A.os b g).view st.bl with
  | sl fr u l =>
    rw [hy] at hv h
    have hh : Holds w (E.D μ st'.bl fr) (.slice u) l [a.eval x] := Holds.weaken (fun k hk _ => Env.X_D (bs := [b]) hk o1 (by intro c hc k2 d hk2 hb; have e := List.mem_singleton.mp hc; subst e; exact f1 k2 d hk2 hb)) (t := .slice u) hv
    have hget : ∀ y, st'.get y = st.get y := fun y => by cases y <;> simp [St.get, t1]
    have hlb : ∀ o d, loadBound st' o d = loadBound st o d := fun o d => by unfold loadBound; cases o with | none => rfl | some y => simp only [hget]
    have h' : evSlice cx t (.at (.sl fr u l)) lo hi st' (fun v => K v st') = some r := by
      rw [← h]; unfold evSlice; simp only [hlb]
    obtain ⟨Y, v, h1, h2, h3⟩ := slice_sound (S := fun _ => True) hcx r1 (Or.inr ⟨fr, u, l, rfl, hh⟩) h'
    exact ⟨Y, st', μ, v, w, h1, h2, r1, t1, g1, Or.inl (by unfold execOp; simp only [ho]; simp [h3])⟩
  | _ =>
    rw [hy] at hv h
    rcases hv with e | ⟨_, e⟩
    · first | (cases e; simp [evSlice] at h) | cases e
    · exact absurd rfl (e b g)
end
end Go.Proofs.YtcaknaddeblecaaGreatDoor.Ev

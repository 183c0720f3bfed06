/- Slices are built. -/
import Derived.Test.YtcaknaddeblecaaGreatDoorEvN
namespace Go.Proofs.YtcaknaddeblecaaGreatDoor.Ev
open Go Go.RowKit
set_option linter.unusedVariables false
set_option linter.unusedSimpArgs false
variable {ρ : Type}

section
variable {P : Program} {cx : Cx} {E : Env} {w0 w : World} {μ : Lie} {st : St} {a : Act} {o : Oper} {K : V → St → Option ρ} {r : ρ}

/-- typed data off a value, of which all is new -/
theorem ofV_fresh {bl : List Blk} (hm : Mem E w0 w μ bl) {X : V} {v : Value} {t : Ty} {x : t.den} {need : Bool} {bs : List Nat} (hx : RepV E w μ bl X v) (hbs : ∀ b, b ∈ rowsOf X.cells → b ∈ bs)
    (hn : ∀ c ∈ X.cells, ∀ fr u l, c.view bl = .sl fr u l → need = true → fr = true) (h : t.ofV false bl X = some x) : ValHolds w (E.X μ bl bs need) t x v := by
  refine ofV_sound hm hx hbs ?_
  unfold Ty.ofV at h ⊢
  cases X with
  | «at» c =>
    simp only at h ⊢
    obtain ⟨ha, h⟩ := cond_none' h
    rw [ha]
    simp only [cond_false]
    split at h
    · next y hy =>
      have hr : RepA E w μ bl c v := by
        cases c <;> first | exact hx | (exfalso; rw [show A.view bl .undef = .undef from rfl, ofCells_undef] at hy; cases hy)
      have hv := view_rep hm hr (bs := bs) (fun b g e => hbs b (by subst e; simp [V.cells, rowsOf]))
      rw [ofCells_fresh (need := need) t [c.view bl] [v] y [] ⟨hv, trivial⟩ hy (fun c' hc' fr u l e hne => by
        have := List.mem_singleton.mp hc'
        subst this
        exact hn c (by simp [V.cells]) fr u l e hne)]
      exact h
    · cases h
  | agg cs =>
    simp only at h ⊢
    obtain ⟨ha, h⟩ := cond_none h
    rw [ha]
    simp only [cond_true]
    split at h
    · next y hy =>
      obtain ⟨vs, rfl, hr⟩ := hx
      have hv := view_reps hm cs vs hr (bs := bs) (fun c hc b g e => hbs b (rowsOf_mem cs c hc b g e))
      rw [ofCells_fresh (need := need) t _ vs y [] hv hy (fun c' hc' fr u l e hne => by
        obtain ⟨c, hc, rfl⟩ := List.mem_map.mp hc'
        exact hn c hc fr u l e hne)]
      exact h
    · cases h
  | tup _ => cases h

theorem writeAt_append {α : Type} : ∀ (xs ys as : List α) (off : Nat), writeAt as off (xs ++ ys) = writeAt (writeAt as off xs) (off + xs.length) ys
  | [], ys, as, off => rfl
  | x :: xs, ys, as, off => by
    rw [List.cons_append, writeAt, writeAt, writeAt_append xs ys _ (off + 1)]
    congr 1
    simp; omega

theorem ValHolds.cells {S : Nat → Prop} {t : Ty} {x : t.den} {v : Value} (h : ValHolds w S t x v) : Holds w S t x v.cells.toList := by
  unfold ValHolds at h
  split at h
  · obtain ⟨vs, rfl, hh⟩ := h
    exact hh
  · have h1 := h.one v (by simp)
    have : v.cells = #[v] := by cases v <;> first | rfl | simp [Value.oneCell'] at h1
    rw [this]; exact h

theorem fillElems_sound (hR : Rel E w0 μ st a w) {e : Ty} {bs : List Nat} {need : Bool} : ∀ (ps : List (Nat × Operand)) (i n : Nat) (l : List e.den), fillElems e st ps i n = some l →
    (∀ p ∈ ps, ∀ b, b ∈ rowsOf (st.get p.2).cells → b ∈ bs) → (∀ p ∈ ps, ∀ c ∈ (st.get p.2).cells, ∀ fr u l, c.view st.bl = .sl fr u l → need = true → fr = true) →
    ∃ news, Chunks w (E.X μ st.bl bs need) e l news ∧ l.length + i = n ∧
      ∀ cells : Array Value, cells.size = n * e.size → Instr.fill (fun i => some (i * e.size, e.size)) cells (ps.map fun p => (p.1, a.eval p.2)) = some (writeAt cells.toList (i * e.size) news).toArray
  | [], i, n, l, h, _, _ => by
    simp only [fillElems] at h
    split at h
    · next hi =>
      cases h
      exact ⟨[], ⟨by simp, fun j hj => absurd hj (Nat.not_lt_zero _)⟩, by simpa using hi, fun cells _ => by simp [Instr.fill, writeAt]⟩
    · cases h
  | (j, x) :: ps, i, n, l, h, hb, hn => by
    simp only [fillElems] at h
    split at h
    case isFalse => cases h
    next hij =>
    subst hij
    split at h
    case h_2 => cases h
    next y ys hy hys =>
    cases h
    obtain ⟨news, hch, hlen, hfill⟩ := fillElems_sound hR ps (i + 1) n ys hys (fun p hp => hb p (List.mem_cons_of_mem _ hp)) (fun p hp => hn p (List.mem_cons_of_mem _ hp))
    have hv := (ofV_fresh hR.mem (hR.get x) (hb _ (List.mem_cons_self ..)) (hn _ (List.mem_cons_self ..)) hy).cells
    have hvl := hv.length
    have h1 : Chunks w (E.X μ st.bl bs need) e [y] (a.eval x).cells.toList := by
      refine ⟨by simpa using hvl, fun k hk => ?_⟩
      have : k = 0 := by simp at hk; exact hk
      subst this
      simp only [Nat.zero_mul, List.drop_zero, List.getElem_cons_zero]
      rw [List.take_of_length_le (by omega)]
      exact hv
    refine ⟨(a.eval x).cells.toList ++ news, h1.append hch, by simp; omega, fun cells hsz => ?_⟩
    have hvs : (a.eval x).cells.size = e.size := by rw [← hvl, Array.length_toList]
    have hi : i * e.size + e.size ≤ n * e.size := by
      have : (i + 1) * e.size ≤ n * e.size := Nat.mul_le_mul_right _ (by omega)
      rw [Nat.add_mul] at this; omega
    have hcond : ((a.eval x).cells.size ≠ e.size || decide (i * e.size + (a.eval x).cells.size > cells.size)) = false := by
      rw [hvs, hsz]
      simp; omega
    have hfold := fold_writeAt (a.eval x).cells.toList cells (i * e.size) 0
    rw [Nat.add_zero] at hfold
    have hz : (a.eval x).cells.zipIdx.foldl (fun cs (p : Value × Nat) => cs.setIfInBounds (i * e.size + p.2) p.1) cells = (writeAt cells.toList (i * e.size) (a.eval x).cells.toList).toArray := by
      rw [← Array.foldl_toList, Array.toList_zipIdx]
      exact hfold
    rw [List.map_cons, Instr.fill]
    simp only
    rw [show (decide ((a.eval x).cells.size ≠ e.size) || decide (i * e.size + (a.eval x).cells.size > cells.size)) = false from hcond]
    simp only [Bool.false_eq_true, if_false]
    rw [hz, hfill _ (by simp [writeAt_length, hsz])]
    simp only [List.toList_toArray]
    rw [writeAt_append, hvl, Nat.add_mul, Nat.one_mul]

theorem newAlone_append {bl : List Blk} : ∀ (xs ys : List A), newAlone bl (xs ++ ys) = (newAlone bl xs && newAlone bl ys)
  | [], ys => rfl
  | x :: xs, ys => by simp only [List.cons_append, newAlone, newAlone_append xs ys, Bool.and_assoc]

theorem newAlone_flat {bl : List Blk} {α : Type} (f : α → List A) : ∀ (ps : List α), newAlone bl (ps.flatMap f) = true → ∀ p ∈ ps, newAlone bl (f p) = true
  | [], _, p, h => by simp at h
  | q :: ps, hn, p, h => by
    rw [List.flatMap_cons, newAlone_append, Bool.and_eq_true] at hn
    rcases List.mem_cons.mp h with rfl | h
    · exact hn.1
    · exact newAlone_flat f ps hn.2 p h

theorem run_buildSlice {t u : TypeId} {e : Ty} (hu : P.underlying t = some (.slice u)) (hte : TyOf P u e) {n : Nat} (hbig : n * e.size ≤ 16777216) {parts : Array (Nat × Value)} {Z cells : Array Value}
    (hZ : Z = if n * e.size = 0 then #[] else (zeroVals e).toArray) (hf : Instr.fill (fun i => some (i * e.size, e.size)) ((Array.range (n * e.size)).map (Z[· % Z.size]!)) parts.toList = some cells) :
    (Instr.buildSlice t n parts).run P w = .ok (.slice (some ⟨w.heap.size, 0, none⟩) n n) { w with heap := w.heap.push (.cells cells u) } := by
  have hb : ¬ (n * e.size > 2 ^ 24) := by omega
  unfold Instr.buildSlice
  simp only [Sem.run_bind, run_underlying hu, Result.andThen_ok, run_sizeOf hte, hb, if_false]
  by_cases h0 : n * e.size = 0
  · simp only [h0, if_true] at hZ hf ⊢
    subst hZ
    simp only [Sem.run_bind, Sem.run_pure, Result.andThen_ok, hf]
    simp [newRow]
  · simp only [h0, if_false] at hZ hf ⊢
    subst hZ
    simp only [Sem.run_bind, Sem.run_pure, Result.andThen_ok, run_zeroValue hte, zeroV_cells hte, hf]
    simp [newRow]

theorem eff_buildSlice (hcx : cx.ok P) (hR : Rel E w0 μ st a w) {inl : Inl ρ} {path : List Nat} {t : TypeId} {n : Nat} {ps : Array (Nat × Operand)} (ho : o.op = .buildSlice t n ps) (h : evOp cx inl path o st K = some r) : Eff P E w0 μ st a w o K r := by
  unfold evOp at h; simp only [ho] at h
  split at h
  case h_2 => cases h
  next e he =>
  have hb := (cond_none h).1
  replace h := (cond_none h).2
  have hb : n * e.size ≤ 16777216 := Nat.le_of_ble_eq_true hb
  revert h
  split
  case h_2 => intro h; cases h
  next l st' hl hf =>
  intro h
  obtain ⟨u, hu, hte⟩ := elemTy_sound hcx he
  have hpos := e.size_pos
  obtain ⟨r1, t1, g1, o1, f1, k1⟩ := freezeAll_sound _ hR hf
  let nf := newAlone st.bl (ps.toList.flatMap fun p => (st.get p.2).cells)
  obtain ⟨news, hch, hlen, hfill⟩ := fillElems_sound (need := nf) (bs := rowsIn (ps.toList.map fun p => st.get p.2)) hR ps.toList 0 n l hl
    (fun p hp b hbm => by
      unfold rowsIn
      rw [List.mem_flatMap]
      exact ⟨st.get p.2, List.mem_map.mpr ⟨p, hp, rfl⟩, hbm⟩)
    (fun p hp c hc fr u' l' e' hne => by
      have := newAlone_get _ (newAlone_flat _ _ hne p hp) c hc
      rw [e'] at this; exact this)
  rw [Nat.add_zero] at hlen
  subst hlen
  have hz := zeroVals_length e
  obtain ⟨Z, hZ⟩ : ∃ Z : Array Value, Z = if l.length * e.size = 0 then #[] else (zeroVals e).toArray := ⟨_, rfl⟩
  have hfl := hfill ((Array.range (l.length * e.size)).map (Z[· % Z.size]!)) (by simp)
  rw [Nat.zero_mul, Array.toList_map, Array.toList_range] at hfl
  obtain ⟨cells, hcells⟩ : ∃ cells : Array Value, cells = (writeAt ((List.range (l.length * e.size)).map (Z[· % Z.size]!)) 0 news).toArray := ⟨_, rfl⟩
  rw [← hcells] at hfl
  have hcl : cells.size = l.length * e.size := by rw [hcells]; simp [writeAt_length]
  have hmap : (ps.map fun p => (p.1, a.eval p.2)).toList = ps.toList.map fun p => (p.1, a.eval p.2) := by simp
  have hrun := run_buildSlice (w := w) hu hte hb (parts := ps.map fun p => (p.1, a.eval p.2)) hZ (by rw [hmap]; exact hfl)
  have hel : Elems w (E.D μ st'.bl nf) e l cells.toList := by
    refine (hch.weaken fun k hk => Env.X_D hk o1 f1).elems fun j hj => ?_
    have := writeAt_get_in news ((List.range (l.length * e.size)).map (Z[· % Z.size]!)) 0 j (by simp [hch.len]) hj
    rw [Nat.zero_add] at this
    rw [hcells]
    exact this
  obtain ⟨m2, e2⟩ := snoc_row r1.mem (below_push w (.cells cells u)) (Nat.le_refl _) (heap_push_new w _) (unfrozen_zero _) (nf := nf) (t := e) (l := l) (cap := l.length) (Nat.le_refl _) hcl hel 0
  refine ⟨_, _, _, .slice (some ⟨w.heap.size, 0, none⟩) l.length l.length, _, h, ?_, r1.next m2 e2, t1, g1.trans (goes_snoc (bl' := []) e2), Or.inl (by unfold execOp; simp only [ho]; simp [hrun])⟩
  refine ⟨⟨rfl, by simp⟩, fun g' own nf' u' l' hb' => ?_⟩
  rw [getElem?_snoc_last] at hb'
  cases hb'
  exact ⟨Nat.le_refl _, fun _ => by rw [Lie.put_same]; simp [RowVal]⟩
end
end Go.Proofs.YtcaknaddeblecaaGreatDoor.Ev

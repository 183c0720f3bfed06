/- Rows grow; variables and elements are written. -/
import Derived.Test.YtcaknaddeblecaaGreatDoorEvK
namespace Go.Proofs.YtcaknaddeblecaaGreatDoor.Ev
open Go Go.RowKit
set_option linter.unusedVariables false
set_option linter.unusedSimpArgs false
variable {ρ : Type}

/-- a block's cells, written anew -/
def rowSet (w : World) (g : Nat) (vals : List Value) (ty : TypeId) (fz : Nat × Nat) : World := { w with heap := w.heap.setIfInBounds g (.cells vals.toArray ty fz) }

theorem heap_lt {w : World} {g : Nat} {o : Obj} (h : w.heap[g]? = some o) : g < w.heap.size := by
  rcases Nat.lt_or_ge g w.heap.size with q | q
  · exact q
  · rw [Array.getElem?_eq_none (by simpa using q)] at h; cases h

theorem rowSet_same {w : World} {g : Nat} {vals : List Value} {ty : TypeId} {fz : Nat × Nat} (h : g < w.heap.size) : (rowSet w g vals ty fz).heap[g]? = some (.cells vals.toArray ty fz) := by
  simp [rowSet, Array.getElem?_setIfInBounds, h]
theorem rowSet_other {w : World} {g k : Nat} {vals : List Value} {ty : TypeId} {fz : Nat × Nat} (h : k ≠ g) : (rowSet w g vals ty fz).heap[k]? = w.heap[k]? := by
  simp [rowSet, Array.getElem?_setIfInBounds, Ne.symm h]
theorem rowSet_size {w : World} {g : Nat} {vals : List Value} {ty : TypeId} {fz : Nat × Nat} : (rowSet w g vals ty fz).heap.size = w.heap.size := by
  simp [rowSet]
theorem rowSet_set {w : World} {g : Nat} {us vs : List Value} {ty : TypeId} {fz : Nat × Nat} : rowSet (rowSet w g us ty fz) g vs ty fz = rowSet w g vs ty fz := by
  simp [rowSet]

theorem setCell_rowSet {w : World} {g off : Nat} {vals : Array Value} {ty : TypeId} {fz : Nat × Nat} (h : w.heap[g]? = some (.cells vals ty fz)) (v : Value) : w.setCell ⟨g, off, none⟩ v = rowSet w g (vals.toList.set off v) ty fz := by
  have hlt := heap_lt h
  unfold World.setCell rowSet
  congr 1
  apply Array.ext_getElem?
  intro i
  rw [Array.getElem?_modify, Array.getElem?_setIfInBounds]
  by_cases e : g = i
  · subst e
    simp only [if_true, h, hlt, Option.map_some]
    congr 2
    simp
    rw [← Array.toList_setIfInBounds]
  · simp [e]

theorem rowSet_self {w : World} {g : Nat} {vals : Array Value} {ty : TypeId} {fz : Nat × Nat} (h : w.heap[g]? = some (.cells vals ty fz)) : rowSet w g vals.toList ty fz = w := by
  have hlt := heap_lt h
  unfold rowSet
  have : w.heap.setIfInBounds g (.cells vals.toList.toArray ty fz) = w.heap := by
    apply Array.ext_getElem?
    intro i
    rw [Array.getElem?_setIfInBounds]
    by_cases e : g = i
    · subst e; rw [if_pos rfl, if_pos hlt, h]
    · simp [e]
  rw [this]

theorem run_storeCells {P : Program} {g off : Nat} {ty : TypeId} {fz : Nat × Nat} : ∀ (news : List Value) (i : Nat) (w : World) (vals : Array Value), w.heap[g]? = some (.cells vals ty fz) → unfrozen vals fz → (∀ u ∈ news, u.oneCell' = true) →
    off + i + news.length ≤ vals.size → (storeCells ⟨g, off, none⟩ news i).run P w = .ok () (rowSet w g (writeAt vals.toList (off + i) news) ty fz)
  | [], i, w, vals, h, _, _, _ => by simp [storeCells, writeAt, rowSet_self h]
  | u :: news, i, w, vals, h, hf, h1, hl => by
    simp only [List.length_cons] at hl
    have hlt : off + i < vals.size := by omega
    have hcell : w.cell? ⟨g, off + i, none⟩ = some vals[off + i] := by rw [cell_row h, Array.getElem?_toList, Array.getElem?_eq_getElem hlt]
    have hfz : w.frozen? ⟨g, off + i, none⟩ = false := by
      simp only [World.frozen?, h]
      have := hf (off + i) hlt
      rw [← Bool.not_eq_true, Bool.and_eq_true, decide_eq_true_iff, decide_eq_true_iff]
      exact this
    have hset := setCell_rowSet h (off := off + i) u
    have h' : (rowSet w g (vals.toList.set (off + i) u) ty fz).heap[g]? = some (.cells (vals.setIfInBounds (off + i) u) ty fz) := by
      rw [rowSet_same (heap_lt h)]
      congr 2
      rw [← Array.toList_setIfInBounds]
    have ih := run_storeCells (P := P) (off := off) news (i + 1) _ _ h' (fun j hj hh => hf j (by simpa using hj) hh) (fun x hx => h1 x (List.mem_cons_of_mem _ hx)) (by simp only [Array.size_setIfInBounds]; omega)
    simp only [storeCells, Sem.run_bind, add_none]
    rw [run_store P w _ u .plain (h1 u (List.mem_cons_self ..))]
    simp only [hcell, hfz, Bool.false_eq_true, if_false, Result.andThen_ok, hset]
    rw [ih, rowSet_set, writeAt, Array.toList_setIfInBounds, Nat.add_assoc]

theorem writeAt_get_out {α : Type} : ∀ (xs as : List α) (off i : Nat), i < off ∨ off + xs.length ≤ i → (writeAt as off xs)[i]? = as[i]?
  | [], _, _, _, _ => rfl
  | x :: xs, as, off, i, h => by
    rw [writeAt, writeAt_get_out xs _ (off + 1) i (by simp at h; omega)]
    rw [List.getElem?_set_ne (by simp at h; omega)]

theorem writeAt_get_in {α : Type} : ∀ (xs as : List α) (off i : Nat), off + xs.length ≤ as.length → i < xs.length → (writeAt as off xs)[off + i]? = xs[i]?
  | [], _, _, _, _, h => by simp at h
  | x :: xs, as, off, 0, hl, _ => by
    rw [writeAt, writeAt_get_out xs _ (off + 1) (off + 0) (Or.inl (by omega))]
    simp only [List.length_cons] at hl
    rw [Nat.add_zero, List.getElem?_set_self (by omega)]
    rfl
  | x :: xs, as, off, i + 1, hl, h => by
    rw [writeAt, show off + (i + 1) = off + 1 + i by omega, writeAt_get_in xs _ (off + 1) i (by simp at hl ⊢; omega) (by simp at h; omega)]
    simp

section
variable {P : Program} {cx : Cx} {E : Env} {w0 w : World} {μ : Lie} {st : St} {a : Act} {o : Oper} {K : V → St → Option ρ} {r : ρ}

theorem lock_false {b : Nat} {c : Bool} (h : (c && !st.lock.contains b) = true) : c = true ∧ st.lock.contains b = false := by
  simp only [Bool.and_eq_true, Bool.not_eq_true'] at h; exact h

/-- a variable is written -/
theorem eff_store_var (hcx : cx.ok P) (hR : Rel E w0 μ st a w) {t : TypeId} {ad x : Operand} (ho : o.op = .store t ad x) {ty : Ty} (ht : cx.ty t = some ty) {v cs : List A} (hv : (st.get x).full = some v) (hlen : v.length = ty.size)
    {b off : Nat} (ha : st.get ad = .at (.ptr b off)) (hb : st.bl[b]? = some (.var cs)) (hle : off + v.length ≤ cs.length) (hl : st.lock.contains b = false)
    (h : K V.undef { st with bl := st.bl.set b (.var (writeAt cs off v)) } = some r) : Eff P E w0 μ st a w o K r := by
  have hmine : mine st.bl b := by unfold mine; rw [hb]; trivial
  have hra := hR.get ad
  rw [ha] at hra
  obtain ⟨k, c, hk, ev⟩ := hra.2 cs hb
  obtain ⟨k', c', vals, vty, fz, h1, h2, h3, h4, h5⟩ := hR.mem.blocks b _ hb
  rw [hk] at h1; cases h1
  have hrv := full_sound (hR.get x) hv
  have hvl := hrv.length
  have hcl := h5.length
  have hone : ∀ u ∈ (a.eval x).cells.toList, u.oneCell' = true := by
    intro u hu
    obtain ⟨i, hi⟩ := List.getElem?_of_mem hu
    have hlt : i < v.length := by
      rw [hvl]
      rcases Nat.lt_or_ge i (a.eval x).cells.toList.length with q | q
      · exact q
      · rw [List.getElem?_eq_none q] at hi; cases hi
    obtain ⟨u', hu', hr⟩ := hrv.get (List.getElem?_eq_getElem hlt)
    rw [hi] at hu'; cases hu'
    exact hr.one
  have hrun := run_storeCells (P := P) (off := off) (a.eval x).cells.toList 0 w vals h3 h4 hone (by rw [← hvl]; simp only [Array.length_toList] at hcl; omega)
  rw [Nat.add_zero] at hrun
  have hkl := heap_lt h3
  have hmt := hR.mem.turn (w' := rowSet w k (writeAt vals.toList off (a.eval x).cells.toList) vty fz) (blk' := .var (writeAt cs off v)) hb hmine (μ b) rfl rfl rfl (by rw [rowSet_size]; exact Nat.le_refl _)
    (fun j hj hne => rowSet_other fun e => hne c (e ▸ hk)) (Or.inl rfl) (fun cs' e => ⟨⟨cs, rfl⟩, rfl⟩) (fun _ _ _ _ _ e => by cases e)
    (fun ev' => ⟨k, c, (writeAt vals.toList off (a.eval x).cells.toList).toArray, vty, fz, by rw [Lie.put_same]; exact hk, h2, rowSet_same hkl,
      (fun i hi hh => h4 i (by simpa [writeAt_length] using hi) hh), by
        have hw : RepAs E w μ st.bl (writeAt cs off v) (writeAt vals.toList off (a.eval x).cells.toList) := h5.writeAt off hrv
        exact ev'.reps hw⟩)
  rw [Lie.put_eq rfl] at hmt
  refine ⟨_, _, _, undef, _, h, trivial, hR.next hmt.1 hmt.2, rfl, goes_set hl hmt.2, Or.inr ⟨?_, rfl⟩⟩
  unfold execOp
  simp only [ho]
  have hsz : (a.eval x).cells.size = ty.size := by rw [← hlen, hvl, Array.length_toList]
  simp [Instr.storeAt, ev, Instr.sureAddr, storeVar, run_sizeOf (hcx.ty t _ ht), hsz, hrun]

theorem rowsOf_mem : ∀ (cs : List A) (x : A), x ∈ cs → ∀ b g, x = .os b g → b ∈ rowsOf cs
  | [], _, h, _, _, _ => by simp at h
  | c :: cs, x, h, b, g, e => by
    rcases List.mem_cons.mp h with rfl | h
    · subst e; simp [rowsOf]
    · have := rowsOf_mem cs x h b g e
      cases c <;> simp [rowsOf] <;> first | exact this | exact Or.inr this

theorem newAlone_get {bl : List Blk} : ∀ (cs : List A), newAlone bl cs = true → ∀ c ∈ cs, (match c.view bl with | .sl fr _ _ => fr | .err _ => false | _ => true) = true
  | [], _, c, h => by simp at h
  | x :: cs, hn, c, h => by
    simp only [newAlone, Bool.and_eq_true] at hn
    rcases List.mem_cons.mp h with rfl | h
    · exact hn.1
    · exact newAlone_get cs hn.2 c h

/-- cells of one element are held when each is, with the fresh flag of each -/
theorem ofCells_fresh {bl : List Blk} {bs : List Nat} {need : Bool} : ∀ (t : Ty) (cs : List A) (vs : List Value) (x : t.den) (rest : List A), All2 (RepX E w μ bl bs) cs vs → t.ofCells false cs = some (x, rest) →
    (∀ c ∈ cs, ∀ fr u l, c = .sl fr u l → need = true → fr = true) → t.ofCells need cs = some (x, rest) := by
  intro t
  induction t with
  | slice e ih =>
    intro cs vs x rest h hc hn
    cases cs with
    | nil => simp [Ty.ofCells] at hc
    | cons c cs =>
      cases c with
      | sl fr t' l =>
        simp only [Ty.ofCells] at hc ⊢
        split at hc
        · next p hq =>
          have hc : some (p ▸ l, cs) = some (x, rest) := hc
          have : (need && !fr) = false := by
            cases need with
            | false => rfl
            | true => rw [hn _ (List.mem_cons_self ..) fr t' l rfl rfl]; rfl
          rw [this]; exact hc
        · cases hc
      | _ => simp [Ty.ofCells] at hc
  | pair a b iha ihb =>
    intro cs vs x rest h hc hn
    simp only [Ty.ofCells] at hc ⊢
    split at hc
    · next x1 r1 h1 =>
      split at hc
      · next x2 r2 h2 =>
        obtain ⟨us, ws, e1, _, p2, pre, q1, _⟩ := ofCells_sound a cs vs x1 r1 h h1
        rw [iha cs vs x1 r1 h h1 hn]
        have e2 := ihb r1 ws x2 r2 p2 h2 (fun c hcm => hn c (by rw [q1]; exact List.mem_append_right _ hcm))
        simp only [e2]
        exact hc
      · cases hc
    · cases hc
  | struct b ih =>
    intro cs vs x rest h hc hn
    exact ih cs vs x rest h hc hn
  | int k =>
    intro cs vs x rest h hc hn
    cases cs with
    | nil => simp [Ty.ofCells] at hc
    | cons c cs => cases c <;> simp [Ty.ofCells] at hc ⊢ <;> exact hc
  | bool =>
    intro cs vs x rest h hc hn
    cases cs with
    | nil => simp [Ty.ofCells] at hc
    | cons c cs => cases c <;> simp [Ty.ofCells] at hc ⊢ <;> exact hc
  | str =>
    intro cs vs x rest h hc hn
    cases cs with
    | nil => simp [Ty.ofCells] at hc
    | cons c cs => cases c <;> simp [Ty.ofCells] at hc ⊢ <;> exact hc
  | err =>
    intro cs vs x rest h hc hn
    cases cs with
    | nil => simp [Ty.ofCells] at hc
    | cons c cs => cases c <;> simp [Ty.ofCells] at hc ⊢ <;> exact hc

theorem mem_writeAt {α : Type} : ∀ (xs as : List α) (off : Nat) (x : α), x ∈ writeAt as off xs → x ∈ as ∨ x ∈ xs
  | [], _, _, _, h => Or.inl h
  | y :: xs, as, off, x, h => by
    rcases mem_writeAt xs _ _ x h with h | h
    · rcases List.mem_or_eq_of_mem_set h with h | rfl
      · exact Or.inl h
      · exact Or.inr (List.mem_cons_self ..)
    · exact Or.inr (List.mem_cons_of_mem _ h)

theorem cells_kind (fr : Bool) : ∀ (t : Ty) (x : t.den), ∀ c ∈ t.cells fr x, (∀ b g, c ≠ .os b g) ∧ (∀ f u l, c = .sl f u l → f = fr ∧ t.flat = false)
  | .int k, n, c, h => by simp [Ty.cells] at h; subst h; simp
  | .bool, b, c, h => by simp [Ty.cells] at h; subst h; simp
  | .str, s, c, h => by simp [Ty.cells] at h; subst h; simp
  | .err, b, c, h => by simp [Ty.cells] at h; subst h; simp
  | .slice e, l, c, h => by
    simp [Ty.cells] at h; subst h
    exact ⟨by simp, fun f u l' e => by cases e; exact ⟨rfl, rfl⟩⟩
  | .pair a b, x, c, h => by
    simp only [Ty.cells, List.mem_append] at h
    rcases h with h | h
    · obtain ⟨h1, h2⟩ := cells_kind fr a x.1 c h
      exact ⟨h1, fun f u l e => ⟨(h2 f u l e).1, by simp [Ty.flat, (h2 f u l e).2]⟩⟩
    · obtain ⟨h1, h2⟩ := cells_kind fr b x.2 c h
      exact ⟨h1, fun f u l e => ⟨(h2 f u l e).1, by simp [Ty.flat, (h2 f u l e).2]⟩⟩
  | .struct b, x, c, h => cells_kind fr b x c h

theorem Env.D_less {bl : List Blk} {f f' : Bool} (h : f' = true → f = true) {k : Nat} (hd : E.D μ bl f k) : E.D μ bl f' k := by
  refine ⟨?_, hd.2⟩
  rcases hd.1 with h1 | ⟨rfl, h1⟩
  · exact Or.inl h1
  · cases f' with
    | true => exact absurd (h rfl) (by simp)
    | false => exact Or.inr ⟨rfl, h1⟩

theorem view_reps {bl : List Blk} (hm : Mem E w0 w μ bl) {bs : List Nat} : ∀ (cs : List A) (vs : List Value), RepAs E w μ bl cs vs → (∀ c ∈ cs, ∀ b g, c = .os b g → b ∈ bs) → All2 (RepX E w μ bl bs) (cs.map (A.view bl)) vs
  | [], [], _, _ => trivial
  | c :: cs, v :: vs, h, hb => ⟨view_rep hm h.1 (hb c (List.mem_cons_self ..)), view_reps hm cs vs h.2 fun c hc => hb c (List.mem_cons_of_mem _ hc)⟩
  | [], _ :: _, h, _ => h.elim
  | _ :: _, [], h, _ => h.elim

theorem putIn_sound {bl : List Blk} (hm : Mem E w0 w μ bl) {t : Ty} {cs : List A} {vs : List Value} {y : t.den} {bs : List Nat} {need : Bool} (hr : RepAs E w μ bl cs vs) (hb : ∀ c ∈ cs, ∀ b g, c = .os b g → b ∈ bs)
    (hn : ∀ c ∈ cs, ∀ fr u l, c.view bl = .sl fr u l → need = true → fr = true) (h : putIn t bl cs = some y) : Holds w (E.X μ bl bs need) t y vs := by
  unfold putIn at h
  split at h
  · next x hx =>
    cases h
    have hv := view_reps hm cs vs hr hb
    have h2 := ofCells_fresh (need := need) t _ vs y [] hv hx (fun c hc fr u l e hne => by
      obtain ⟨c', hc', rfl⟩ := List.mem_map.mp hc
      exact hn c' hc' fr u l e hne)
    obtain ⟨us, ws, e1, e2, e3, _⟩ := ofCells_sound t _ vs y [] hv h2
    have hws : ws = [] := by cases ws with | nil => rfl | cons _ _ => exact e3.elim
    subst hws
    rw [List.append_nil] at e1
    subst e1; exact e2
  · cases h

theorem part_writeAt {α : Type} {vals news : List α} {p n off : Nat} (h1 : off + news.length ≤ n) (h2 : p + n ≤ vals.length) : ((writeAt vals (p + off) news).drop p).take n = writeAt ((vals.drop p).take n) off news := by
  apply List.ext_getElem?
  intro j
  rcases Nat.lt_or_ge j n with g | g
  · rw [drop_take_get _ _ _ _ g]
    by_cases hj : j < off ∨ off + news.length ≤ j
    · rw [writeAt_get_out _ _ _ _ hj, writeAt_get_out _ _ _ _ (by omega), drop_take_get _ _ _ _ g]
    · obtain ⟨d, rfl⟩ : ∃ d, j = off + d := ⟨j - off, by omega⟩
      rw [← Nat.add_assoc, writeAt_get_in _ _ _ _ (by omega) (by omega), writeAt_get_in _ _ _ _ (by simp; omega) (by omega)]
  · rw [List.getElem?_eq_none (by simp; omega), List.getElem?_eq_none (by rw [writeAt_length]; simp; omega)]

theorem part_other {α : Type} {vals news : List α} {p q n off : Nat} (h1 : off + news.length ≤ n) (h : p + n ≤ q ∨ q + n ≤ p) : ((writeAt vals (q + off) news).drop p).take n = (vals.drop p).take n := by
  apply List.ext_getElem?
  intro j
  rcases Nat.lt_or_ge j n with g | g
  · rw [drop_take_get _ _ _ _ g, drop_take_get _ _ _ _ g, writeAt_get_out _ _ _ _ (by omega)]
  · rw [List.getElem?_eq_none (by simp; omega), List.getElem?_eq_none (by simp; omega)]

theorem ones_of {bl : List Blk} {cs : List A} {vs : List Value} (h : RepAs E w μ bl cs vs) : ∀ u ∈ vs, u.oneCell' = true := by
  intro u hu
  obtain ⟨i, hi⟩ := List.getElem?_of_mem hu
  have hlt : i < cs.length := by
    rw [h.length]
    rcases Nat.lt_or_ge i vs.length with q | q
    · exact q
    · rw [List.getElem?_eq_none q] at hi; cases hi
  obtain ⟨u', hu', hr⟩ := h.get (List.getElem?_eq_getElem hlt)
  rw [hi] at hu'; cases hu'
  exact hr.one

/-- an element of an own row is written -/
theorem eff_store_elem (hcx : cx.ok P) (hR : Rel E w0 μ st a w) {t : TypeId} {ad x : Operand} (ho : o.op = .store t ad x) {ty : Ty} (ht : cx.ty t = some ty) {v : List A} (hv : (st.get x).full = some v) (hlen : v.length = ty.size)
    {b g i off : Nat} (ha : st.get ad = .at (.ep b g i off)) {nf own own2 nf2 : Bool} {g2 : Nat} {u t2 : Ty} {l : List u.den} {l2 : List t2.den} (hb : st.bl[b]? = some (.arr g own nf u l)) (hl : st.lock.contains b = false) (hle : off + v.length ≤ u.size)
    {y : u.den} (hp : putIn u st.bl (writeAt (u.cells (nf || u.flat) (l.getD i u.zero)) off v) = some y) {st' : St} (hf : freezeAll st (rowsOf v) = some st') (hb2 : st'.bl[b]? = some (.arr g2 true nf2 t2 l2))
    (h : K V.undef { st' with bl := st'.bl.set b (.arr g true (nf && newAlone st.bl v) u (l.set i y)) } = some r) : Eff P E w0 μ st a w o K r := by
  have hra := hR.get ad
  rw [ha] at hra
  obtain ⟨hi, k, c, hk, ev⟩ := (hra.2 _ _ _ _ _ hb).2 rfl
  obtain ⟨r1, t1, g1, o1, f1, k1⟩ := freezeAll_sound _ hR hf
  obtain ⟨own', hb'⟩ := k1 _ _ _ _ _ _ hb
  rw [hb'] at hb2
  cases hb2
  have hmine : mine st'.bl b := by unfold mine; rw [hb']
  rcases r1.mem.blocks b _ hb' with ⟨h1, _⟩ | ⟨k', cap, vals, vty, fz, h1, h2, h3, h4, h5, h6, h7⟩
  · rw [hk] at h1; cases h1
  rw [hk] at h1; cases h1
  have hrv := full_sound (hR.get x) hv
  have hvl := hrv.length
  have hpos := u.size_pos
  have hin : i * u.size + u.size ≤ vals.toList.length := by
    rw [Array.length_toList, h6]
    have : (i + 1) * u.size ≤ c * u.size := Nat.mul_le_mul_right _ (by omega)
    rw [Nat.add_mul] at this; omega
  have hnl : off + (a.eval x).cells.toList.length ≤ u.size := by rw [← hvl]; exact hle
  have hrun := run_storeCells (P := P) (off := i * u.size + off) (a.eval x).cells.toList 0 w vals h3 h4 (ones_of hrv) (by rw [Array.length_toList] at hin; omega)
  rw [Nat.add_zero] at hrun
  have hkl := heap_lt h3
  have hgetD : l.getD i u.zero = l[i] := by rw [List.getD_eq_getElem?_getD, List.getElem?_eq_getElem hi]; rfl
  -- the element's new cells
  have helem : Holds w (E.X μ st.bl (rowsOf v) (nf && newAlone st.bl v)) u y (writeAt ((vals.toList.drop (i * u.size)).take u.size) off (a.eval x).cells.toList) := by
    have hold : RepAs E w μ st.bl (u.cells (nf || u.flat) (l.getD i u.zero)) ((vals.toList.drop (i * u.size)).take u.size) := by
      rw [hgetD]
      rcases hR.mem.blocks b _ hb with ⟨q1, _⟩ | ⟨k2, cap2, vals2, vty2, fz2, q1, _, q3, _, _, _, q7⟩
      · rw [hk] at q1; cases q1
      · rw [hk] at q1; cases q1
        rw [h3] at q3; cases q3
        have hh := q7 i hi
        cases hfl : u.flat with
        | true => exact Holds.cells (hh.flat hfl)
        | false => rw [Bool.or_false]; exact hh.cells
    refine putIn_sound hR.mem (hold.writeAt off hrv) (fun c hc b' g' e => ?_) (fun c hc fr t' l' e hne => ?_) hp
    · rcases mem_writeAt _ _ _ _ hc with hc | hc
      · exact absurd e ((cells_kind _ u _ c hc).1 b' g')
      · exact rowsOf_mem v c hc b' g' e
    · rw [Bool.and_eq_true] at hne
      rcases mem_writeAt _ _ _ _ hc with hc | hc
      · have hck := cells_kind _ u _ c hc
        cases c <;> simp [A.view] at e
        · obtain ⟨rfl, rfl, rfl⟩ := e
          have := (hck.2 _ _ _ rfl).1
          rw [this, hne.1]; rfl
        · exact absurd rfl (hck.1 _ _)
      · have := newAlone_get v hne.2 c hc
        rw [e] at this; exact this
  have hD : ∀ k2, E.X μ st.bl (rowsOf v) (nf && newAlone st.bl v) k2 → E.D μ st'.bl (nf && newAlone st.bl v) k2 := fun k2 hk2 => Env.X_D hk2 o1 f1
  have hmt := r1.mem.turn (w' := rowSet w k (writeAt vals.toList (i * u.size + off) (a.eval x).cells.toList) vty fz) (blk' := .arr g true (nf && newAlone st.bl v) u (l.set i y)) hb' hmine (μ b) rfl rfl rfl (by rw [rowSet_size]; exact Nat.le_refl _)
    (fun j hj hne => rowSet_other fun e => hne c (e ▸ hk)) (Or.inl rfl) (fun cs' e => by cases e) (fun _ _ _ _ _ e => by cases e; exact ⟨g, true, nf, l, rfl, Nat.le_refl _, fun _ => ⟨by simp, rfl⟩⟩)
    (fun ev' => Or.inr ⟨k, c, (writeAt vals.toList (i * u.size + off) (a.eval x).cells.toList).toArray, vty, fz, by rw [Lie.put_same]; exact hk, h2, rowSet_same hkl,
      (fun j hj hh => h4 j (by simpa [writeAt_length] using hj) hh), by simpa using h5, by simpa [writeAt_length] using h6, fun j hj => by
        have hj' : j < l.length := by simpa using hj
        by_cases e : j = i
        · subst e
          have : (l.set j y)[j] = y := by simp
          rw [this, List.toList_toArray, part_writeAt hnl hin]
          exact (helem.weaken fun k2 hk2 _ => hD k2 hk2).mono (ev'.D (E := E))
        · have : (l.set i y)[j] = l[j] := by rw [List.getElem_set_ne (by omega)]
          rw [this, List.toList_toArray, part_other hnl (by
            rcases Nat.lt_or_gt_of_ne e with q | q
            · left; have : (j + 1) * u.size ≤ i * u.size := Nat.mul_le_mul_right _ (by omega); rw [Nat.add_mul] at this; omega
            · right; have : (i + 1) * u.size ≤ j * u.size := Nat.mul_le_mul_right _ (by omega); rw [Nat.add_mul] at this; omega)]
          exact ((h7 j hj').weaken fun k2 hk2 _ => Env.D_less (fun h => by rw [Bool.and_eq_true] at h; exact h.1) hk2).mono (ev'.D (E := E))⟩)
  rw [Lie.put_eq rfl] at hmt
  have hl' : st'.lock.contains b = false := by rw [g1.lock]; exact hl
  refine ⟨_, _, _, undef, _, h, trivial, r1.next hmt.1 hmt.2, t1, g1.trans (goes_set hl' hmt.2), Or.inr ⟨?_, rfl⟩⟩
  unfold execOp
  simp only [ho]
  have hsz : (a.eval x).cells.size = ty.size := by rw [← hlen, hvl, Array.length_toList]
  simp [Instr.storeAt, ev, Instr.sureAddr, storeVar, run_sizeOf (hcx.ty t _ ht), hsz, hrun]
end
end Go.Proofs.YtcaknaddeblecaaGreatDoor.Ev

/- A row grows. -/
import Derived.Test.YtcaknaddeblecaaGreatDoorEvL
import Derived.Deep.Upon
namespace Go.Proofs.YtcaknaddeblecaaGreatDoor.Ev
open Go Go.RowKit
set_option linter.unusedVariables false
set_option linter.unusedSimpArgs false
variable {ρ : Type}

section
variable {P : Program} {cx : Cx} {E : Env} {w0 w : World} {μ : Lie} {st : St} {a : Act} {o : Oper} {K : V → St → Option ρ} {r : ρ}

theorem Holds.one {w : World} {S : Nat → Prop} : ∀ {t : Ty} {x : t.den} {vs : List Value}, Holds w S t x vs → ∀ u ∈ vs, u.oneCell' = true
  | .int k, n, vs, h, u, hu => by simp only [Holds] at h; subst h; simp at hu; subst hu; rfl
  | .bool, b, vs, h, u, hu => by simp only [Holds] at h; subst h; simp at hu; subst hu; rfl
  | .str, s, vs, h, u, hu => by simp only [Holds] at h; subst h; simp at hu; subst hu; rfl
  | .err, b, vs, h, u, hu => by
    simp only [Holds] at h; obtain ⟨v, rfl, h⟩ := h
    simp at hu; subst hu
    cases b with
    | true => obtain ⟨_, _, rfl⟩ := h; rfl
    | false => simp only at h; subst h; rfl
  | .slice e, l, vs, h, u, hu => by simp only [Holds] at h; obtain ⟨_, _, rfl, _⟩ := h; simp at hu; subst hu; rfl
  | .pair a b, x, vs, h, u, hu => by
    simp only [Holds] at h
    obtain ⟨us, ws, rfl, h1, h2⟩ := h
    rcases List.mem_append.mp hu with hu | hu
    · exact h1.one u hu
    · exact h2.one u hu
  | .struct b, x, vs, h, u, hu => Holds.one (t := b) h u hu

/-- cells of elements that stand one behind the other -/
structure Chunks (w : World) (S : Nat → Prop) (t : Ty) (l : List t.den) (news : List Value) : Prop where
  len : news.length = l.length * t.size
  el : Elems w S t l news

theorem Chunks.one {S : Nat → Prop} {t : Ty} {l : List t.den} {news : List Value} (h : Chunks w S t l news) : ∀ u ∈ news, u.oneCell' = true := by
  intro u hu
  obtain ⟨j, hj⟩ := List.getElem?_of_mem hu
  have hpos := t.size_pos
  have hlt : j < news.length := by
    rcases Nat.lt_or_ge j news.length with g | g
    · exact g
    · rw [List.getElem?_eq_none g] at hj; cases hj
  have hi : j / t.size < l.length := by rw [Nat.div_lt_iff_lt_mul hpos, ← h.len]; exact hlt
  refine (h.el _ hi).one u (List.mem_of_getElem? (i := j % t.size) ?_)
  rw [drop_take_get _ _ _ _ (Nat.mod_lt _ hpos), Nat.mul_comm, Nat.div_add_mod]
  exact hj

theorem Chunks.append {S : Nat → Prop} {t : Ty} {l m : List t.den} {xs ys : List Value} (h : Chunks w S t l xs) (h' : Chunks w S t m ys) : Chunks w S t (l ++ m) (xs ++ ys) := by
  refine ⟨by rw [List.length_append, List.length_append, Nat.add_mul, h.len, h'.len], fun i hi => ?_⟩
  by_cases g : i < l.length
  · rw [List.getElem_append_left g]
    have : ((xs ++ ys).drop (i * t.size)).take t.size = (xs.drop (i * t.size)).take t.size := by
      apply List.ext_getElem?
      intro j
      rcases Nat.lt_or_ge j t.size with q | q
      · have : (i + 1) * t.size ≤ l.length * t.size := Nat.mul_le_mul_right _ g
        rw [Nat.add_mul, ← h.len] at this
        rw [drop_take_get _ _ _ _ q, drop_take_get _ _ _ _ q, List.getElem?_append_left (by omega)]
      · rw [List.getElem?_eq_none (by simp; omega), List.getElem?_eq_none (by simp; omega)]
    rw [this]
    exact h.el i g
  · have hi' : i - l.length < m.length := by rw [List.length_append] at hi; omega
    rw [List.getElem_append_right (by omega)]
    have : ((xs ++ ys).drop (i * t.size)).take t.size = (ys.drop ((i - l.length) * t.size)).take t.size := by
      apply List.ext_getElem?
      intro j
      rcases Nat.lt_or_ge j t.size with q | q
      · have e : i * t.size + j = xs.length + ((i - l.length) * t.size + j) := by
          rw [h.len, ← Nat.add_assoc, ← Nat.add_mul, show l.length + (i - l.length) = i by omega]
        rw [drop_take_get _ _ _ _ q, drop_take_get _ _ _ _ q, e, List.getElem?_append_right (by omega), Nat.add_sub_cancel_left]
      · rw [List.getElem?_eq_none (by simp; omega), List.getElem?_eq_none (by simp; omega)]
    rw [this]
    exact h'.el _ hi'

/-- the cells of a slice's elements -/
theorem Holds.chunks {S : Nat → Prop} {t : Ty} {l : List t.den} {v : Value} (h : Holds w S (.slice t) l [v]) :
    ∃ ad cap news, v = .slice ad l.length cap ∧ Chunks w S t l news ∧ (∀ b, ad = some b → ∀ j u, news[j]? = some u → w.cell? (b.add j) = some u) ∧ (ad = none → l = []) := by
  simp only [Holds] at h
  obtain ⟨ad, cap, ev, hcap, hel⟩ := h
  simp only [List.cons.injEq, and_true] at ev
  subst ev
  have hpos := t.size_pos
  cases ad with
  | none =>
    have : l = [] := by
      cases l with
      | nil => rfl
      | cons n r => obtain ⟨_, _, _, e, _⟩ := hel 0 (by simp); cases e
    subst this
    exact ⟨none, cap, [], rfl, ⟨by simp, fun i hi => absurd hi (Nat.not_lt_zero _)⟩, (fun b e => by cases e), fun _ => rfl⟩
  | some ad =>
    let news : List Value := (List.range (l.length * t.size)).map fun j => (w.cell? (ad.add j)).getD undef
    have hget : ∀ i (hi : i < l.length), ∃ cs, Holds w S t l[i] cs ∧ ∀ j, j < t.size → cs[j]? = w.cell? (ad.add (i * t.size + j)) ∧ (w.cell? (ad.add (i * t.size + j))).isSome := by
      intro i hi
      obtain ⟨blk, off, cs, e, _, hcs, hcell⟩ := hel i hi
      cases e
      refine ⟨cs, hcs, fun j hj => ?_⟩
      have hl := hcs.length
      have hj' : j < cs.length := by omega
      have := hcell j _ (List.getElem?_eq_getElem hj')
      rw [add_none, ← Nat.add_assoc, this]
      exact ⟨List.getElem?_eq_getElem hj', rfl⟩
    have hcell : ∀ j, j < l.length * t.size → news[j]? = w.cell? (ad.add j) := by
      intro j hj
      have hi : j / t.size < l.length := by rw [Nat.div_lt_iff_lt_mul hpos]; exact hj
      obtain ⟨cs, _, hcs⟩ := hget _ hi
      have := (hcs (j % t.size) (Nat.mod_lt _ hpos)).2
      rw [Nat.mul_comm, Nat.div_add_mod] at this
      simp only [news, List.getElem?_map, List.getElem?_range hj, Option.map_some]
      obtain ⟨u, hu⟩ := Option.isSome_iff_exists.mp this
      rw [hu]; rfl
    have hlen : news.length = l.length * t.size := by simp [news]
    refine ⟨some ad, cap, news, rfl, ⟨hlen, fun i hi => ?_⟩, fun b e j u hj => ?_, fun e => by cases e⟩
    · obtain ⟨cs, hh, hcs⟩ := hget i hi
      have hl := hh.length
      have : (news.drop (i * t.size)).take t.size = cs := by
        apply List.ext_getElem?
        intro j
        rcases Nat.lt_or_ge j t.size with q | q
        · have : (i + 1) * t.size ≤ l.length * t.size := Nat.mul_le_mul_right _ hi
          rw [Nat.add_mul] at this
          rw [drop_take_get _ _ _ _ q, hcell _ (by omega), (hcs j q).1]
        · rw [List.getElem?_eq_none (by simp; omega), List.getElem?_eq_none (by omega)]
      rw [this]; exact hh
    · cases e
      have hlt : j < l.length * t.size := by
        rcases Nat.lt_or_ge j (l.length * t.size) with g | g
        · exact g
        · rw [List.getElem?_eq_none (by omega)] at hj; cases hj
      rw [← hcell j hlt, hj]

theorem bytes_chunks {S : Nat → Prop} (s : ByteArray) : Chunks w S (.int .u8) (bytesOf s) (byteCells s) := by
  refine ⟨by simp [byteCells_length, bytesOf, Ty.size], fun i hi => ?_⟩
  have : byteCells s = (bytesOf s).map fun n => Value.int .u8 n := by simp [byteCells, bytesOf]
  rw [this]
  have e : (((bytesOf s).map fun n => Value.int .u8 n).drop (i * (Ty.int IntKind.u8).size)).take (Ty.int IntKind.u8).size = [.int .u8 (bytesOf s)[i]] := by
    apply List.ext_getElem?
    intro j
    cases j with
    | zero =>
      rw [drop_take_get _ _ _ _ (by simp [Ty.size])]
      simp only [Ty.size, Nat.mul_one, Nat.add_zero, List.getElem?_map, List.getElem?_eq_getElem hi, Option.map_some, List.getElem?_cons_zero]
    | succ j => simp [Ty.size]; omega
  rw [e]; rfl

theorem Elems.chunks {S : Nat → Prop} {t : Ty} {l : List t.den} {vals : List Value} (h : Elems w S t l vals) (hl : l.length * t.size ≤ vals.length) : Chunks w S t l (vals.take (l.length * t.size)) := by
  refine ⟨by simp; omega, fun i hi => ?_⟩
  have : ((vals.take (l.length * t.size)).drop (i * t.size)).take t.size = (vals.drop (i * t.size)).take t.size := by
    apply List.ext_getElem?
    intro j
    rcases Nat.lt_or_ge j t.size with q | q
    · have : (i + 1) * t.size ≤ l.length * t.size := Nat.mul_le_mul_right _ hi
      rw [Nat.add_mul] at this
      rw [drop_take_get _ _ _ _ q, drop_take_get _ _ _ _ q, List.getElem?_take_of_lt (by omega)]
    · rw [List.getElem?_eq_none (by simp; omega), List.getElem?_eq_none (by simp; omega)]
  rw [this]; exact h i hi

theorem Chunks.elems {S : Nat → Prop} {t : Ty} {l : List t.den} {news vals : List Value} (h : Chunks w S t l news) (hp : ∀ j, j < news.length → vals[j]? = news[j]?) : Elems w S t l vals := by
  intro i hi
  have : (vals.drop (i * t.size)).take t.size = (news.drop (i * t.size)).take t.size := by
    apply List.ext_getElem?
    intro j
    rcases Nat.lt_or_ge j t.size with q | q
    · have : (i + 1) * t.size ≤ l.length * t.size := Nat.mul_le_mul_right _ hi
      rw [Nat.add_mul, ← h.len] at this
      rw [drop_take_get _ _ _ _ q, drop_take_get _ _ _ _ q, hp _ (by omega)]
    · rw [List.getElem?_eq_none (by simp; omega), List.getElem?_eq_none (by simp; omega)]
  rw [this]; exact h.el i hi

theorem Chunks.weaken {S S' : Nat → Prop} (hS : ∀ k, S k → S' k) {t : Ty} {l : List t.den} {news : List Value} (h : Chunks w S t l news) : Chunks w S' t l news :=
  ⟨h.len, fun i hi => (h.el i hi).weaken fun k hk _ => hS k hk⟩
theorem Chunks.flat {S S' : Nat → Prop} {t : Ty} (hf : t.flat = true) {l : List t.den} {news : List Value} (h : Chunks w S t l news) : Chunks w S' t l news :=
  ⟨h.len, fun i hi => (h.el i hi).flat hf⟩

theorem rowTy_sound (hcx : cx.ok P) {t : TypeId} (h : rowTy cx t = true) : (∃ e', P.underlying t = some (.slice e')) ∨ P.underlying t = some .string := by
  unfold rowTy at h
  split at h
  · next e he => obtain ⟨u, hu, _⟩ := (hcx.ty t _ he).1; exact Or.inl ⟨u, hu⟩
  · next he => exact Or.inr (hcx.ty t _ he).1
  · cases h

/-- what an append's second operand yields -/
theorem rowOf_sound (hcx : cx.ok P) {bl : List Blk} (hm : Mem E w0 w μ bl) {Y : V} {v : Value} {m : Row} (hy : RepV E w μ bl Y v) (h : rowOf bl Y = some m) {tx : TypeId} (ht : rowTy cx tx = true) :
    ∃ news, Src P m.t.size tx v m.l.length news w ∧ Chunks w (E.D μ bl m.fr) m.t m.l news := by
  have hk := rowTy_sound hcx ht
  have base : ∀ (t : Ty) (l : List t.den) (S : Nat → Prop) (fr : Bool), (∀ k, S k → E.D μ bl fr k) → (∃ ad cap news, v = .slice ad l.length cap ∧ Chunks w S t l news ∧ (∀ b, ad = some b → ∀ j u, news[j]? = some u → w.cell? (b.add j) = some u) ∧ (ad = none → l = [])) →
      ∃ news, Src P t.size tx v l.length news w ∧ Chunks w (E.D μ bl (fr || t.flat)) t l news := by
    rintro t l S fr hS ⟨ad, cap, news, rfl, hch, hc, hn⟩
    have hch2 : Chunks w (E.D μ bl (fr || t.flat)) t l news := by
      cases hf : t.flat with
      | true => exact hch.flat hf
      | false => rw [Bool.or_false]; exact hch.weaken hS
    refine ⟨news, ?_, hch2⟩
    cases ad with
    | none =>
      have := hn rfl
      subst this
      have hnil : news = [] := List.eq_nil_of_length_eq_zero (by rw [hch.len]; simp)
      subst hnil
      exact ⟨hk, fun _ => rfl, run_firstCells_none w t.size 0 _ cap, run_firstCells_none w.drew t.size 0 _ cap, by simp, fun u hu => by simp at hu⟩
    | some b =>
      exact ⟨hk, fun _ => rfl, run_firstCells_some w t.size _ b _ cap news hch.len (hc b rfl), run_firstCells_some w.drew t.size _ b _ cap news hch.len (by simpa using hc b rfl), hch.len, hch.one⟩
  have viewed : ∀ x : A, RepA E w μ bl x v → (match x.view bl with | .sl fr t l => some (⟨fr || t.flat, t, l⟩ : Row) | _ => none) = some m → ∃ news, Src P m.t.size tx v m.l.length news w ∧ Chunks w (E.D μ bl m.fr) m.t m.l news := by
    intro x hx hv
    split at hv
    · next fr t l hvw =>
      cases hv
      cases x with
      | sl fr' t' l' =>
        simp only [A.view] at hvw
        cases hvw
        exact base t l _ fr (fun k hk => hk) (Holds.chunks hx)
      | os b g =>
        simp only [A.view] at hvw
        split at hvw
        · next g' own nf u l' hb =>
          have hg : (g == g') = true := by
            cases hgg : g == g' with
            | true => rfl
            | false => rw [hgg] at hvw; cases hvw
          rw [hg] at hvw
          simp only [cond_true] at hvw
          cases hvw
          have hrow := (hx.2 _ _ _ _ _ hb).2 (by simpa using hg)
          have hh := hm.blocks b _ hb
          rcases hh with ⟨h1, h2⟩ | ⟨k, cap, vals, ty, fz, h1, h2, h3, h4, h5, h6, h7⟩
          · subst h2
            rw [h1] at hrow
            obtain ⟨rfl, _⟩ := hrow
            refine ⟨[], ⟨hk, fun _ => rfl, run_firstCells_none w _ 0 0 0, run_firstCells_none w.drew _ 0 0 0, by simp, fun u hu => by simp at hu⟩, by simp, fun i hi => by simp at hi⟩
          · rw [h1] at hrow
            have hrow : v = .slice (some ⟨k, 0, none⟩) l.length cap := hrow
            subst hrow
            have hle : l.length * t.size ≤ vals.toList.length := by
              have := Nat.mul_le_mul_right t.size h5
              rw [← h6] at this; simpa using this
            have hch := Elems.chunks h7 hle
            have := base t l (E.D μ bl nf) nf (fun k hk => hk) ⟨some ⟨k, 0, none⟩, cap, _, rfl, hch, (fun b e j u hj => by
              cases e
              rw [add_none, Nat.zero_add, cell_row h3]
              rw [List.getElem?_take] at hj
              split at hj
              · exact hj
              · cases hj), fun e => by cases e⟩
            rw [show ((nf || t.flat) || t.flat) = (nf || t.flat) by cases nf <;> cases t.flat <;> rfl]
            exact this
        · cases hvw
      | _ => simp [A.view] at hvw
    · cases hv
  unfold rowOf at h
  split at h
  · next s =>
    cases h
    have hy : v = .string s := hy
    subst hy
    refine ⟨byteCells s, ?_, bytes_chunks s⟩
    have hl : (bytesOf s).length = s.size := by simp [bytesOf]
    exact ⟨hk, fun _ => by simp only [Builtin.lenOf]; rw [hl]; rfl, by simp only [Ty.size]; rw [hl]; exact firstCells_string s w, by simp only [Ty.size]; rw [hl]; exact firstCells_string s w.drew,
      by rw [byteCells_length, hl]; simp [Ty.size], fun u hu => by obtain ⟨_, _, rfl⟩ := List.mem_map.1 hu; rfl⟩
  · next x hx =>
    have hr : RepA E w μ bl x v := by
      cases x <;> first | exact hy | (simp [A.view] at h)
    exact viewed x hr h
  · cases h
end
end Go.Proofs.YtcaknaddeblecaaGreatDoor.Ev

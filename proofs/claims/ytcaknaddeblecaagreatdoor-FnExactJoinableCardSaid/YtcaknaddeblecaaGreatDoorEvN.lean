/- append. -/
import Derived.Test.YtcaknaddeblecaaGreatDoorEvM
namespace Go.Proofs.YtcaknaddeblecaaGreatDoor.Ev
open Go Go.RowKit
set_option linter.unusedVariables false
set_option linter.unusedSimpArgs false
variable {ρ : Type}

section
variable {P : Program} {cx : Cx} {E : Env} {w0 w : World} {μ : Lie} {st : St} {a : Act} {o : Oper} {K : V → St → Option ρ} {r : ρ}

theorem toList_two {α : Type} {xs : Array α} {x y : α} (h : xs.toList = [x, y]) : xs = #[x, y] := by
  rw [← Array.toArray_toList (xs := xs), h]

theorem eff_append (hcx : cx.ok P) (hR : Rel E w0 μ st a w) {c : Call} (ho : o.op = .call c) (hc : c.callee = .builtin .append) {x y : Operand} (hxy : c.args.toList = [x, y])
    (h : evAppend cx c.argTypes.toList (st.get x) (st.get y) st K = some r) : Eff P E w0 μ st a w o K r := by
  unfold evAppend at h
  split at h
  case h_2 => cases h
  next t0 t1 b g m hts hx hy =>
  split at h
  case h_2 => cases h
  next g' nf t l hb =>
  have hg := (cond_none h).1
  replace h := (cond_none h).2
  simp only [Bool.and_eq_true, Bool.not_eq_true', beq_iff_eq] at hg
  obtain ⟨⟨⟨rfl, hlock⟩, hst⟩, hrt⟩ := hg
  revert h
  split
  case h_2 => intro h; cases h
  next hmt heq =>
  intro h
  obtain ⟨mfr, mt, ml⟩ := m
  simp only at hmt
  subst hmt
  obtain ⟨hlen, h⟩ := cond_none h
  have hlen := of_decide_eq_true hlen
  simp only at hlen h
  obtain ⟨e, hu, hte⟩ := sliceTy_sound hcx hst
  obtain ⟨i, hi, hisz, hby, hiz⟩ := hte.basic
  have hpos := mt.size_pos
  obtain ⟨news, hsrc, hnews⟩ := rowOf_sound hcx hR.mem (hR.get y) hy hrt
  have hmine : mine st.bl b := by unfold mine; rw [hb]
  have hra := hR.get x
  rw [hx] at hra
  have hrow := (hra.2 _ _ _ _ _ hb).2 rfl
  have hargs := toList_two hxy
  have htys := toList_two hts
  have hrunop : ∀ v w', (Builtin.append_ #[t0, t1] o.type #[a.eval x, a.eval y]).run P w = .ok v w' → (execOp a.eval o).run P w = .ok (.value v) w' := by
    intro v w' hr
    unfold execOp
    simp only [ho]
    simp [resolve, hc, hargs, htys, invoke, builtin, hr]
  -- the elements at the end
  have hDn : ∀ (fr : Bool) (k : Nat), E.D μ st.bl fr k → E.D μ st.bl (nf && mfr) k → True := fun _ _ _ _ => trivial
  have hn2 : Chunks w (E.D μ st.bl (nf && mfr)) mt ml news := hnews.weaken fun k hk => Env.D_less (fun q => by rw [Bool.and_eq_true] at q; exact q.2) hk
  have fin : ∀ (m' : Option (Nat × Nat)) (w' : World), Mem E w0 w' (μ.put b m') (st.bl.set b (.arr (g + 1) true (nf && mfr) mt (l ++ ml))) ∧ Evo w μ st.bl w' (μ.put b m') (st.bl.set b (.arr (g + 1) true (nf && mfr) mt (l ++ ml))) →
      ∀ v, RowVal m' (l ++ ml).length v → (Builtin.append_ #[t0, t1] o.type #[a.eval x, a.eval y]).run P w = .ok v w' → Eff P E w0 μ st a w o K r := by
    intro m' w' hme v hv hr
    refine ⟨_, _, _, v, w', h, ?_, hR.next hme.1 hme.2, rfl, goes_set hlock hme.2, Or.inl (hrunop v w' hr)⟩
    refine ⟨⟨?_, by simpa using hra.1.2⟩, fun g2 own nf2 u l2 hb2 => ?_⟩
    · unfold RowVal at hv
      split at hv
      · obtain ⟨rfl, _⟩ := hv; rfl
      · subst hv; rfl
    · have hself := getElem?_set_self (y := Blk.arr (g + 1) true (nf && mfr) mt (l ++ ml)) hb
      rw [show (st.bl.set b (Blk.arr (g + 1) true (nf && mfr) mt (l ++ ml)))[b]? = _ from hself] at hb2
      cases hb2
      exact ⟨Nat.le_refl _, fun _ => by rw [Lie.put_same]; exact hv⟩
  have harr : ∀ (m' : Option (Nat × Nat)) (g2 : Nat) (own nf2 : Bool) (u : Ty) (l2 : List u.den), Blk.arr (g + 1) true (nf && mfr) mt (l ++ ml) = .arr g2 own nf2 u l2 →
      ∃ g' own' nf' l', Blk.arr g true nf mt l = .arr g' own' nf' u l' ∧ g' ≤ g2 ∧ (g' = g2 → l'.length = l2.length ∧ m' = μ b) := by
    intro m' g2 own nf2 u l2 e
    cases e
    exact ⟨g, true, nf, l, rfl, Nat.le_succ _, fun q => by omega⟩
  have hgrow : ∀ (base : Option Addr) (cap : Nat) (olds : List Value), a.eval x = .slice base l.length cap → (Builtin.firstCells i.size l.length (.slice base l.length cap)).run P w.drew = .ok olds.toArray w.drew →
      Chunks w (E.D μ st.bl nf) mt l olds → cap < l.length + ml.length → Eff P E w0 μ st a w o K r := by
    intro base cap olds hv hf hold hlt
    have hlm : (l.length + ml.length) * i.bytes ≤ 140737488355328 := by
      have : (l.length + ml.length) * i.bytes ≤ 8589934592 * 4096 := Nat.mul_le_mul (by unfold most at hlen; omega) hby
      omega
    have hr := run_append_grow_src w t0 t1 o.type e i (zeroV mt) hu hi hiz base l.length cap olds hf (a.eval y) ml.length news (by rw [hisz]; exact hsrc) hlt (by unfold most at hlen; omega) (growslice_fits hlt hlm)
    rw [← hv] at hr
    have hge := grownCap_ge w (l.length + ml.length) cap e
    have hol : (olds ++ news).length = (l.length + ml.length) * mt.size := by rw [List.length_append, hold.len, hnews.len, Nat.add_mul]
    have hzs : (zeroV mt).cells.size = mt.size := by rw [zeroV_cells hte]; simp [zeroVals_length]
    refine fin (some (w.heap.size, grownCap w (l.length + ml.length) cap e)) (w.drew.alloc (.cells ((olds ++ news).toArray ++ Builtin.zeroCells (zeroV mt).cells (grownCap w (l.length + ml.length) cap e - (l.length + ml.length))) e)) (hR.mem.turn hb hmine _ rfl rfl rfl ?_ ?_ (Or.inr fun k c q => by cases q; exact Nat.le_refl _) (fun cs q => by cases q) (harr _) fun ev => ?_) (.slice (some ⟨w.heap.size, 0, none⟩) (l.length + ml.length) (grownCap w (l.length + ml.length) cap e)) (by simp [RowVal]) hr
    · simp
    · intro j hj _
      exact heap_alloc_old w.drew _ hj
    · refine Or.inr ⟨w.heap.size, _, _, e, (0, 0), Lie.put_same _ _ _, hR.mem.big, heap_alloc_new w.drew _, unfrozen_zero _, by rw [List.length_append]; exact hge, ?_, ?_⟩
      · rw [Array.size_append, size_zeroCells, hzs, List.size_toArray, hol, ← Nat.add_mul]
        congr 1
        omega
      · have hch : Chunks w (E.D μ st.bl (nf && mfr)) mt (l ++ ml) (olds ++ news) := (hold.weaken fun k hk => Env.D_less (fun q => by rw [Bool.and_eq_true] at q; exact q.1) hk).append hn2
        refine (hch.elems fun j hj => ?_).mono (ev.D (E := E))
        rw [Array.toList_append, List.getElem?_append_left (by simpa using hj)]
  rcases hR.mem.blocks b _ hb with ⟨h1, h2⟩ | ⟨k, cap, vals, vty, fz, h1, h2, h3, h4, h5, h6, h7⟩
  · subst h2
    rw [h1] at hrow
    have hv : a.eval x = .slice none 0 0 := hrow.1
    by_cases hz : ml.length = 0
    · have hml : ml = [] := List.eq_nil_of_length_eq_zero hz
      subst hml
      have hnil : news = [] := List.eq_nil_of_length_eq_zero (by rw [hnews.len]; simp)
      subst hnil
      have hr := run_append_nothing w t0 t1 o.type e i hu hi none 0 0 (Nat.le_refl _) (a.eval y) (by rw [hisz]; exact hsrc)
      rw [← hv] at hr
      refine fin none w ?_ _ ?_ hr
      · have := hR.mem.turn (w' := w) (blk' := .arr (g + 1) true (nf && mfr) mt ([] ++ [])) hb hmine none rfl rfl rfl (Nat.le_refl _) (fun _ _ _ => rfl) (Or.inl h1.symm) (fun cs q => by cases q) (harr _) (fun ev => Or.inl ⟨Lie.put_same _ _ _, rfl⟩)
        exact this
      · exact ⟨hv, rfl⟩
    · refine hgrow none 0 [] hv (run_firstCells_none w.drew _ _ _ _) ⟨by simp, fun i hi => by simp at hi⟩ (by simp only [List.length_nil]; omega)
  · rw [h1] at hrow
    have hv : a.eval x = .slice (some ⟨k, 0, none⟩) l.length cap := hrow
    have hle : l.length * mt.size ≤ vals.toList.length := by
      have := Nat.mul_le_mul_right mt.size h5
      rw [← h6] at this; simpa using this
    have hold := Elems.chunks h7 hle
    have hcell : ∀ j u, (vals.toList.take (l.length * mt.size))[j]? = some u → w.cell? ((⟨k, 0, none⟩ : Addr).add j) = some u := by
      intro j u hj
      rw [add_none, Nat.zero_add, cell_row h3]
      rw [List.getElem?_take] at hj
      split at hj
      · exact hj
      · cases hj
    by_cases hroom : l.length + ml.length ≤ cap
    · have hfit : l.length * mt.size + news.length ≤ vals.size := by
        rw [hnews.len, h6, ← Nat.add_mul]
        exact Nat.mul_le_mul_right _ hroom
      have hst := run_storeCells (P := P) (off := l.length * mt.size) news 0 w vals h3 h4 hsrc.one (by omega)
      rw [Nat.add_zero] at hst
      have hr : (Builtin.append_ #[t0, t1] o.type #[.slice (some ⟨k, 0, none⟩) l.length cap, a.eval y]).run P w = .ok (.slice (some ⟨k, 0, none⟩) (l.length + ml.length) cap) (rowSet w k (writeAt vals.toList (l.length * mt.size) news) vty fz) := by
        rcases hsrc.kind with ⟨e', hk⟩ | hk <;> simp [Builtin.append_, run_underlying hu, run_underlying hk, sizeOf, typeInfo, hi, hisz, hsrc.len, hroom, hsrc.cells, Addr.add_lit, hst]
      rw [← hv] at hr
      have hkl := heap_lt h3
      refine fin (some (k, cap)) (rowSet w k (writeAt vals.toList (l.length * mt.size) news) vty fz) (hR.mem.turn hb hmine _ rfl rfl rfl (by rw [rowSet_size]; exact Nat.le_refl _) (fun j hj hne => rowSet_other fun q => hne cap (by rw [q]; exact h1)) (Or.inl h1.symm) (fun cs q => by cases q) (harr _) fun ev => ?_) (.slice (some ⟨k, 0, none⟩) (l.length + ml.length) cap) (by simp [RowVal]) hr
      refine Or.inr ⟨k, cap, _, vty, fz, Lie.put_same _ _ _, h2, rowSet_same hkl, (fun j hj hh => h4 j (by simpa [writeAt_length] using hj) hh), by simpa using hroom, by simpa [writeAt_length] using h6, ?_⟩
      have hch : Chunks w (E.D μ st.bl (nf && mfr)) mt (l ++ ml) (vals.toList.take (l.length * mt.size) ++ news) := (hold.weaken fun k hk => Env.D_less (fun q => by rw [Bool.and_eq_true] at q; exact q.1) hk).append hn2
      refine (hch.elems fun j hj => ?_).mono (ev.D (E := E))
      simp only [List.toList_toArray]
      have htl : (vals.toList.take (l.length * mt.size)).length = l.length * mt.size := by rw [List.length_take]; omega
      rw [List.length_append, htl] at hj
      by_cases q : j < l.length * mt.size
      · rw [writeAt_get_out _ _ _ _ (Or.inl q), List.getElem?_append_left (by omega), List.getElem?_take_of_lt q]
      · obtain ⟨d, rfl⟩ : ∃ d, j = l.length * mt.size + d := ⟨j - l.length * mt.size, by omega⟩
        rw [writeAt_get_in _ _ _ _ (by simpa using hfit) (by omega), List.getElem?_append_right (by omega), htl, Nat.add_sub_cancel_left]
    · refine hgrow _ cap _ hv ?_ hold (by omega)
      rw [hisz]
      exact run_firstCells_some w.drew mt.size _ _ _ cap _ hold.len (by simpa using hcell)
end
end Go.Proofs.YtcaknaddeblecaaGreatDoor.Ev

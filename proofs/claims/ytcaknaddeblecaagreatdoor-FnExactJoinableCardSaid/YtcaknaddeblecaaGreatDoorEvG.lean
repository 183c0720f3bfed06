/- Each operation that only computes, in the model. -/
import Derived.Test.YtcaknaddeblecaaGreatDoorEvF
namespace Go.Proofs.YtcaknaddeblecaaGreatDoor.Ev
open Go Go.RowKit
set_option linter.unusedVariables false
set_option linter.unusedSimpArgs false
variable {ρ : Type}

/-- what an operation that only computes must show -/
abbrev Pure (P : Program) (E : Env) (μ : Lie) (st : St) (a : Act) (w : World) (o : Oper) (K : V → Option ρ) (r : ρ) : Prop :=
  ∃ X v, K X = some r ∧ RepV E w μ st.bl X v ∧ RunsTo' P w (execOp a.eval o) v

theorem runsTo_of {P : Program} {w : World} {s : Sem Value} {v : Value} (h : s.run P w = .ok v w) : RunsTo' P w (do pure (.value (← s))) v := by
  simp [RunsTo', h]

section
variable {P : Program} {cx : Cx} {E : Env} {w0 w : World} {μ : Lie} {st : St} {a : Act} {o : Oper} {K : V → Option ρ} {r : ρ}

theorem int_of {x : Operand} {k : IntKind} {n : Int} (hR : Rel E w0 μ st a w) (h : st.get x = .at (.int k n)) : a.eval x = .int k n := by
  have := hR.get x; rw [h] at this; exact this
theorem str_of {x : Operand} {s : ByteArray} (hR : Rel E w0 μ st a w) (h : st.get x = .at (.str s)) : a.eval x = .string s := by
  have := hR.get x; rw [h] at this; exact this
theorem bool_of {x : Operand} {b : Bool} (hR : Rel E w0 μ st a w) (h : st.get x = .at (.bool b)) : a.eval x = .bool b := by
  have := hR.get x; rw [h] at this; exact this

theorem pure_load (hcx : cx.ok P) (hR : Rel E w0 μ st a w) {t : TypeId} {x : Operand} (ho : o.op = .load t x) (h : evPure cx o st K = some r) : Pure P E μ st a w o K r := by
  unfold evPure at h; simp only [ho] at h
  split at h
  · next ty cs off ht hc =>
    obtain ⟨hle, h⟩ := cond_none h
    have hle : off + ty.size ≤ cs.length := Nat.le_of_ble_eq_true hle
    obtain ⟨blk, base, vs, hv, hrep, hcell⟩ := cellsAt_sound hR.mem (hR.get x) hc
    have hlen := hrep.length
    refine ⟨_, _, h, takeOut_sound hrep hle, ?_⟩
    unfold RunsTo' execOp
    simp only [ho]
    refine runsTo_of ?_
    rw [hv]
    show ((Instr.sureAddr _ >>= fun ad => loadVar t ad) : Sem Value).run P w = _
    simp only [Instr.sureAddr, Sem.run_bind, Sem.run_pure, Result.andThen_ok]
    exact run_loadVar (hcx.ty t ty ht) (vs := (vs.drop off).take ty.size) (by simp; omega) (fun j c hj => by
      obtain ⟨hj, _⟩ := getElem?_part hj
      rw [Nat.add_assoc]; exact hcell _ _ hj)
  · cases h

theorem sure_sound {bl : List Blk} {X Y : V} {v : Value} (hx : RepV E w μ bl X v) (h : sure bl X = some Y) : Y = X ∧ ∃ ad, ad.spot = none ∧ v = .pointer (some ad) := by
  unfold sure at h
  split at h
  · split at h
    · next b off cs hb =>
      cases h
      obtain ⟨k, c, _, e⟩ := hx.2 cs hb
      exact ⟨rfl, _, rfl, e⟩
    · cases h
  · split at h
    · next b g i off g' own nf t l hb =>
      obtain ⟨hg, h⟩ := cond_none h
      cases h
      obtain ⟨_, k, c, _, e⟩ := (hx.2 _ _ _ _ _ hb).2 (by simpa using hg)
      exact ⟨rfl, _, rfl, e⟩
    · cases h
  · cases h
    obtain ⟨blk, base, cs, e, _⟩ := hx
    exact ⟨rfl, _, rfl, e⟩
  · cases h

theorem moved_sound {bl : List Blk} {X Y : V} {v : Value} (hx : RepV E w μ bl X v) (h : sure bl X = some Y) (d : Nat) : ∃ b f, v = .pointer (some ⟨b, f, none⟩) ∧ RepV E w μ bl (moved d Y) (.pointer (some ⟨b, f + d, none⟩)) := by
  unfold sure at h
  split at h
  · next b off =>
    split at h
    · next cs hb =>
      cases h
      obtain ⟨⟨_, hlt⟩, hp⟩ := hx
      obtain ⟨k, c, e1, e⟩ := hp cs hb
      exact ⟨k, off, e, ⟨rfl, hlt⟩, fun cs' hb' => ⟨k, c, e1, rfl⟩⟩
    · cases h
  · next b g i off =>
    split at h
    · next g' own nf t l hb =>
      obtain ⟨hg, h⟩ := cond_none h
      cases h
      obtain ⟨⟨_, hlt⟩, hp⟩ := hx
      have hgg : g = g' := by simpa using hg
      obtain ⟨hi, k, c, e1, e⟩ := (hp _ _ _ _ _ hb).2 hgg
      refine ⟨k, i * t.size + off, e, ⟨rfl, hlt⟩, fun g2 own2 nf2 t2 l2 hb2 => ?_⟩
      rw [hb] at hb2; cases hb2
      exact ⟨Nat.le_of_eq hgg, fun _ => ⟨hi, k, c, e1, by rw [Nat.add_assoc]⟩⟩
    · cases h
  · next fr t x off =>
    cases h
    obtain ⟨blk, base, cs, e, h1, h2, h3⟩ := hx
    exact ⟨blk, base + off, e, blk, base, cs, by rw [Nat.add_assoc], h1, h2, h3⟩
  · cases h

theorem pure_nilCheck (hR : Rel E w0 μ st a w) {x : Operand} (ho : o.op = .nilCheck x) (h : evPure cx o st K = some r) : Pure P E μ st a w o K r := by
  unfold evPure at h; simp only [ho] at h
  split at h
  · next Y hs =>
    obtain ⟨e, ad, _, hv⟩ := sure_sound (hR.get x) hs
    refine ⟨_, a.eval x, h, e ▸ hR.get x, ?_⟩
    unfold RunsTo' execOp
    simp only [ho, hv]
    rfl
  · cases h

theorem pure_fieldAddr (hcx : cx.ok P) (hR : Rel E w0 μ st a w) {t : TypeId} {x : Operand} {f : Nat} (ho : o.op = .fieldAddr t x f) (h : evPure cx o st K = some r) : Pure P E μ st a w o K r := by
  unfold evPure at h; simp only [ho] at h
  split at h
  · next ty ht =>
    split at h
    · next d u Y hf hs =>
      obtain ⟨b, g, hv, hrep⟩ := moved_sound (hR.get x) hs d
      obtain ⟨fs, fld, h1, h2, h3, h4⟩ := (hcx.ty t ty ht).field hf
      refine ⟨_, _, h, hrep, ?_⟩
      unfold RunsTo' execOp
      simp only [ho]
      refine runsTo_of ?_
      have hsz : u.size ≠ 0 := by have := u.size_pos; omega
      simp [Instr.fieldAt, run_underlying h1, h2, hv, Instr.sureAddr, fieldPlace, run_sizeOf h4, hsz, add_none, h3]
    · cases h
  · cases h

theorem pure_field (hcx : cx.ok P) (hR : Rel E w0 μ st a w) {t : TypeId} {x : Operand} {f : Nat} (ho : o.op = .field t x f) (h : evPure cx o st K = some r) : Pure P E μ st a w o K r := by
  unfold evPure at h; simp only [ho] at h
  split at h
  · next ty ht =>
    split at h
    · next d u cs hf hs =>
      obtain ⟨hle, h⟩ := cond_none h
      have hle := Nat.le_of_ble_eq_true hle
      have hx := hR.get x
      rw [hs] at hx
      obtain ⟨vs, hv, hrep⟩ := hx
      obtain ⟨fs, fld, h1, h2, h3, h4⟩ := (hcx.ty t ty ht).field hf
      have hlen := hrep.length
      refine ⟨_, _, h, takeOut_sound hrep hle, ?_⟩
      unfold RunsTo' execOp
      simp only [ho]
      refine runsTo_of ?_
      have hpos := u.size_pos
      have hne : vs.drop d ≠ [] := by
        intro e
        have := congrArg List.length e
        simp at this; omega
      cases ha : u.isAgg with
      | true => simp [Instr.field, run_underlying h1, h2, hv, asAgg, part, run_isAgg h4, ha, run_sizeOf h4, h3, List.extract_toArray]
      | false =>
        have hd : vs[d]? = some (((vs.drop d).take u.size).headD undef) := by
          have hlt : d < vs.length := by omega
          rw [List.getElem?_eq_getElem hlt]
          congr 1
          cases hq : (vs.drop d).take u.size with
          | nil => exfalso; have := congrArg List.length hq; simp at this; omega
          | cons y r =>
            have : ((vs.drop d).take u.size)[0]? = some y := by rw [hq]; rfl
            rw [List.getElem?_take_of_lt (by omega), List.getElem?_drop] at this
            simp only [Nat.add_zero, List.getElem?_eq_getElem hlt] at this
            simpa using this
        simp [Instr.field, run_underlying h1, h2, hv, asAgg, part, run_isAgg h4, ha, h3, hd]
    · cases h
  · cases h

theorem sliceTy_sound (hcx : cx.ok P) {t : TypeId} {u : Ty} (h : sliceTy cx t u = true) : ∃ e, P.underlying t = some (.slice e) ∧ TyOf P e u := by
  unfold sliceTy at h
  split at h
  · next e he =>
    cases hq : Ty.eq? e u with
    | none => rw [hq] at h; cases h
    | some p =>
      obtain ⟨p⟩ := p
      subst p
      obtain ⟨⟨te, h1, h2⟩, _⟩ := hcx.ty t _ he
      exact ⟨te, h1, h2⟩
  · cases h

theorem strTy_sound (hcx : cx.ok P) {t : TypeId} (h : strTy cx t = true) : P.underlying t = some .string := by
  unfold strTy at h
  split at h
  · next he => exact (hcx.ty t _ he).1
  · cases h

theorem pure_indexAddr (hcx : cx.ok P) (hR : Rel E w0 μ st a w) {t : TypeId} {x i : Operand} (ho : o.op = .indexAddr t x i) (h : evPure cx o st K = some r) : Pure P E μ st a w o K r := by
  unfold evPure at h; simp only [ho] at h
  split at h
  · next k i' hi =>
    have ei := int_of hR hi
    split at h
    · next fr u l hx =>
      obtain ⟨hs, h⟩ := cond_none h
      obtain ⟨hb, h⟩ := cond_none h
      obtain ⟨hb0, hb1⟩ := of_decide_eq_true hb
      obtain ⟨e, he, hte⟩ := sliceTy_sound hcx hs
      have hr := hR.get x
      rw [hx] at hr
      have hh : Holds w (E.D μ st.bl fr) (.slice u) l [a.eval x] := hr
      simp only [Holds] at hh
      obtain ⟨ad, cap, ev, hcap, hel⟩ := hh
      simp only [List.cons.injEq, and_true] at ev
      have hlt : i'.toNat < l.length := by omega
      obtain ⟨blk, off, cs, rfl, hS, hH, hc⟩ := hel i'.toNat hlt
      refine ⟨_, .pointer (some ⟨blk, off + i'.toNat * u.size, none⟩), h, ⟨blk, off + i'.toNat * u.size, cs, by simp, hS, ?_, hc⟩, ?_⟩
      · rw [List.getD_eq_getElem?_getD, List.getElem?_eq_getElem hlt]; exact hH
      · unfold RunsTo' execOp
        simp only [ho]
        refine runsTo_of ?_
        simp [Instr.indexAt, ei, ev, asIntOf, run_underlying he, hb0, hb1, run_sizeOf hte, add_none]
    · next b g hx =>
      split at h
      · next g' own nf u l hbl =>
        obtain ⟨hs, h⟩ := cond_none h
        obtain ⟨hb, h⟩ := cond_none h
        obtain ⟨hb0, hb1⟩ := of_decide_eq_true hb
        simp only [Bool.and_eq_true] at hs
        obtain ⟨hg, hs⟩ := hs
        have hgg : g = g' := by simpa using hg
        obtain ⟨e, he, hte⟩ := sliceTy_sound hcx hs
        have hr := hR.get x
        rw [hx] at hr
        obtain ⟨⟨_, hlt0⟩, hp⟩ := hr
        have hrow := (hp _ _ _ _ _ hbl).2 hgg
        have hlt : i'.toNat < l.length := by omega
        cases hμ : μ b with
        | none => rw [hμ] at hrow; obtain ⟨_, h0⟩ := hrow; omega
        | some kc =>
          obtain ⟨k', cap⟩ := kc
          rw [hμ] at hrow
          have ev : a.eval x = .slice (some ⟨k', 0, none⟩) l.length cap := hrow
          refine ⟨_, .pointer (some ⟨k', i'.toNat * u.size, none⟩), h, ⟨⟨rfl, hlt0⟩, fun g2 own2 nf2 u2 l2 hb2 => ?_⟩, ?_⟩
          · rw [hbl] at hb2; cases hb2
            exact ⟨Nat.le_of_eq hgg, fun _ => ⟨hlt, k', cap, hμ, by simp⟩⟩
          · unfold RunsTo' execOp
            simp only [ho]
            refine runsTo_of ?_
            simp [Instr.indexAt, ei, ev, asIntOf, run_underlying he, hb0, hb1, run_sizeOf hte, add_none]
      · cases h
    · cases h
  · cases h

theorem byte_at {s : ByteArray} {i : Nat} (h : i < s.size) : s[i]? = some (s.get! i) := by
  have : s[i]? = some s[i] := by simp [h]
  rw [this]
  congr 1
  show s.get i h = s.get! i
  simp only [ByteArray.get!, ByteArray.get]
  rw [getElem!_pos s.data i (by simpa using h)]

theorem pure_index (hcx : cx.ok P) (hR : Rel E w0 μ st a w) {t : TypeId} {x i : Operand} (ho : o.op = .index t x i) (h : evPure cx o st K = some r) : Pure P E μ st a w o K r := by
  unfold evPure at h; simp only [ho] at h
  split at h
  · next s k i' hx hi =>
    obtain ⟨hs, h⟩ := cond_none h
    obtain ⟨hb, h⟩ := cond_none h
    obtain ⟨hb0, hb1⟩ := of_decide_eq_true hb
    have ei := int_of hR hi
    have ex := str_of hR hx
    refine ⟨_, _, h, rfl, ?_⟩
    unfold RunsTo' execOp
    simp only [ho]
    refine runsTo_of ?_
    have hlt : i'.toNat < s.size := by omega
    simp only [Instr.index, ei, ex, asIntOf, Sem.run_bind, Sem.run_pure, Result.andThen_ok, run_underlying (strTy_sound hcx hs), hb0, if_true, byte_at hlt]
    rfl
  · cases h

theorem pure_unOp (hR : Rel E w0 μ st a w) {op : UnOp} {t : TypeId} {x : Operand} (ho : o.op = .unOp op t x) (h : evPure cx o st K = some r) : Pure P E μ st a w o K r := by
  unfold evPure at h; simp only [ho] at h
  split at h
  · next b hx =>
    have ex := bool_of hR hx
    refine ⟨_, _, h, rfl, ?_⟩
    unfold RunsTo' execOp
    simp only [ho]
    exact runsTo_of (by simp [Op.unary, ex])
  · next k n hx =>
    have ex := int_of hR hx
    refine ⟨_, _, h, rfl, ?_⟩
    unfold RunsTo' execOp
    simp only [ho]
    exact runsTo_of (by simp [Op.unary, ex, Op.intArith, wr_eq])
  · cases h

theorem pure_binOp (hcx : cx.ok P) (hR : Rel E w0 μ st a w) {op : BinOp} {t t' : TypeId} {x y : Operand} (ho : o.op = .binOp op t x y t') (h : evPure cx o st K = some r) : Pure P E μ st a w o K r := by
  unfold evPure at h; simp only [ho] at h
  obtain ⟨X, v, h1, h2, h3⟩ := evBin_sound hcx hR (t := t) h
  refine ⟨X, v, h1, h2, ?_⟩
  unfold RunsTo' execOp
  simp only [ho]
  exact runsTo_of h3

theorem pure_move (hR : Rel E w0 μ st a w) {x : Operand} (ho : o.op = .move x ∨ o.op = .assign x) (h : K (st.get x) = some r) : Pure P E μ st a w o K r := by
  refine ⟨_, _, h, hR.get x, ?_⟩
  unfold RunsTo' execOp
  rcases ho with ho | ho <;> simp [ho]

theorem pure_pick (hR : Rel E w0 μ st a w) {c x y : Operand} (ho : o.op = .pick c x y) (h : evPure cx o st K = some r) : Pure P E μ st a w o K r := by
  unfold evPure at h; simp only [ho] at h
  split at h
  · next b hc =>
    have ec := bool_of hR hc
    cases b with
    | true => exact ⟨_, _, h, hR.get x, by unfold RunsTo' execOp; simp [ho, ec, asBool]⟩
    | false => exact ⟨_, _, h, hR.get y, by unfold RunsTo' execOp; simp [ho, ec, asBool]⟩
  · cases h
end
end Go.Proofs.YtcaknaddeblecaaGreatDoor.Ev

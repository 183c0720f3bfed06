/- What only computes comes, in the model, to what the evaluator says. -/
import Derived.Test.YtcaknaddeblecaaGreatDoorEvD
namespace Go.Proofs.YtcaknaddeblecaaGreatDoor.Ev
open Go Go.RowKit
set_option linter.unusedVariables false
set_option linter.unusedSimpArgs false

/-! ### arithmetic and texts -/
theorem wr_eq (k : IntKind) (n : Int) : wr k n = k.wrap n := by
  cases k <;> first | rfl | (simp only [wr, wrap64, IntKind.wrap, IntKind.bits, IntKind.signed]; simp; split <;> omega)

theorem bytes_same {a b : ByteArray} : (a.toList == b.toList) = decide (a = b) := by
  by_cases e : a = b
  · simp [e]
  · have : a.toList ≠ b.toList := by
      intro h
      apply e
      rw [ByteArray.toList_eq, ByteArray.toList_eq] at h
      cases a; cases b
      simp only at h
      congr
      exact Array.toList_inj.mp h
    simp [e, this]

abbrev RunsTo (P : Program) (w : World) (s : Sem Value) (v : Value) : Prop := s.run P w = .ok v w

variable {ρ : Type}

theorem cond_none {c : Bool} {x : Option ρ} {r : ρ} (h : (bif c then x else none) = some r) : c = true ∧ x = some r := by
  cases c with
  | true => exact ⟨rfl, h⟩
  | false => cases h
theorem cond_none' {c : Bool} {x : Option ρ} {r : ρ} (h : (bif c then none else x) = some r) : c = false ∧ x = some r := by
  cases c with
  | true => cases h
  | false => exact ⟨rfl, h⟩

theorem binInt_sound {P : Program} {E : Env} {w : World} {μ : Lie} {bl : List Blk} {op : BinOp} {k : IntKind} {a b : Int} {K : A → Option ρ} {r : ρ} {t : TypeId}
    (h1 : op ≠ .shl) (h2 : op ≠ .shr) (h : binInt op k a b K = some r) :
    ∃ x v, K x = some r ∧ RepA E w μ bl x v ∧ RunsTo P w (binOp op t (.int k a) (.int k b)) v := by
  cases op with
  | add => exact ⟨_, _, h, rfl, by simp [RunsTo, binOp, Op.intArith, wr_eq]⟩
  | sub => exact ⟨_, _, h, rfl, by simp [RunsTo, binOp, Op.intArith, wr_eq]⟩
  | mul => exact ⟨_, _, h, rfl, by simp [RunsTo, binOp, Op.intArith, wr_eq]⟩
  | quo =>
    obtain ⟨hb, h⟩ := cond_none' h
    have hb := of_decide_eq_false hb
    exact ⟨_, _, h, rfl, by simp [RunsTo, binOp, Op.intDiv, wr_eq, hb]⟩
  | rem =>
    obtain ⟨hb, h⟩ := cond_none' h
    have hb := of_decide_eq_false hb
    exact ⟨_, _, h, rfl, by simp [RunsTo, binOp, Op.intDiv, hb]⟩
  | and => exact ⟨_, _, h, rfl, by simp [RunsTo, binOp, Op.intBits, bitsAnd, wr_eq]⟩
  | or => exact ⟨_, _, h, rfl, by simp [RunsTo, binOp, Op.intBits, bitsOr, wr_eq]⟩
  | xor => exact ⟨_, _, h, rfl, by simp [RunsTo, binOp, Op.intBits, bitsXor, wr_eq]⟩
  | shl => exact absurd rfl h1
  | shr => exact absurd rfl h2
  | andNot => simp [binInt] at h
  | eql => exact ⟨_, _, h, rfl, by simp [RunsTo, binOp, Op.intCmp]; rfl⟩
  | neq => exact ⟨_, _, h, rfl, by simp [RunsTo, binOp, Op.intCmp]; rfl⟩
  | lss => exact ⟨_, _, h, rfl, by simp [RunsTo, binOp, Op.intCmp]⟩
  | leq => exact ⟨_, _, h, rfl, by simp [RunsTo, binOp, Op.intCmp]⟩
  | gtr => exact ⟨_, _, h, rfl, by simp [RunsTo, binOp, Op.intCmp]⟩
  | geq => exact ⟨_, _, h, rfl, by simp [RunsTo, binOp, Op.intCmp]⟩

theorem binStr_sound {P : Program} {E : Env} {w : World} {μ : Lie} {bl : List Blk} {op : BinOp} {a b : ByteArray} {K : A → Option ρ} {r : ρ} {t : TypeId}
    (h : binStr op a b K = some r) : ∃ x v, K x = some r ∧ RepA E w μ bl x v ∧ RunsTo P w (binOp op t (.string a) (.string b)) v := by
  cases op with
  | add =>
    obtain ⟨hb, h⟩ := cond_none h
    have hb := of_decide_eq_true hb
    refine ⟨_, _, h, rfl, ?_⟩
    have : ¬ (((a.size + b.size : Nat) : Int) > IntKind.i64.max) := by
      have : IntKind.i64.max = 9223372036854775807 := rfl
      rw [this]; unfold mostText at hb; omega
    simp only [RunsTo, binOp, Op.stringOp]
    rw [if_neg this]
    rfl
  | eql => exact ⟨_, _, h, rfl, by simp only [RunsTo, binOp, Op.stringOp, bytes_same]; rfl⟩
  | neq => exact ⟨_, _, h, rfl, by simp only [RunsTo, binOp, Op.stringOp, bytes_same]; rfl⟩
  | lss => exact ⟨_, _, h, rfl, by simp only [RunsTo, binOp, Op.stringOp, bytes_same, lessText]; rfl⟩
  | leq => exact ⟨_, _, h, rfl, by simp only [RunsTo, binOp, Op.stringOp, bytes_same, lessText]; rfl⟩
  | gtr => exact ⟨_, _, h, rfl, by simp only [RunsTo, binOp, Op.stringOp, bytes_same, lessText]; rfl⟩
  | geq => exact ⟨_, _, h, rfl, by simp only [RunsTo, binOp, Op.stringOp, bytes_same, lessText]; rfl⟩
  | _ => simp [binStr] at h

theorem run_then {P : Program} {w : World} {α : Type} {s : Sem α} {f : α → Sem Value} {x : α} {v : Value} (h : s.run P w = .ok x w) (h' : RunsTo P w (f x) v) : RunsTo P w (s >>= f) v := by
  rw [RunsTo, Sem.run_bind, h]; exact h'

theorem add_none (b o n : Nat) : (⟨b, o, none⟩ : Addr).add n = ⟨b, o + n, none⟩ := by
  unfold Addr.add
  split
  · next e => subst e; rfl
  · rfl

theorem cell_row {w : World} {g : Nat} {vals : Array Value} {t : TypeId} {fz : Nat × Nat} (h : w.heap[g]? = some (.cells vals t fz)) (j : Nat) : w.cell? ⟨g, j, none⟩ = vals.toList[j]? := by
  simp only [World.cell?, h, Array.getElem?_toList]; rfl

theorem getElem?_part {α : Type} {l : List α} {a n j : Nat} {c : α} (h : ((l.drop a).take n)[j]? = some c) : l[a + j]? = some c ∧ j < n := by
  have hj : j < n := by
    rcases Nat.lt_or_ge j n with g | g
    · exact g
    · rw [List.getElem?_eq_none (by simp; omega)] at h; cases h
  rw [List.getElem?_take_of_lt hj, List.getElem?_drop] at h
  exact ⟨h, hj⟩

/-- what an address leads to -/
theorem cellsAt_sound {E : Env} {w0 w : World} {μ : Lie} {bl : List Blk} (hm : Mem E w0 w μ bl) {x : V} {v : Value} {cs : List A} {off : Nat} (hx : RepV E w μ bl x v) (h : cellsAt bl x = some (cs, off)) :
    ∃ blk base vs, v = .pointer (some ⟨blk, base + off, none⟩) ∧ RepAs E w μ bl cs vs ∧ ∀ j c, vs[j]? = some c → w.cell? ⟨blk, base + j, none⟩ = some c := by
  unfold cellsAt at h
  split at h
  · next b off' =>
    split at h
    · next cs' hb =>
      cases h
      obtain ⟨_, hp⟩ := hx
      obtain ⟨k, c, e1, e2⟩ := hp cs hb
      obtain ⟨k', c', vals, ty, fz, h1, _, h3, _, h5⟩ := hm.blocks b _ hb
      rw [e1] at h1; cases h1
      exact ⟨k, 0, vals.toList, by rw [e2]; simp, h5, fun j c hj => by rw [cell_row h3]; simpa using hj⟩
    · cases h
  · next b g i off' =>
    split at h
    · next g' own nf t l hb =>
      cases hg : g == g' with
      | false => rw [hg] at h; cases h
      | true =>
        rw [hg] at h
        simp only [cond_true, Option.some.injEq, Prod.mk.injEq] at h
        obtain ⟨rfl, rfl⟩ := h
        obtain ⟨_, hp⟩ := hx
        obtain ⟨_, hq⟩ := hp _ _ _ _ _ hb
        obtain ⟨hi, k, c, e1, e2⟩ := hq (by simpa using hg)
        rcases hm.blocks b _ hb with ⟨h1, h2⟩ | ⟨k', cap, vals, ty, fz, h1, _, h3, _, h5, h6, h7⟩
        · rw [e1] at h1; cases h1
        · rw [e1] at h1; cases h1
          have hh := h7 i hi
          have hr : RepAs E w μ bl (t.cells (nf || t.flat) l[i]) ((vals.toList.drop (i * t.size)).take t.size) := by
            cases hf : t.flat with
            | true => exact Holds.cells (hh.flat hf)
            | false => rw [Bool.or_false]; exact hh.cells
          refine ⟨k, i * t.size, (vals.toList.drop (i * t.size)).take t.size, e2, ?_, fun j c hj => ?_⟩
          · rw [List.getD_eq_getElem?_getD, List.getElem?_eq_getElem hi]; exact hr
          · obtain ⟨hj, _⟩ := getElem?_part hj
            rw [cell_row h3]; exact hj
    · cases h
  · next fr t y off' =>
    cases h
    obtain ⟨blk, base, vs, e1, _, h3, h4⟩ := hx
    exact ⟨blk, base, vs, e1, h3.cells, h4⟩
  · cases h

theorem run_loadVar {P : Program} {t : TypeId} {ty : Ty} (ht : TyOf P t ty) {w : World} {blk o : Nat} {vs : List Value} (hl : vs.length = ty.size) (hc : ∀ j c, vs[j]? = some c → w.cell? ⟨blk, o + j, none⟩ = some c) :
    (loadVar t ⟨blk, o, none⟩).run P w = .ok (match ty.isAgg with | true => .agg vs.toArray | false => vs.headD undef) w := by
  simp only [loadVar, Sem.run_bind, run_isAgg ht, Result.andThen_ok]
  cases ha : ty.isAgg with
  | true =>
    simp only [if_true, Sem.run_bind, run_sizeOf ht, Result.andThen_ok]
    have := run_loadCells_list (P := P) (w := w) ⟨blk, o, none⟩ vs (fun j v h => by rw [add_none]; exact hc j v h)
    rw [hl] at this
    rw [this]; rfl
  | false =>
    have hpos := ty.size_pos
    cases vs with
    | nil => simp at hl; omega
    | cons v r =>
      have h0 := hc 0 v rfl
      simp only [Nat.add_zero] at h0
      simp [h0]

theorem takeOut_sound {E : Env} {w : World} {μ : Lie} {bl : List Blk} {ty : Ty} {cs : List A} {vs : List Value} {off : Nat} (h : RepAs E w μ bl cs vs) (hlen : off + ty.size ≤ cs.length) :
    RepV E w μ bl (takeOut ty cs off) (match ty.isAgg with | true => .agg ((vs.drop off).take ty.size).toArray | false => ((vs.drop off).take ty.size).headD undef) := by
  unfold takeOut
  cases ha : ty.isAgg with
  | true => exact ⟨_, rfl, (h.drop off).take ty.size⟩
  | false =>
    have hpos := ty.size_pos
    have hlt : off < cs.length := by omega
    obtain ⟨v, hv, hr⟩ := h.get (i := off) (a := cs[off]) (List.getElem?_eq_getElem hlt)
    have e1 : cs.getD off .undef = cs[off] := by rw [List.getD_eq_getElem?_getD, List.getElem?_eq_getElem hlt]; rfl
    have e2 : ((vs.drop off).take ty.size).headD undef = v := by
      have : ((vs.drop off).take ty.size)[0]? = some v := by
        rw [List.getElem?_take_of_lt (by omega), List.getElem?_drop]; simpa using hv
      cases hl : (vs.drop off).take ty.size with
      | nil => rw [hl] at this; cases this
      | cons x r => rw [hl] at this; simpa using this
    simp only [cond_false, e1, e2]
    exact RepV.at hr
end Go.Proofs.YtcaknaddeblecaaGreatDoor.Ev

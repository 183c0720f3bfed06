/- Cuts, conversions, literals, and all that only computes. -/
import Derived.Test.YtcaknaddeblecaaGreatDoorEvG
namespace Go.Proofs.YtcaknaddeblecaaGreatDoor.Ev
open Go Go.RowKit
set_option linter.unusedVariables false
set_option linter.unusedSimpArgs false
variable {ρ : Type}

section
variable {P : Program} {cx : Cx} {E : Env} {w0 w : World} {μ : Lie} {st : St} {a : Act} {o : Oper} {K : V → Option ρ} {r : ρ}

theorem loadBound_some (hR : Rel E w0 μ st a w) {x : Operand} {d n : Int} (h : loadBound st (some x) d = some n) : ∃ k, a.eval x = .int k n := by
  unfold loadBound at h
  simp only at h
  split at h
  · next k m hx => cases h; exact ⟨k, int_of hR hx⟩
  · cases h

theorem run_sliceBound {v : Value} {k : IntKind} {n : Int} {y : Nat} {c : BoundsCode} (hv : v = .int k n) (h0 : 0 ≤ n) (h1 : n ≤ y) : (Instr.sliceBound v y c).run P w = .ok n.toNat w := by
  subst hv
  simp [Instr.sliceBound, asIntOf, h0, h1]

theorem run_sliceBounds (hR : Rel E w0 μ st a w) {lo hi : Option Operand} {len cap : Nat} {m n : Int} {isS : Bool} (hcap : len ≤ cap) (hl : loadBound st lo 0 = some m) (hh : loadBound st hi len = some n) (h0 : 0 ≤ m) (h1 : m ≤ n) (h2 : n ≤ (len : Int)) :
    (Instr.sliceBounds isS len cap (lo.map a.eval) (hi.map a.eval) none).run P w = .ok (m.toNat, n.toNat, cap) w := by
  have hn : ∀ y : Nat, n.toNat = y → m ≤ (y : Int) := by intro y e; omega
  unfold Instr.sliceBounds
  cases hi with
  | none =>
    have e : n = (len : Int) := by simp [loadBound] at hh; exact hh.symm
    subst e
    cases lo with
    | none =>
      have e : m = 0 := by simp [loadBound] at hl; exact hl.symm
      subst e
      simp
    | some x =>
      obtain ⟨k, ek⟩ := loadBound_some hR hl
      simp [run_sliceBound (P := P) (w := w) ek h0 (y := len) (by omega)]
  | some y =>
    obtain ⟨k', ek'⟩ := loadBound_some hR hh
    have r1 : ∀ c, (Instr.sliceBound (a.eval y) cap c).run P w = .ok n.toNat w := fun c => run_sliceBound ek' (by omega) (by omega)
    cases lo with
    | none =>
      have e : m = 0 := by simp [loadBound] at hl; exact hl.symm
      subst e
      simp [r1]
    | some x =>
      obtain ⟨k, ek⟩ := loadBound_some hR hl
      simp [r1, run_sliceBound (P := P) (w := w) ek h0 (y := n.toNat) (by omega)]

theorem slice_sound (hcx : cx.ok P) (hR : Rel E w0 μ st a w) {t : TypeId} {X : V} {x : Operand} {lo hi : Option Operand} {S : Nat → Prop}
    (hx : (∃ s, X = .at (.str s) ∧ a.eval x = .string s) ∨ (∃ fr u l, X = .at (.sl fr u l) ∧ Holds w (E.D μ st.bl fr) (.slice u) l [a.eval x]))
    (h : evSlice cx t X lo hi st K = some r) :
    ∃ Y v, K Y = some r ∧ RepV E w μ st.bl Y v ∧ (Instr.sliceAt t (a.eval x) (lo.map a.eval) (hi.map a.eval) none).run P w = .ok v w := by
  rcases hx with ⟨s, rfl, ev⟩ | ⟨fr, u, l, rfl, hh⟩
  · unfold evSlice at h
    simp only at h
    split at h
    · next m n hl hn =>
      obtain ⟨hs, h⟩ := cond_none h
      obtain ⟨hb, h⟩ := cond_none h
      obtain ⟨h0, h1, h2⟩ := of_decide_eq_true hb
      refine ⟨_, _, h, rfl, ?_⟩
      have hrun := run_sliceBounds (P := P) hR (isS := false) (Nat.le_refl s.size) hl hn h0 h1 h2
      simp [Instr.sliceAt, run_underlying (strTy_sound hcx hs), Instr.slice, ev, hrun]
    · cases h
  · unfold evSlice at h
    simp only at h
    split at h
    · next m n hl hn =>
      obtain ⟨hs, h⟩ := cond_none h
      obtain ⟨hb, h⟩ := cond_none h
      obtain ⟨h0, h1, h2⟩ := of_decide_eq_true hb
      obtain ⟨e, he, hte⟩ := sliceTy_sound hcx hs
      simp only [Holds] at hh
      obtain ⟨ad, cap, ev, hcap, hel⟩ := hh
      simp only [List.cons.injEq, and_true] at ev
      have hrun := run_sliceBounds (P := P) hR (isS := true) hcap hl hn h0 h1 h2
      refine ⟨_, .slice (if cap = m.toNat then ad else ad.map (·.add (m.toNat * u.size))) (n.toNat - m.toNat) (cap - m.toNat), h, ?_, ?_⟩
      · show Holds w (E.D μ st.bl fr) (.slice u) ((l.drop m.toNat).take (n - m).toNat) _
        have hlen : ((l.drop m.toNat).take (n - m).toNat).length = n.toNat - m.toNat := by
          simp only [List.length_take, List.length_drop]; omega
        simp only [Holds]
        refine ⟨if cap = m.toNat then ad else ad.map (·.add (m.toNat * u.size)), cap - m.toNat, by rw [hlen], by rw [hlen]; omega, fun i hi' => ?_⟩
        have hi2 : m.toNat + i < l.length := by rw [hlen] at hi'; omega
        obtain ⟨blk, off, cs, e1, hS, hH, hc⟩ := hel (m.toNat + i) hi2
        have hne : ¬ cap = m.toNat := by omega
        refine ⟨blk, off + m.toNat * u.size, cs, by rw [if_neg hne, e1]; simp [add_none], hS, ?_, fun j c hj => ?_⟩
        · have : ((l.drop m.toNat).take (n - m).toNat)[i] = l[m.toNat + i] := by simp
          rw [this]; exact hH
        · have := hc j c hj
          rw [Nat.add_mul] at this
          rwa [show off + m.toNat * u.size + i * u.size + j = off + (m.toNat * u.size + i * u.size) + j by omega]
      · simp [Instr.sliceAt, run_underlying he, Instr.slice, ev, hrun, run_sizeOf hte]
    · cases h

theorem pure_slice (hcx : cx.ok P) (hR : Rel E w0 μ st a w) {t : TypeId} {x : Operand} {lo hi : Option Operand} (ho : o.op = .slice t x lo hi none)
    (h : evSlice cx t (st.get x) lo hi st K = some r) : Pure P E μ st a w o K r := by
  have hr := hR.get x
  have hx : (∃ s, st.get x = .at (.str s) ∧ a.eval x = .string s) ∨ (∃ fr u l, st.get x = .at (.sl fr u l) ∧ Holds w (E.D μ st.bl fr) (.slice u) l [a.eval x]) := by
    unfold evSlice at h
    split at h
    · next s hs => rw [hs] at hr; exact Or.inl ⟨s, hs, hr⟩
    · next fr u l hs => rw [hs] at hr; exact Or.inr ⟨fr, u, l, hs, hr⟩
    · cases h
  obtain ⟨Y, v, h1, h2, h3⟩ := slice_sound (S := fun _ => True) hcx hR hx h
  refine ⟨Y, v, h1, h2, ?_⟩
  unfold RunsTo' execOp
  simp only [ho]
  exact runsTo_of h3

theorem pure_extract (hR : Rel E w0 μ st a w) {x : Operand} {i : Nat} (ho : o.op = .extract x i) (h : evPure cx o st K = some r) : Pure P E μ st a w o K r := by
  unfold evPure at h; simp only [ho] at h
  split at h
  · next xs hx =>
    have hr := hR.get x
    rw [hx] at hr
    obtain ⟨vs, ev, hall⟩ := hr
    split at h
    · next cs hi =>
      obtain ⟨v, hv, hrv⟩ := hall.get hi
      obtain ⟨us, e, hus⟩ := hrv
      refine ⟨_, v, h, ⟨us, e, hus⟩, ?_⟩
      unfold RunsTo' execOp
      simp only [ho]
      exact runsTo_of (by simp [Instr.extract, ev, hv])
    · next c hi =>
      obtain ⟨v, hv, hrv⟩ := hall.get hi
      refine ⟨_, v, h, RepV.at hrv.1, ?_⟩
      unfold RunsTo' execOp
      simp only [ho]
      exact runsTo_of (by simp [Instr.extract, ev, hv])
    · cases h
  · cases h

theorem capsOf_sound (hR : Rel E w0 μ st a w) : ∀ (xs : List Operand) (cs : List (Nat × Nat)), evPure.capsOf st xs = some cs → All2 (fun (p : Nat × Nat) u => isPtr μ st.bl p.1 p.2 u) cs (xs.map a.eval)
  | [], cs, h => by simp [evPure.capsOf] at h; subst h; trivial
  | x :: xs, cs, h => by
    simp only [evPure.capsOf] at h
    split at h
    · next b off r hx hr =>
      cases h
      have := hR.get x
      rw [hx] at this
      exact ⟨this, capsOf_sound hR xs r hr⟩
    · cases h

theorem pure_makeFunc (hR : Rel E w0 μ st a w) {f : FuncId} {fs caps : Array Operand} (ho : o.op = .makeFunc (.func f) fs caps) (h : evPure cx o st K = some r) : Pure P E μ st a w o K r := by
  unfold evPure at h; simp only [ho] at h
  have hf : fs = #[] := by simpa using (cond_none h).1
  replace h := (cond_none h).2
  split at h
  · next cs hc =>
    have hcaps := capsOf_sound hR _ _ hc
    refine ⟨_, .func (.func f) #[] (caps.map a.eval), h, ⟨caps.toList.map a.eval, by rw [show caps.map a.eval = (caps.toList.map a.eval).toArray from Array.toList_inj.mp (by simp)], hcaps⟩, ?_⟩
    unfold RunsTo' execOp
    simp only [ho]
    exact runsTo_of (by simp [Instr.makeFunc, hf])
  · cases h

theorem bytes_of_cells : ∀ (l : List Int) (cs : List Value), cs = l.map (fun n => .int .u8 n) → ∀ (s : ByteArray),
    ((forIn cs s fun c s => (match c with
      | .int .u8 n => pure (ForInStep.yield (s.push (UInt8.ofNat n.toNat)))
      | _ => stuck "bytesToString: byte expected" : Sem (ForInStep ByteArray)))).run P w = .ok ⟨(s.data.toList ++ l.map fun n => UInt8.ofNat n.toNat).toArray⟩ w
  | [], cs, e, s => by subst e; simp
  | n :: l, cs, e, s => by
    subst e
    simp only [List.map_cons, List.forIn_cons, Sem.run_bind, Sem.run_pure, Result.andThen_ok]
    rw [bytes_of_cells l _ rfl]
    congr 2
    apply Array.toList_inj.mp
    simp [ByteArray.push]

/-- what an own row is, read: where it lies does not matter -/
def Env.W (E : Env) (fr : Bool) (k : Nat) : Prop := E.B ≤ k ∨ (fr = false ∧ E.S0 k)

/-- blocks to which what is only read may lead, and those of some own rows -/
def Env.X (E : Env) (μ : Lie) (bl : List Blk) (bs : List Nat) (fr : Bool) (k : Nat) : Prop := (E.B ≤ k ∨ (fr = false ∧ E.S0 k)) ∧ (¬ Own μ bl k ∨ ∃ b c g own nf t l, b ∈ bs ∧ μ b = some (k, c) ∧ bl[b]? = some (.arr g own nf t l))

theorem Env.D_X {bl : List Blk} {bs : List Nat} {fr : Bool} {k : Nat} (h : E.D μ bl fr k) : E.X μ bl bs fr k := ⟨h.1, Or.inl h.2⟩

theorem row_holds {bl : List Blk} (hm : Mem E w0 w μ bl) {b g : Nat} {own nf : Bool} {t : Ty} {l : List t.den} (hb : bl[b]? = some (.arr g own nf t l)) {v : Value} (hv : RowVal (μ b) l.length v) {bs : List Nat} (hbs : b ∈ bs) :
    Holds w (E.X μ bl bs (nf || t.flat)) (.slice t) l [v] := by
  simp only [Holds]
  rcases hm.blocks b _ hb with ⟨h1, h2⟩ | ⟨k, cap, vals, ty, fz, h1, h2, h3, _, h5, h6, h7⟩
  · rw [h1] at hv
    obtain ⟨rfl, h0⟩ := hv
    exact ⟨none, 0, by rw [h0], Nat.le_of_eq h0, fun i hi => by omega⟩
  · rw [h1] at hv
    have hv : v = .slice (some ⟨k, 0, none⟩) l.length cap := hv
    subst hv
    refine ⟨_, cap, rfl, h5, fun i hi => ⟨k, 0, (vals.toList.drop (i * t.size)).take t.size, rfl, ⟨Or.inl h2, Or.inr ⟨b, cap, _, _, _, _, _, hbs, h1, hb⟩⟩, ?_, fun j c hj => ?_⟩⟩
    · have hh := h7 i hi
      cases hf : t.flat with
      | true => exact hh.flat hf
      | false => rw [Bool.or_false]; exact hh.weaken fun k hk _ => Env.D_X hk
    · obtain ⟨hj, _⟩ := getElem?_part hj
      rw [cell_row h3, Nat.zero_add]; exact hj

/-- a cell as what it holds -/
theorem view_sound {bl : List Blk} (hm : Mem E w0 w μ bl) {x : A} {v : Value} (hx : RepA E w μ bl x v) {bs : List Nat} (hbs : ∀ b g, x = .os b g → b ∈ bs) :
    match x.view bl with
    | .sl fr t l => Holds w (E.X μ bl bs fr) (.slice t) l [v]
    | y => y = .undef ∨ (y = x ∧ ∀ b g, x ≠ .os b g) := by
  cases x with
  | os b g =>
    simp only [A.view]
    cases hb : bl[b]? with
    | none => exact Or.inl rfl
    | some blk =>
      cases blk with
      | arr g' own nf t l =>
        simp only
        cases hg : g == g' with
        | false => exact Or.inl rfl
        | true => exact row_holds hm hb ((hx.2 _ _ _ _ _ hb).2 (by simpa using hg)) (hbs b g rfl)
      | var cs => exact Or.inl rfl
      | dead => exact Or.inl rfl
  | sl fr t l => exact Holds.weaken (fun k hk _ => Env.D_X hk) (t := .slice t) hx
  | undef => exact Or.inl rfl
  | int k n => exact Or.inr ⟨rfl, fun _ _ => by simp⟩
  | bool b => exact Or.inr ⟨rfl, fun _ _ => by simp⟩
  | str s => exact Or.inr ⟨rfl, fun _ _ => by simp⟩
  | err b => exact Or.inr ⟨rfl, fun _ _ => by simp⟩
  | ptr b off => exact Or.inr ⟨rfl, fun _ _ => by simp⟩
  | ep b g i off => exact Or.inr ⟨rfl, fun _ _ => by simp⟩
  | pp fr t y off => exact Or.inr ⟨rfl, fun _ _ => by simp⟩
  | fn f caps => exact Or.inr ⟨rfl, fun _ _ => by simp⟩

theorem run_bytesToString {S : Nat → Prop} {l : List Int} {v : Value} (h : Holds w S (.slice (.int .u8)) l [v]) : (Conv.bytesToString v).run P w = .ok (.string (strOf l)) w := by
  simp only [Holds] at h
  obtain ⟨ad, cap, ev, hcap, hel⟩ := h
  simp only [List.cons.injEq, and_true] at ev
  subst ev
  cases ad with
  | none =>
    have : l = [] := by
      cases l with
      | nil => rfl
      | cons n r => obtain ⟨_, _, _, e, _⟩ := hel 0 (by simp); cases e
    subst this
    rfl
  | some ad =>
    have hc : ∀ j v, (l.map fun n => Value.int .u8 n)[j]? = some v → w.cell? (ad.add j) = some v := by
      intro j v hj
      rw [List.getElem?_map] at hj
      have hlt : j < l.length := by
        rcases Nat.lt_or_ge j l.length with g | g
        · exact g
        · rw [List.getElem?_eq_none g] at hj; cases hj
      rw [List.getElem?_eq_getElem hlt] at hj
      obtain ⟨blk, off, cs, e, _, hcs, hcell⟩ := hel j hlt
      cases e
      cases hj
      have := hcell 0 _ (by rw [hcs]; rfl)
      rw [add_none]
      simpa [Ty.size] using this
    have hload := run_loadCells_list (P := P) (w := w) ad (l.map fun n => Value.int .u8 n) hc
    rw [List.length_map] at hload
    simp only [Conv.bytesToString, Sem.run_bind, hload, Result.andThen_ok]
    rw [← Array.forIn_toList]
    have hb := bytes_of_cells (P := P) (w := w) l _ rfl ByteArray.empty
    rw [show (List.map (fun n => Value.int IntKind.u8 n) l).toArray.toList = List.map (fun n => Value.int IntKind.u8 n) l from rfl]
    refine (congrArg (fun x => Result.andThen x _) ?_).trans (b := (Result.ok (strOf l) w).andThen fun s w => Sem.run P (pure (Value.string s)) w) rfl
    refine Eq.trans ?_ (hb.trans rfl)
    congr 1

theorem pure_convert (hcx : cx.ok P) (hR : Rel E w0 μ st a w) {s d : TypeId} {x : Operand} (ho : o.op = .convert s d x) (h : evPure cx o st K = some r) : Pure P E μ st a w o K r := by
  unfold evPure at h; simp only [ho] at h
  split at h
  · next k k' hs hd =>
    split at h
    · next k2 n hx =>
      have ex := int_of hR hx
      refine ⟨_, _, h, rfl, ?_⟩
      unfold RunsTo' execOp
      simp only [ho]
      refine runsTo_of ?_
      simp [convert, run_underlying (hcx.ty s _ hs).1, run_underlying (hcx.ty d _ hd).1, ex, Conv.intToInt, wr_eq]
    · cases h
  · next hs hd =>
    split at h
    · next m hx =>
      have ex := str_of hR hx
      refine ⟨_, _, h, rfl, ?_⟩
      unfold RunsTo' execOp
      simp only [ho]
      refine runsTo_of ?_
      simp [convert, run_underlying (hcx.ty s _ hs).1, run_underlying (hcx.ty d _ hd).1, ex]
    · cases h
  · next hs hd =>
    split at h
    · next y hx =>
      have hr := hR.get x
      rw [hx] at hr
      split at h
      · next fr l hy =>
        have hr' : RepA E w μ st.bl y (a.eval x) := by
          cases y <;> first | exact hr | (simp [A.view] at hy)
        have hv := view_sound hR.mem hr' (bs := rowsOf [y]) (fun b g e => by subst e; simp [rowsOf])
        rw [hy] at hv
        have hrun := run_bytesToString (P := P) (w := w) hv
        obtain ⟨⟨e, he, hte⟩, _⟩ := hcx.ty s _ hs
        refine ⟨_, _, h, rfl, ?_⟩
        unfold RunsTo' execOp
        simp only [ho]
        refine runsTo_of ?_
        have hsl : ∃ q n c, a.eval x = .slice q n c := by
          have hv' := hv
          simp only [Holds] at hv'
          obtain ⟨ad, cap, ev, _⟩ := hv'
          simp only [List.cons.injEq, and_true] at ev
          exact ⟨_, _, _, ev⟩
        obtain ⟨q, n, c, eq⟩ := hsl
        rw [eq] at hrun ⊢
        simp [convert, run_underlying he, run_underlying (hcx.ty d _ hd).1, run_underlying hte.1, hrun]
      · cases h
    · cases h
  · cases h

end
end Go.Proofs.YtcaknaddeblecaaGreatDoor.Ev

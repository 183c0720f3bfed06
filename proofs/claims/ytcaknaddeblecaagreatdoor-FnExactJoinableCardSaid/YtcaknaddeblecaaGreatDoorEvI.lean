/- Literals, lengths; all operations that only compute. -/
import Derived.Test.YtcaknaddeblecaaGreatDoorEvH
namespace Go.Proofs.YtcaknaddeblecaaGreatDoor.Ev
open Go Go.RowKit
set_option linter.unusedVariables false
set_option linter.unusedSimpArgs false
variable {ρ : Type}

theorem All2.writeAt {α β : Type} {R : α → β → Prop} : ∀ {as : List α} {bs : List β} {xs : List α} {ys : List β} (off : Nat), All2 R as bs → All2 R xs ys → All2 R (writeAt as off xs) (writeAt bs off ys)
  | _, _, [], [], _, h, _ => h
  | _, _, _ :: _, _ :: _, off, h, h' => All2.writeAt (off + 1) (h.set off h'.1) h'.2
  | _, _, [], _ :: _, _, _, h' => h'.elim
  | _, _, _ :: _, [], _, _, h' => h'.elim

theorem writeAt_length {α : Type} : ∀ (xs as : List α) (off : Nat), (writeAt as off xs).length = as.length
  | [], _, _ => rfl
  | x :: xs, as, off => by rw [writeAt, writeAt_length xs]; simp

theorem fold_writeAt {α : Type} : ∀ (xs : List α) (cells : Array α) (off n : Nat),
    (xs.zipIdx n).foldl (fun cs (p : α × Nat) => cs.setIfInBounds (off + p.2) p.1) cells = (writeAt cells.toList (off + n) xs).toArray
  | [], cells, off, n => by simp [writeAt]
  | x :: xs, cells, off, n => by
    rw [List.zipIdx_cons, List.foldl_cons, fold_writeAt xs _ off (n + 1), writeAt]
    simp [Nat.add_assoc]

section
variable {P : Program} {cx : Cx} {E : Env} {w0 w : World} {μ : Lie} {st : St} {a : Act} {o : Oper} {K : V → Option ρ} {r : ρ}

theorem full_sound {bl : List Blk} {X : V} {v : Value} {cs : List A} (hx : RepV E w μ bl X v) (h : X.full = some cs) : RepAs E w μ bl cs v.cells.toList := by
  unfold V.full at h
  split at h
  · cases h
  · next x hne =>
    cases h
    have hr : RepA E w μ bl x v := by
      cases x <;> first | exact hx | exact absurd rfl (hne)
    have h1 := hr.one
    have : v.cells = #[v] := by cases v <;> first | rfl | simp [Value.oneCell'] at h1
    rw [this]
    exact ⟨hr, trivial⟩
  · cases h
    obtain ⟨vs, rfl, hr⟩ := hx
    exact hr
  · cases h

theorem zero_rep {bl : List Blk} (t : Ty) : RepAs E w μ bl (zeroCells t) (zeroVals t) := Holds.cells (Holds.zero t)

theorem TyF.all {P : Program} : ∀ {ty : Ty} {fs : List Field} {off : Nat}, (TyF P ty).2 fs off → ∀ f ∈ fs, ∃ u, TyOf P f.type u := by
  intro ty
  have base : ∀ {ty : Ty} {fs : List Field} {off : Nat}, (∀ a b, ty ≠ .pair a b) → (TyF P ty).2 fs off → ∀ f ∈ fs, ∃ u, TyOf P f.type u := by
    intro ty fs off hp h f hf
    obtain ⟨g, rfl, _, h2, _⟩ := TyF.last hp h
    simp at hf; subst hf
    exact ⟨ty, h2⟩
  induction ty with
  | pair a b iha ihb =>
    intro fs off h f hf
    simp only [TyF] at h
    split at h
    · next g q r =>
      obtain ⟨_, ⟨h2, _⟩, h3⟩ := h
      rcases List.mem_cons.mp hf with rfl | hf
      · exact ⟨a, h2⟩
      · exact ihb h3 f hf
    · exact h.elim
  | int k => exact fun h => base (by intro a b e; cases e) h
  | bool => exact fun h => base (by intro a b e; cases e) h
  | str => exact fun h => base (by intro a b e; cases e) h
  | err => exact fun h => base (by intro a b e; cases e) h
  | slice e _ => exact fun h => base (by intro a b e; cases e) h
  | struct b _ => exact fun h => base (by intro a b e; cases e) h

theorem run_places {P : Program} {w : World} : ∀ (fs : List Field), (∀ f ∈ fs, ∃ u, TyOf P f.type u) →
    ∃ ps : List (Nat × Nat), (fs.mapM (m := Sem) fun f => do pure (f.offset, ← sizeOf f.type)).run P w = .ok ps w ∧
      ∀ (i : Nat) (f : Field) (u : Ty), fs[i]? = some f → TyOf P f.type u → ps[i]? = some (f.offset, u.size)
  | [], _ => ⟨[], by simp, fun i f u h => by simp at h⟩
  | f :: fs, h => by
    obtain ⟨u, hu⟩ := h f (List.mem_cons_self ..)
    obtain ⟨ps, h1, h2⟩ := run_places (P := P) (w := w) fs fun g hg => h g (List.mem_cons_of_mem _ hg)
    refine ⟨(f.offset, u.size) :: ps, by simp only [List.mapM_cons, Sem.run_bind, Sem.run_pure, Result.andThen_ok, run_sizeOf hu, h1], fun i g u' hg hu' => ?_⟩
    cases i with
    | zero =>
      simp at hg; subst hg
      have e1 := run_sizeOf hu w
      rw [run_sizeOf hu'] at e1
      simp only [Result.ok.injEq, and_true] at e1
      simp [e1]
    | succ n => simp at hg ⊢; exact h2 n g u' hg hu'

theorem fillIn_sound {t : Ty} {fs : List Field} (hR : Rel E w0 μ st a w) {ps : List (Nat × Nat)}
    (hps : ∀ i d u, t.field i = some (d, u) → ps[i]? = some (d, u.size)) (hfit : ∀ i d u, t.field i = some (d, u) → d + u.size ≤ t.size) :
    ∀ (xs : List (Nat × Operand)) (cs : List A) (vals : List Value) (out : List A), cs.length = t.size → RepAs E w μ st.bl cs vals → fillIn t st xs cs = some out →
      ∃ vs, Instr.fill (ps.toArray[·]?) vals.toArray (xs.map fun p => (p.1, a.eval p.2)) = some vs.toArray ∧ RepAs E w μ st.bl out vs
  | [], cs, vals, out, hl, hc, h => by
    simp only [fillIn] at h; cases h
    exact ⟨vals, rfl, hc⟩
  | (i, x) :: xs, cs, vals, out, hl, hc, h => by
    simp only [fillIn] at h
    split at h
    · next d u hf =>
      split at h
      · next v hv =>
        obtain ⟨hlen, h⟩ := cond_none h
        have hlen : v.length = u.size := by simpa using hlen
        have hrv := full_sound (hR.get x) hv
        have hn : (a.eval x).cells.size = u.size := by rw [← hlen, hrv.length, Array.length_toList]
        obtain ⟨vs, h1, h2⟩ := fillIn_sound hR (fs := fs) hps hfit xs (writeAt cs d v) (writeAt vals d (a.eval x).cells.toList) out (by rw [writeAt_length, hl]) (hc.writeAt d hrv) h
        refine ⟨vs, ?_, h2⟩
        rw [List.map_cons, Instr.fill]
        have hp : ps.toArray[i]? = some (d, u.size) := by rw [List.getElem?_toArray]; exact hps i d u hf
        simp only [hp]
        have hvl := hc.length
        have hfit' := hfit i d u hf
        rw [if_neg (by rw [hn]; simp; omega)]
        rw [← h1]
        congr 1
        have := fold_writeAt (a.eval x).cells.toList vals.toArray d 0
        rw [Nat.add_zero] at this
        rw [← Array.foldl_toList, Array.toList_zipIdx]
        exact this
      · cases h
    · cases h

theorem fieldIn_fits : ∀ (t : Ty) (i off d : Nat) (u : Ty), t.fieldIn i off = some (d, u) → off ≤ d ∧ d + u.size ≤ off + t.size := by
  intro t
  induction t with
  | pair a b iha ihb =>
    intro i off d u h
    cases i with
    | zero => simp only [Ty.fieldIn] at h; cases h; simp only [Ty.size]; omega
    | succ n =>
      simp only [Ty.fieldIn] at h
      have := ihb n _ d u h
      simp only [Ty.size]; omega
  | _ =>
    intro i off d u h
    cases i with
    | zero => simp only [Ty.fieldIn] at h; cases h; exact ⟨Nat.le_refl _, Nat.le_refl _⟩
    | succ n => simp [Ty.fieldIn] at h

theorem pure_build (hcx : cx.ok P) (hR : Rel E w0 μ st a w) {t : TypeId} {xs : Array (Nat × Operand)} (ho : o.op = .build t xs) (h : evPure cx o st K = some r) : Pure P E μ st a w o K r := by
  unfold evPure at h; simp only [ho] at h
  split at h
  · next b ht =>
    split at h
    · next out hf =>
      have hty := hcx.ty t _ ht
      obtain ⟨⟨fs, hu, hfs⟩, _⟩ := id hty
      obtain ⟨ps, h1, h2⟩ := run_places (P := P) (w := w) fs.toList (TyF.all hfs)
      obtain ⟨vs, e1, e2⟩ := fillIn_sound (fs := fs.toList) hR (ps := ps) (t := .struct b)
        (fun i d u hd => by
          obtain ⟨fs', f, q1, q2, q3, q4⟩ := hty.field hd
          rw [hu] at q1; cases q1
          rw [← q3]; exact h2 i f u (by rw [Array.getElem?_toList]; exact q2) q4)
        (fun i d u hd => by have := fieldIn_fits b i 0 d u hd; simp only [Ty.size]; omega)
        xs.toList _ (zeroVals (.struct b)) out (cells_length _ _ _) (zero_rep _) hf
      refine ⟨_, .agg vs.toArray, h, ⟨vs, rfl, e2⟩, ?_⟩
      unfold RunsTo' execOp
      simp only [ho]
      refine runsTo_of ?_
      have hm : ((fs.mapM (m := Sem) fun f => do pure (f.offset, ← sizeOf f.type)) : Sem (Array (Nat × Nat))).run P w = .ok ps.toArray w := by
        rw [Array.mapM_eq_mapM_toList]
        simp only [Sem.run_map, h1, Result.andThen_ok]
      simp only [Instr.build, Sem.run_bind, run_zeroValue hty, Result.andThen_ok, run_underlying hu, hm, Array.toList_map, zeroV_cells hty, e1, Sem.run_pure]
    · cases h
  · cases h

theorem lenOf_sound {bl : List Blk} {X : V} {v : Value} {n : Nat} {t : Bool} (hx : RepV E w μ bl X v) (h : lenOf bl X = some (t, n)) : (t = false ∧ ∃ q c, v = .slice q n c) ∨ (t = true ∧ ∃ s, v = .string s ∧ s.size = n) := by
  unfold lenOf at h
  split at h
  · cases h
    have hx' := hx
    simp only [RepV, RepA, Holds] at hx'
    obtain ⟨q, c, e, _⟩ := hx'
    simp only [List.cons.injEq, and_true] at e
    exact Or.inl ⟨rfl, q, c, e⟩
  · next s =>
    cases h
    exact Or.inr ⟨rfl, s, hx, rfl⟩
  · next b g =>
    split at h
    · next g' own nf u l hb =>
      obtain ⟨hg, h⟩ := cond_none h
      cases h
      have hrow := (hx.2 _ _ _ _ _ hb).2 (by simpa using hg)
      cases hμ : μ b with
      | none => rw [hμ] at hrow; obtain ⟨e, e2⟩ := hrow; exact Or.inl ⟨rfl, none, 0, by rw [e, e2]⟩
      | some kc => obtain ⟨k, c⟩ := kc; rw [hμ] at hrow; exact Or.inl ⟨rfl, _, c, hrow⟩
    · cases h
  · cases h

theorem pure_call (hcx : cx.ok P) (hR : Rel E w0 μ st a w) {c : Call} (ho : o.op = .call c) (h : evPure cx o st K = some r) : Pure P E μ st a w o K r := by
  have hargs : ∀ xs, c.args.toList = xs → c.args.map a.eval = (xs.map a.eval).toArray := fun xs e => Array.toList_inj.mp (by simp [e])
  unfold evPure at h; simp only [ho] at h
  split at h
  · next hb =>
    split at h
    · next x t hx ht =>
      split at h
      · next n e hl hty =>
        rcases lenOf_sound (hR.get x) hl with ⟨_, q, cap, ev⟩ | ⟨h0, _⟩
        · obtain ⟨⟨u, hu, _⟩, _⟩ := hcx.ty t _ hty
          refine ⟨_, .int .i64 n, h, rfl, ?_⟩
          have h2 : c.argTypes = #[t] := Array.toList_inj.mp (by simp [ht])
          unfold RunsTo' execOp
          simp only [ho]
          simp [resolve, hb, invoke, builtin, Builtin.len_, h2, hargs _ hx, run_underlying hu, ev, goInt]
        · cases h0
      · next n hl hty =>
        rcases lenOf_sound (hR.get x) hl with ⟨h0, _⟩ | ⟨_, s, ev, en⟩
        · cases h0
        · have hu := (hcx.ty t _ hty).1
          refine ⟨_, .int .i64 n, h, rfl, ?_⟩
          have h2 : c.argTypes = #[t] := Array.toList_inj.mp (by simp [ht])
          unfold RunsTo' execOp
          simp only [ho]
          simp [resolve, hb, invoke, builtin, Builtin.len_, h2, hargs _ hx, run_underlying hu, ev, goInt, en]
      · cases h
    · cases h
  · next hb =>
    split at h
    · next x y hx =>
      split at h
      · next k m k' n e1 e2 =>
        have ex := int_of hR e1
        have ey := int_of hR e2
        refine ⟨_, .int k (if n < m then n else m), h, rfl, ?_⟩
        unfold RunsTo' execOp
        simp only [ho]
        simp [resolve, hb, invoke, builtin, Builtin.min_, Builtin.min2, hargs _ hx, ex, ey]
      · cases h
    · cases h
  · next hb =>
    split at h
    · next x y hx =>
      split at h
      · next k m k' n e1 e2 =>
        have ex := int_of hR e1
        have ey := int_of hR e2
        refine ⟨_, .int k (if n > m then n else m), h, rfl, ?_⟩
        unfold RunsTo' execOp
        simp only [ho]
        simp [resolve, hb, invoke, builtin, Builtin.max_, Builtin.max2, hargs _ hx, ex, ey]
      · cases h
    · cases h
  · cases h

theorem evPure_sound (hcx : cx.ok P) (hR : Rel E w0 μ st a w) (h : evPure cx o st K = some r) : Pure P E μ st a w o K r := by
  cases ho : o.op with
  | move x => exact pure_move hR (Or.inl ho) (by unfold evPure at h; simpa only [ho] using h)
  | assign x => exact pure_move hR (Or.inr ho) (by unfold evPure at h; simpa only [ho] using h)
  | pick c x y => exact pure_pick hR ho h
  | load t x => exact pure_load hcx hR ho h
  | nilCheck x => exact pure_nilCheck hR ho h
  | fieldAddr t x f => exact pure_fieldAddr hcx hR ho h
  | field t x f => exact pure_field hcx hR ho h
  | indexAddr t x i => exact pure_indexAddr hcx hR ho h
  | index t x i => exact pure_index hcx hR ho h
  | binOp op t x y t' => exact pure_binOp hcx hR ho h
  | unOp op t x => exact pure_unOp hR ho h
  | slice t x lo hi mx =>
    cases mx with
    | none => exact pure_slice hcx hR ho (by unfold evPure at h; simpa only [ho] using h)
    | some m => unfold evPure at h; simp [ho] at h
  | convert s d x => exact pure_convert hcx hR ho h
  | build t xs => exact pure_build hcx hR ho h
  | makeFunc f fs caps =>
    cases f with
    | func f => exact pure_makeFunc hR ho h
    | _ => unfold evPure at h; simp [ho] at h
  | extract x i => exact pure_extract hR ho h
  | call c => exact pure_call hcx hR ho h
  | _ => unfold evPure at h; simp [ho] at h
end
end Go.Proofs.YtcaknaddeblecaaGreatDoor.Ev

/- Regions that draw their order. -/
import Derived.Test.YtcaknaddeblecaaGreatDoorEvR
namespace Go.Proofs.YtcaknaddeblecaaGreatDoor.Ev
open Go Go.RowKit
set_option linter.unusedVariables false
set_option linter.unusedSimpArgs false
variable {ρ : Type}

section
variable {P : Program} {cx : Cx} {E : Env} {w0 w : World} {μ : Lie} {st : St} {a : Act} {o : Oper}

/-- an operation's value, whatever is made of it -/
def Det (cx : Cx) (o : Oper) (st : St) (K : V → Option ρ) (r : ρ) (ev : ∀ {σ : Type}, (V → Option σ) → Option σ) : Prop := ∃ X, K X = some r ∧ ∀ {σ : Type} (K' : V → Option σ), ev K' = K' X

theorem binInt_det {op : BinOp} {k : IntKind} {x y : Int} {K : A → Option ρ} {r : ρ} (h : binInt op k x y K = some r) : ∃ X, K X = some r ∧ ∀ {σ : Type} (K' : A → Option σ), binInt op k x y K' = K' X := by
  cases op <;> simp only [binInt, reduceCtorEq] at h
  all_goals first
    | exact ⟨_, h, fun K' => rfl⟩
    | (obtain ⟨hc, h⟩ := cond_none' h
       exact ⟨_, h, fun K' => by simp only [binInt, hc, cond_false]⟩)

theorem binStr_det {op : BinOp} {x y : ByteArray} {K : A → Option ρ} {r : ρ} (h : binStr op x y K = some r) : ∃ X, K X = some r ∧ ∀ {σ : Type} (K' : A → Option σ), binStr op x y K' = K' X := by
  cases op <;> simp only [binStr, reduceCtorEq] at h
  all_goals first
    | exact ⟨_, h, fun K' => rfl⟩
    | (obtain ⟨hc, h⟩ := cond_none h
       exact ⟨_, h, fun K' => by simp only [binStr, hc, cond_true]⟩)

theorem evBin_det {ty : Option Ty} {cmp : Bool} {op : BinOp} {x y : Operand} {K : V → Option ρ} {r : ρ} (h : evBin ty cmp op x y st K = some r) : ∃ X, K X = some r ∧ ∀ {σ : Type} (K' : V → Option σ), evBin ty cmp op x y st K' = K' X := by
  have shift : ∀ {k : IntKind} {u v : Int} (n : Int), (bif decide (0 ≤ v) then K (.at (.int k n)) else none) = some r → ∃ X, K X = some r ∧ (decide (0 ≤ v)) = true ∧ X = .at (.int k n) := by
    intro k u v n h
    obtain ⟨h1, h2⟩ := cond_none h
    exact ⟨_, h2, h1, rfl⟩
  unfold evBin at h
  split at h
  · split at h
    · next k u k' v hx hy =>
      obtain ⟨h1, h2⟩ := cond_none h
      exact ⟨_, h2, fun K' => by unfold evBin; simp only [hx, hy, h1, cond_true]⟩
    · cases h
  · split at h
    · next k u k' v hx hy =>
      obtain ⟨h1, h2⟩ := cond_none h
      exact ⟨_, h2, fun K' => by unfold evBin; simp only [hx, hy, h1, cond_true]⟩
    · cases h
  · next hn1 hn2 =>
    split at h
    · next k u k' v hx hy =>
      split at h
      · next e =>
        obtain ⟨X, h1, h2⟩ := binInt_det h
        refine ⟨.at X, h1, fun K' => ?_⟩
        unfold evBin
        split
        · exact absurd rfl hn1
        · exact absurd rfl hn2
        · simp only [hx, hy]
          rw [if_pos e]
          exact h2 _
      · cases h
    · next u v hx hy =>
      obtain ⟨X, h1, h2⟩ := binStr_det h
      refine ⟨.at X, h1, fun K' => ?_⟩
      unfold evBin
      split
      · exact absurd rfl hn1
      · exact absurd rfl hn2
      · simp only [hx, hy]
        exact h2 _
    · next u v hx hy =>
      split at h
      case h_2 => cases h
      split at h
      · exact ⟨_, h, fun K' => by unfold evBin; simp only [hx, hy]⟩
      · exact ⟨_, h, fun K' => by unfold evBin; simp only [hx, hy]⟩
      · cases h
    · next v b hx =>
      split at h
      case h_2 => cases h
      obtain ⟨h1, h2⟩ := cond_none h
      split at h2
      · exact ⟨_, h2, fun K' => by unfold evBin; simp only [hx, h1, cond_true]⟩
      · exact ⟨_, h2, fun K' => by unfold evBin; simp only [hx, h1, cond_true]⟩
      · cases h2
    · next u v hx hy =>
      split at h
      case h_2 => cases h
      next t =>
      have hc := (cond_none h).1
      replace h := (cond_none h).2
      split at h
      case h_2 => cases h
      next b hs =>
      split at h
      · exact ⟨_, h, fun K' => by unfold evBin; simp only [hx, hy, hc, cond_true, hs]⟩
      · exact ⟨_, h, fun K' => by unfold evBin; simp only [hx, hy, hc, cond_true, hs]⟩
      · cases h
    · cases h

theorem evPure_det {K : V → Option ρ} {r : ρ} (hk : match o.op with
    | .move _ | .assign _ | .pick _ _ _ | .load _ _ | .nilCheck _ | .fieldAddr _ _ _ | .field _ _ _ | .indexAddr _ _ _ | .index _ _ _ | .binOp _ _ _ _ _ | .unOp _ _ _ | .slice _ _ _ _ none | .convert _ _ _ | .extract _ _ | .build _ _ => True
    | .call c => c.callee = .builtin .len
    | _ => False) (h : evPure cx o st K = some r) : ∃ X, K X = some r ∧ ∀ {σ : Type} (K' : V → Option σ), evPure cx o st K' = K' X := by
  cases ho : o.op <;> rw [ho] at hk <;> (try exact hk.elim)
  case move x => unfold evPure at h; simp only [ho] at h; exact ⟨_, h, fun K' => by unfold evPure; simp only [ho]⟩
  case assign x => unfold evPure at h; simp only [ho] at h; exact ⟨_, h, fun K' => by unfold evPure; simp only [ho]⟩
  case pick c x y =>
    unfold evPure at h; simp only [ho] at h
    split at h
    · next b hb =>
      cases b with
      | true => exact ⟨_, h, fun K' => by unfold evPure; simp only [ho, hb]; rfl⟩
      | false => exact ⟨_, h, fun K' => by unfold evPure; simp only [ho, hb]; rfl⟩
    · cases h
  case load t x =>
    unfold evPure at h; simp only [ho] at h
    split at h
    · next ty cs off h1 h2 =>
      obtain ⟨h3, h⟩ := cond_none h
      exact ⟨_, h, fun K' => by unfold evPure; simp only [ho, h1, h2, h3, cond_true]⟩
    · cases h
  case nilCheck x =>
    unfold evPure at h; simp only [ho] at h
    split at h
    · next v hv => exact ⟨_, h, fun K' => by unfold evPure; simp only [ho, hv]⟩
    · cases h
  case fieldAddr t x f =>
    unfold evPure at h; simp only [ho] at h
    split at h
    · next ty h1 =>
      split at h
      · next d u v h2 h3 => exact ⟨_, h, fun K' => by unfold evPure; simp only [ho, h1, h2, h3]⟩
      · cases h
    · cases h
  case field t x f =>
    unfold evPure at h; simp only [ho] at h
    split at h
    · next ty h1 =>
      split at h
      · next d u cs h2 h3 =>
        obtain ⟨h4, h⟩ := cond_none h
        exact ⟨_, h, fun K' => by unfold evPure; simp only [ho, h1, h2, h3, h4, cond_true]⟩
      · cases h
    · cases h
  case indexAddr t x i =>
    unfold evPure at h; simp only [ho] at h
    split at h
    · next k i' h1 =>
      split at h
      · next fr u l h2 =>
        obtain ⟨h3, h⟩ := cond_none h
        obtain ⟨h4, h⟩ := cond_none h
        exact ⟨_, h, fun K' => by unfold evPure; simp only [ho, h1, h2, h3, h4, cond_true]⟩
      · next b g h2 =>
        split at h
        · next g' own nf u l hb =>
          obtain ⟨h3, h⟩ := cond_none h
          obtain ⟨h4, h⟩ := cond_none h
          exact ⟨_, h, fun K' => by unfold evPure; simp only [ho, h1, h2, hb, h3, h4, cond_true]⟩
        · cases h
      · cases h
    · cases h
  case index t x i =>
    unfold evPure at h; simp only [ho] at h
    split at h
    · next s k i' h1 h2 =>
      obtain ⟨h3, h⟩ := cond_none h
      obtain ⟨h4, h⟩ := cond_none h
      exact ⟨_, h, fun K' => by unfold evPure; simp only [ho, h1, h2, h3, h4, cond_true]⟩
    · cases h
  case binOp op t x y t' =>
    unfold evPure at h; simp only [ho] at h
    obtain ⟨X, h1, h2⟩ := evBin_det h
    exact ⟨X, h1, fun K' => by unfold evPure; simp only [ho]; exact h2 K'⟩
  case unOp op t x =>
    unfold evPure at h; simp only [ho] at h
    split at h
    · next b hx => exact ⟨_, h, fun K' => by unfold evPure; simp only [ho, hx]⟩
    · next k n hx => exact ⟨_, h, fun K' => by unfold evPure; simp only [ho, hx]⟩
    · cases h
  case slice t x lo hi mx =>
    cases mx with
    | some m => exact hk.elim
    | none =>
    unfold evPure at h; simp only [ho] at h
    unfold evSlice at h
    split at h
    · next s hx =>
      split at h
      · next u v h1 h2 =>
        obtain ⟨h3, h⟩ := cond_none h
        obtain ⟨h4, h⟩ := cond_none h
        exact ⟨_, h, fun K' => by unfold evPure evSlice; simp only [ho, hx, h1, h2, h3, h4, cond_true]⟩
      · cases h
    · next fr u l hx =>
      split at h
      · next p v h1 h2 =>
        obtain ⟨h3, h⟩ := cond_none h
        obtain ⟨h4, h⟩ := cond_none h
        exact ⟨_, h, fun K' => by unfold evPure evSlice; simp only [ho, hx, h1, h2, h3, h4, cond_true]⟩
      · cases h
    · cases h
  case convert s d x =>
    unfold evPure at h; simp only [ho] at h
    split at h
    · next k k' h1 h2 =>
      split at h
      · next q n hx => exact ⟨_, h, fun K' => by unfold evPure; simp only [ho, h1, h2, hx]⟩
      · cases h
    · next h1 h2 =>
      split at h
      · next n hx => exact ⟨_, h, fun K' => by unfold evPure; simp only [ho, h1, h2, hx]⟩
      · cases h
    · next h1 h2 =>
      split at h
      · next n hx =>
        split at h
        · next fr l hv => exact ⟨_, h, fun K' => by unfold evPure; simp only [ho, h1, h2, hx, hv]⟩
        · cases h
      · cases h
    · cases h
  case extract x i =>
    unfold evPure at h; simp only [ho] at h
    split at h
    · next vs hx =>
      split at h
      · next cs hc => exact ⟨_, h, fun K' => by unfold evPure; simp only [ho, hx, hc]⟩
      · next c hc => exact ⟨_, h, fun K' => by unfold evPure; simp only [ho, hx, hc]⟩
      · cases h
    · cases h
  case build t ps =>
    unfold evPure at h; simp only [ho] at h
    split at h
    · next u h1 =>
      split at h
      · next cs h2 => exact ⟨_, h, fun K' => by unfold evPure; simp only [ho, h1, h2]⟩
      · cases h
    · cases h
  case call c =>
    have hk : c.callee = .builtin .len := hk
    unfold evPure at h; simp only [ho, hk] at h
    split at h
    · next x t h1 h2 =>
      split at h
      · next n e h3 h4 => exact ⟨_, h, fun K' => by unfold evPure; simp only [ho, hk, h1, h2, h3, h4]⟩
      · next n h3 h4 => exact ⟨_, h, fun K' => by unfold evPure; simp only [ho, hk, h1, h2, h3, h4]⟩
      · cases h
    · cases h

theorem evCalm_det {K : V → Option ρ} {r : ρ} (h : evCalm cx o st K = some r) : ∃ X, K X = some r ∧ ∀ {σ : Type} (K' : V → Option σ), evCalm cx o st K' = K' X := by
  have viaPure : (match o.op with
    | .move _ | .assign _ | .pick _ _ _ | .load _ _ | .nilCheck _ | .fieldAddr _ _ _ | .field _ _ _ | .indexAddr _ _ _ | .index _ _ _ | .binOp _ _ _ _ _ | .unOp _ _ _ | .slice _ _ _ _ none | .convert _ _ _ | .extract _ _ | .build _ _ => True
    | .call c => c.callee = .builtin .len
    | _ => False) → (∀ {σ : Type} (K' : V → Option σ), evCalm cx o st K' = evPure cx o st K') → ∃ X, K X = some r ∧ ∀ {σ : Type} (K' : V → Option σ), evCalm cx o st K' = K' X := by
    intro hk he
    rw [he K] at h
    obtain ⟨X, h1, h2⟩ := evPure_det hk h
    exact ⟨X, h1, fun K' => by rw [he K']; exact h2 K'⟩
  cases ho : o.op
  case call c =>
    cases hc : c.callee with
    | builtin b =>
      cases b
      case len => exact viaPure (by rw [ho]; exact hc) (fun K' => by unfold evCalm; simp only [ho, hc])
      all_goals (unfold evCalm at h; simp only [ho, hc, reduceCtorEq] at h)
    | invoke x n => unfold evCalm at h; simp only [ho, hc, reduceCtorEq] at h
    | value f =>
      cases f with
      | func f =>
        unfold evCalm at h; simp only [ho, hc] at h
        split at h
        · next s hs =>
          obtain ⟨h1, h⟩ := cond_none h
          split at h
          · next x hx =>
            cases hsem : s.sem x with
            | none => rw [hsem] at h; cases h
            | some y =>
              rw [hsem] at h
              exact ⟨_, h, fun K' => by unfold evCalm; simp only [ho, hc, hs, h1, cond_true, hx, hsem, Option.bind_some]⟩
          · cases h
        · cases h
      | tmp t => unfold evCalm at h; simp only [ho, hc, reduceCtorEq] at h
      | const t => unfold evCalm at h; simp only [ho, hc, reduceCtorEq] at h
      | global t => unfold evCalm at h; simp only [ho, hc, reduceCtorEq] at h
  case buildSlice t n ps =>
    unfold evCalm at h; simp only [ho] at h
    split at h
    case h_2 => cases h
    next e he =>
    obtain ⟨h1, h⟩ := cond_none h
    split at h
    case h_2 => cases h
    next l hl => exact ⟨_, h, fun K' => by unfold evCalm; simp only [ho, he, h1, cond_true, hl]⟩
  case slice t x lo hi mx =>
    cases mx with
    | some m => unfold evCalm at h; simp only [ho, reduceCtorEq] at h
    | none => exact viaPure (by rw [ho]; trivial) (fun K' => by unfold evCalm; simp only [ho])
  all_goals first
    | exact viaPure (by rw [ho]; trivial) (fun K' => by unfold evCalm; simp only [ho])
    | (unfold evCalm at h; simp only [ho, reduceCtorEq] at h)

theorem fillIn_congr {st' : St} {t : Ty} : ∀ (ps : List (Nat × Operand)) (cs : List A), (∀ p ∈ ps, st'.get p.2 = st.get p.2) → fillIn t st' ps cs = fillIn t st ps cs
  | [], cs, h => rfl
  | (j, x) :: r, cs, h => by
    have hx : st'.get x = st.get x := h (j, x) (by simp)
    have ih := fun cs => fillIn_congr (t := t) r cs fun p hp => h p (List.mem_cons_of_mem _ hp)
    unfold fillIn
    simp only [hx, ih]

theorem loadBound_congr {st' : St} {x : Option Operand} {d : Int} (h : ∀ y, x = some y → st'.get y = st.get y) : loadBound st' x d = loadBound st x d := by
  cases x with
  | none => rfl
  | some y => unfold loadBound; simp only [h y rfl]

theorem evPure_congr {st' : St} (hb : st'.bl = st.bl) (hg : ∀ x ∈ o.op.operands, st'.get x = st.get x) {K : V → Option ρ} (hk : match o.op with
    | .move _ | .assign _ | .pick _ _ _ | .load _ _ | .nilCheck _ | .fieldAddr _ _ _ | .field _ _ _ | .indexAddr _ _ _ | .index _ _ _ | .binOp _ _ _ _ _ | .unOp _ _ _ | .slice _ _ _ _ none | .convert _ _ _ | .extract _ _ | .build _ _ => True
    | .call c => c.callee = .builtin .len
    | _ => False) : evPure cx o st' K = evPure cx o st K := by
  cases ho : o.op <;> rw [ho] at hk hg <;> (try exact hk.elim) <;> simp only [Op.operands] at hg
  case call c =>
    have hk : c.callee = .builtin .len := hk
    unfold evPure
    simp only [ho, hk]
    have hop : c.operands = c.args := by unfold Call.operands; rw [hk]; simp
    rw [hop] at hg
    have : ∀ x, c.args.toList = [x] → st'.get x = st.get x := fun x hx => hg x (by rw [← Array.mem_toList_iff, hx]; simp)
    split
    · next x t h1 h2 => rw [this x h1, hb]
    · rfl
  all_goals
    unfold evPure
    simp only [ho]
  case binOp op t x y t' =>
    have hx := hg x (by simp)
    have hy := hg y (by simp)
    unfold evBin
    rw [hx, hy]
  case slice t x lo hi mx =>
    cases mx with
    | some m => exact hk.elim
    | none =>
    have hx := hg x (by simp)
    have h1 : ∀ d, loadBound st' lo d = loadBound st lo d := fun d => loadBound_congr fun y e => hg y (by simp [e])
    have h2 : ∀ d, loadBound st' hi d = loadBound st hi d := fun d => loadBound_congr fun y e => hg y (by simp [e])
    simp only [hx]
    unfold evSlice
    simp only [h1, h2]
  case build t ps =>
    have h1 : ∀ u cs, fillIn u st' ps.toList cs = fillIn u st ps.toList cs := fun u cs => fillIn_congr ps.toList cs fun p hp => hg p.2 (by simpa using ⟨p.1, by simpa using hp⟩)
    simp only [h1]
  all_goals
    simp at hg
    simp only [hb, hg]

theorem readArgs_congr {bl : List Blk} (f g : Operand → V) : ∀ (xs : List Operand) (ts : List Ty), (∀ x ∈ xs, f x = g x) → readArgs bl ts (xs.map f) = readArgs bl ts (xs.map g) := by
  intro xs ts h
  rw [List.map_congr_left h]

theorem fillElems_congr {st' : St} {e : Ty} (hb : st'.bl = st.bl) : ∀ (ps : List (Nat × Operand)) (i : Nat) {n : Nat}, (∀ p ∈ ps, st'.get p.2 = st.get p.2) → fillElems e st' ps i n = fillElems e st ps i n
  | [], i, n, h => rfl
  | (j, x) :: r, i, n, h => by
    have hx : st'.get x = st.get x := h (j, x) (by simp)
    simp only [fillElems, hx, hb, fillElems_congr hb r (i + 1) (fun p hp => h p (List.mem_cons_of_mem _ hp))]

theorem evCalm_congr {st' : St} (hb : st'.bl = st.bl) (hg : ∀ x ∈ o.op.operands, st'.get x = st.get x) {K : V → Option ρ} : evCalm cx o st' K = evCalm cx o st K := by
  cases ho : o.op
  case call c =>
    cases hc : c.callee with
    | builtin b =>
      cases b
      case len =>
        have := evPure_congr (cx := cx) (o := o) hb hg (K := K) (by rw [ho]; exact hc)
        unfold evCalm; simp only [ho, hc]; exact this
      all_goals (unfold evCalm; simp only [ho, hc])
    | invoke x n => unfold evCalm; simp only [ho, hc]
    | value f =>
      cases f with
      | func f =>
        rw [ho] at hg
        simp only [Op.operands] at hg
        have hop : ∀ x ∈ c.args.toList, st'.get x = st.get x := fun x hx => hg x (by unfold Call.operands; rw [hc]; simp; right; simpa using hx)
        have hm : c.args.toList.map st'.get = c.args.toList.map st.get := List.map_congr_left hop
        unfold evCalm; simp only [ho, hc, hb, hm]
      | tmp t => unfold evCalm; simp only [ho, hc]
      | const t => unfold evCalm; simp only [ho, hc]
      | global t => unfold evCalm; simp only [ho, hc]
  case buildSlice t n ps =>
    have hop : ∀ p ∈ ps.toList, st'.get p.2 = st.get p.2 := fun p hp => hg p.2 (by rw [ho]; simp only [Op.operands]; simpa using ⟨p.1, by simpa using hp⟩)
    have h1 : (ps.toList.map fun p => st'.get p.2) = ps.toList.map fun p => st.get p.2 := List.map_congr_left hop
    have h2 : (ps.toList.flatMap fun p => (st'.get p.2).cells) = ps.toList.flatMap fun p => (st.get p.2).cells := by
      rw [List.flatMap_def, List.flatMap_def, List.map_congr_left fun p hp => by rw [hop p hp]]
    unfold evCalm; simp only [ho, hb, h1, h2]
    cases he : elemTy cx t with
    | none => rfl
    | some e => simp only [fillElems_congr hb ps.toList 0 hop]
  case slice t x lo hi mx =>
    cases mx with
    | some m => unfold evCalm; simp only [ho]
    | none =>
      have := evPure_congr (cx := cx) (o := o) hb hg (K := K) (by rw [ho]; trivial)
      unfold evCalm; simp only [ho]; exact this
  all_goals first
    | (have := evPure_congr (cx := cx) (o := o) hb hg (K := K) (by rw [ho]; trivial)
       unfold evCalm; simp only [ho]; exact this)
    | (unfold evCalm; simp only [ho])

theorem giveRes_plain {f : Bool} : ∀ (ts : List (Ty × Bool)) (r : denR ts) (n : Nat), (ts.all fun t => !t.2) = true → (giveRes f ts r n).2 = [] ∧ (giveRes f ts r n).1 = (giveRes f ts r 0).1
  | [], _, _, _ => ⟨rfl, rfl⟩
  | [(t, b)], r, n, h => by
    cases b with
    | true => simp at h
    | false => exact ⟨rfl, rfl⟩
  | (t, b) :: u :: ts, r, n, h => by
    cases b with
    | true => simp at h
    | false =>
      have h' : ((u :: ts).all fun t => !t.2) = true := by
        rw [List.all_cons, Bool.and_eq_true] at h; exact h.2
      have h1 := giveRes_plain (f := f) (u :: ts) r.2 (n + 0) h'
      have h2 := giveRes_plain (f := f) (u :: ts) r.2 (0 + 0) h'
      constructor
      · show [] ++ (giveRes f (u :: ts) r.2 (n + 0)).2 = []
        rw [h1.1]; rfl
      · show _ :: (giveRes f (u :: ts) r.2 (n + 0)).1 = _ :: (giveRes f (u :: ts) r.2 (0 + 0)).1
        rw [h1.2]
        rfl

theorem calm_build (hcx : cx.ok P) (hR : Rel E w0 μ st a w) {t : TypeId} {n : Nat} {ps : Array (Nat × Operand)} {e : Ty} {l : List e.den} (ho : o.op = .buildSlice t n ps) (he : elemTy cx t = some e) (hb : n * e.size ≤ 16777216)
    (hl : fillElems e st ps.toList 0 n = some l) (hrows : rowsIn (ps.toList.map fun p => st.get p.2) = []) (hnf : newAlone st.bl (ps.toList.flatMap fun p => (st.get p.2).cells) = true) :
    ∃ v w', (execOp a.eval o).run P w = .ok (.value v) w' ∧ RepV E w' μ st.bl (.at (.sl true e l)) v ∧ Rel E w0 μ st a w' ∧ Goes w μ st w' μ st := by
  obtain ⟨u, hu, hte⟩ := elemTy_sound hcx he
  have hf : freezeAll st (rowsIn (ps.toList.map fun p => st.get p.2)) = some st := by rw [hrows]; rfl
  obtain ⟨r1, t1, g1, o1, f1, k1⟩ := freezeAll_sound _ hR hf
  obtain ⟨news, hch, hlen, hfill⟩ := fillElems_sound (need := true) (bs := rowsIn (ps.toList.map fun p => st.get p.2)) hR ps.toList 0 n l hl
    (fun p hp b hbm => by
      unfold rowsIn
      rw [List.mem_flatMap]
      exact ⟨st.get p.2, List.mem_map.mpr ⟨p, hp, rfl⟩, hbm⟩)
    (fun p hp c hc fr u' l' e' hne => by
      have := newAlone_get _ (newAlone_flat _ _ hnf p hp) c hc
      rw [e'] at this; exact this)
  rw [Nat.add_zero] at hlen
  subst hlen
  obtain ⟨Z, hZ⟩ : ∃ Z : Array Value, Z = if l.length * e.size = 0 then #[] else (zeroVals e).toArray := ⟨_, rfl⟩
  have hfl := hfill ((Array.range (l.length * e.size)).map (Z[· % Z.size]!)) (by simp)
  rw [Nat.zero_mul, Array.toList_map, Array.toList_range] at hfl
  obtain ⟨cells, hcells⟩ : ∃ cells : Array Value, cells = (writeAt ((List.range (l.length * e.size)).map (Z[· % Z.size]!)) 0 news).toArray := ⟨_, rfl⟩
  rw [← hcells] at hfl
  have hmap : (ps.map fun p => (p.1, a.eval p.2)).toList = ps.toList.map fun p => (p.1, a.eval p.2) := by simp
  have hrun := run_buildSlice (w := w) hu hte hb (parts := ps.map fun p => (p.1, a.eval p.2)) hZ (by rw [hmap]; exact hfl)
  have hel : Elems w (E.D μ st.bl true) e l cells.toList := by
    refine (hch.weaken fun k hk => Env.X_D hk o1 f1).elems fun j hj => ?_
    have := writeAt_get_in news ((List.range (l.length * e.size)).map (Z[· % Z.size]!)) 0 j (by simp [hch.len]) hj
    rw [Nat.zero_add] at this
    rw [hcells]
    exact this
  obtain ⟨m2, e2⟩ := hR.mem.world (below_push w (.cells cells u))
  have h3 := heap_push_new w (.cells cells u)
  refine ⟨.slice (some ⟨w.heap.size, 0, none⟩) l.length l.length, _, by unfold execOp; simp only [ho]; simp [hrun], ?_, hR.next m2 e2, ⟨e2, rfl, fun _ _ _ => rfl⟩⟩
  show Holds _ (E.D μ st.bl true) (.slice e) l [_]
  simp only [Holds]
  refine ⟨_, l.length, rfl, Nat.le_refl _, fun i hi => ⟨w.heap.size, 0, (cells.toList.drop (i * e.size)).take e.size, rfl, ⟨Or.inl hR.mem.big, fun ho => by have := hR.mem.own_lt ho; omega⟩, (hel.mono (e2.D (E := E))) i hi, fun j c hj => ?_⟩⟩
  obtain ⟨hj, _⟩ := getElem?_part hj
  rw [cell_row h3, Nat.zero_add]; exact hj

/-- a calm operation, carried out -/
theorem evCalm_sound (hcx : cx.good P E.G) (hR : Rel E w0 μ st a w) {X : V} (h : evCalm cx o st some = some X) (next : Act → World → Prop) (Q : Exit → Act → World → Prop)
    (hn : ∀ μ' v w', RepV E w' μ' st.bl X v → Rel E w0 μ' st a w' → Goes w μ st w' μ' st → next (a.put o.dst v) w') : o.wp P a w next Q := by
  have viaPure : (∀ {σ : Type} (K' : V → Option σ), evCalm cx o st K' = evPure cx o st K') → o.wp P a w next Q := by
    intro he
    rw [he] at h
    obtain ⟨X', v, e, hrep, hrun⟩ := evPure_sound hcx.ok hR h
    cases e
    have hrun : (execOp a.eval o).run P w = .ok (.value v) w := hrun
    unfold Oper.wp
    rw [hrun]
    exact hn μ v w hrep hR (Goes.refl _ _ _)
  cases ho : o.op
  case call c =>
    cases hc : c.callee with
    | builtin b =>
      cases b
      case len => exact viaPure (fun K' => by unfold evCalm; simp only [ho, hc])
      all_goals (unfold evCalm at h; simp only [ho, hc, reduceCtorEq] at h)
    | invoke x n => unfold evCalm at h; simp only [ho, hc, reduceCtorEq] at h
    | value f =>
      cases f with
      | func f =>
        unfold evCalm at h; simp only [ho, hc] at h
        split at h
        case h_2 => cases h
        next s hs =>
        have hfr := (cond_none h).1
        replace h := (cond_none h).2
        rw [Bool.and_eq_true] at hfr
        split at h
        case h_2 => cases h
        next x hx =>
        have hargs : All2 (RepV E w μ st.bl) (c.args.toList.map st.get) (c.args.toList.map a.eval) := by
          have : ∀ xs : List Operand, All2 (RepV E w μ st.bl) (xs.map st.get) (xs.map a.eval) := by
            intro xs
            induction xs with
            | nil => trivial
            | cons x xs ih => exact ⟨hR.get x, ih⟩
          exact this _
        cases hsem : s.sem x with
        | none => rw [hsem] at h; cases h
        | some y =>
          rw [hsem] at h
          simp only [Option.bind_some, Option.some.injEq] at h
          obtain ⟨p1, p2⟩ := giveRes_plain (f := true) s.res y st.bl.length hfr.2
          have hcall : evCall s (c.args.toList.map st.get) st (fun X st' => some (X, st')) = some (X, st) := by
            unfold evCall
            simp only [hx, hsem, Option.bind_some, hfr.1, cond_true, p1, p2, h, List.append_nil]
          have hcs := evCall_sound (hcx.call f s hs) hR hargs hcall
          refine call_opOk ho (hcx.call f s hs).fn hc (cs := []) rfl (by simp) hcs next Q ?_
          intro X' st' μ' v w' e hrep hR' ht hg
          cases e
          exact hn μ' v w' hrep hR' hg
      | tmp t => unfold evCalm at h; simp only [ho, hc, reduceCtorEq] at h
      | const t => unfold evCalm at h; simp only [ho, hc, reduceCtorEq] at h
      | global t => unfold evCalm at h; simp only [ho, hc, reduceCtorEq] at h
  case buildSlice t n ps =>
    unfold evCalm at h; simp only [ho] at h
    split at h
    case h_2 => cases h
    next e he =>
    obtain ⟨h1, h⟩ := cond_none h
    rw [Bool.and_eq_true, Bool.and_eq_true] at h1
    split at h
    case h_2 => cases h
    next l hl =>
    cases h
    obtain ⟨v, w', hrun, hrep, hR', hg⟩ := calm_build hcx.ok hR ho he (Nat.le_of_ble_eq_true h1.1) hl (List.isEmpty_iff.mp h1.2.1) h1.2.2
    unfold Oper.wp
    rw [hrun]
    exact hn μ v w' hrep hR' hg
  case slice t x lo hi mx =>
    cases mx with
    | some m => unfold evCalm at h; simp only [ho, reduceCtorEq] at h
    | none => exact viaPure (fun K' => by unfold evCalm; simp only [ho])
  all_goals first
    | (unfold evCalm at h; simp only [ho, reduceCtorEq] at h; done)
    | exact viaPure (fun K' => by unfold evCalm; simp only [ho])

/-! ### more blocks: what was known stays known -/
theorem blk_mono {bl ext : List Blk} {b : Nat} {x : Blk} (h : bl[b]? = some x) : (bl ++ ext)[b]? = some x := by
  have hlt : b < bl.length := by
    rcases Nat.lt_or_ge b bl.length with q | q
    · exact q
    · rw [List.getElem?_eq_none q] at h; cases h
  rw [List.getElem?_append_left hlt]; exact h

theorem view_mono {bl ext : List Blk} {c : A} (h : c.view bl ≠ .undef) : c.view (bl ++ ext) = c.view bl := by
  cases c with
  | os b g =>
    simp only [A.view] at h ⊢
    cases hb : bl[b]? with
    | none => rw [hb] at h; exact absurd rfl h
    | some x => rw [blk_mono hb]
  | _ => rfl

theorem ofCells_def (need : Bool) : ∀ (t : Ty) (cs : List A) (x : t.den) (r : List A), t.ofCells need cs = some (x, r) → ∃ pre, cs = pre ++ r ∧ ∀ c ∈ pre, c ≠ .undef
  | .int k, cs, x, r, h => by
    cases cs with
    | nil => unfold Ty.ofCells at h; cases h
    | cons c cs =>
      cases c with
      | int k' n =>
        unfold Ty.ofCells at h
        split at h <;> cases h
        exact ⟨[_], rfl, fun c hc => by simp only [List.mem_singleton] at hc; subst hc; simp⟩
      | _ => unfold Ty.ofCells at h; cases h
  | .bool, cs, x, r, h => by
    cases cs with
    | nil => unfold Ty.ofCells at h; cases h
    | cons c cs =>
      cases c with
      | bool b =>
        unfold Ty.ofCells at h
        cases h
        exact ⟨[_], rfl, fun c hc => by simp only [List.mem_singleton] at hc; subst hc; simp⟩
      | _ => unfold Ty.ofCells at h; cases h
  | .str, cs, x, r, h => by
    cases cs with
    | nil => unfold Ty.ofCells at h; cases h
    | cons c cs =>
      cases c with
      | str b =>
        unfold Ty.ofCells at h
        cases h
        exact ⟨[_], rfl, fun c hc => by simp only [List.mem_singleton] at hc; subst hc; simp⟩
      | _ => unfold Ty.ofCells at h; cases h
  | .err, cs, x, r, h => by
    cases cs with
    | nil => unfold Ty.ofCells at h; cases h
    | cons c cs =>
      cases c with
      | err b =>
        unfold Ty.ofCells at h
        cases h
        exact ⟨[_], rfl, fun c hc => by simp only [List.mem_singleton] at hc; subst hc; simp⟩
      | _ => unfold Ty.ofCells at h; cases h
  | .slice e, cs, x, r, h => by
    cases cs with
    | nil => unfold Ty.ofCells at h; cases h
    | cons c cs =>
      cases c with
      | sl fr e' l =>
        unfold Ty.ofCells at h
        split at h
        · have h := (cond_none' h).2
          cases h
          exact ⟨[_], rfl, fun c hc => by simp only [List.mem_singleton] at hc; subst hc; simp⟩
        · cases h
      | _ => unfold Ty.ofCells at h; cases h
  | .pair a b, cs, x, r, h => by
    unfold Ty.ofCells at h
    split at h
    case h_2 => cases h
    next y r1 h1 =>
    split at h
    case h_2 => cases h
    next z r2 h2 =>
    cases h
    obtain ⟨p1, e1, q1⟩ := ofCells_def need a cs y r1 h1
    obtain ⟨p2, e2, q2⟩ := ofCells_def need b r1 z r h2
    exact ⟨p1 ++ p2, by rw [e1, e2, List.append_assoc], fun c hc => (List.mem_append.mp hc).elim (q1 c) (q2 c)⟩
  | .struct b, cs, x, r, h => by
    unfold Ty.ofCells at h
    exact ofCells_def need b cs x r h

theorem ofV_def {need : Bool} {bl : List Blk} {t : Ty} {v : V} {x : t.den} (h : t.ofV need bl v = some x) : ∀ c ∈ v.cells, c.view bl ≠ .undef := by
  cases v with
  | «at» y =>
    unfold Ty.ofV at h
    simp only at h
    have h := (cond_none' h).2
    split at h
    case h_2 => cases h
    next z hz =>
    obtain ⟨pre, e, q⟩ := ofCells_def need t _ _ _ hz
    rw [List.append_nil] at e
    intro c hc
    simp only [V.cells, List.mem_singleton] at hc
    subst hc
    exact q _ (by rw [← e]; simp)
  | agg cs =>
    unfold Ty.ofV at h
    simp only at h
    have h := (cond_none h).2
    split at h
    case h_2 => cases h
    next z hz =>
    obtain ⟨pre, e, q⟩ := ofCells_def need t _ _ _ hz
    rw [List.append_nil] at e
    intro c hc
    exact q _ (by rw [← e]; exact List.mem_map.mpr ⟨c, hc, rfl⟩)
  | tup vs => unfold Ty.ofV at h; cases h

theorem ofV_mono {need : Bool} {bl ext : List Blk} {t : Ty} {v : V} {x : t.den} (h : t.ofV need bl v = some x) : t.ofV need (bl ++ ext) v = some x := by
  have hd := ofV_def h
  rw [← h]
  cases v with
  | «at» y => unfold Ty.ofV; simp only [view_mono (ext := ext) (hd y (by simp [V.cells]))]
  | agg cs =>
    have : cs.map (A.view (bl ++ ext)) = cs.map (A.view bl) := List.map_congr_left fun c hc => view_mono (hd c hc)
    unfold Ty.ofV; simp only [this]
  | tup vs => rfl

theorem readArgs_mono {bl ext : List Blk} : ∀ {ts : List Ty} {vs : List V} {x : denL ts}, readArgs bl ts vs = some x → readArgs (bl ++ ext) ts vs = some x
  | [], [], x, h => h
  | [], _ :: _, x, h => by unfold readArgs at h; cases h
  | t :: ts, [], x, h => by unfold readArgs at h; cases h
  | t :: ts, v :: vs, x, h => by
    unfold readArgs at h ⊢
    split at h
    · next y ys h1 h2 =>
      rw [ofV_mono h1, readArgs_mono h2]; exact h
    · cases h

theorem newAlone_mono {bl ext : List Blk} : ∀ {cs : List A}, (∀ c ∈ cs, c.view bl ≠ .undef) → newAlone (bl ++ ext) cs = newAlone bl cs
  | [], _ => rfl
  | c :: r, h => by
    unfold newAlone
    rw [view_mono (h c (by simp)), newAlone_mono fun c hc => h c (List.mem_cons_of_mem _ hc)]

theorem fillElems_def {e : Ty} : ∀ {ps : List (Nat × Operand)} {i n : Nat} {l : List e.den}, fillElems e st ps i n = some l → ∀ p ∈ ps, ∀ c ∈ (st.get p.2).cells, c.view st.bl ≠ .undef
  | [], i, n, l, h, p, hp => by cases hp
  | (j, x) :: r, i, n, l, h, p, hp => by
    unfold fillElems at h
    split at h
    case isFalse => cases h
    split at h
    case h_2 => cases h
    next v vs h1 h2 =>
    rcases List.mem_cons.mp hp with rfl | hp
    · exact ofV_def h1
    · exact fillElems_def h2 p hp

theorem fillElems_mono {st' : St} {e : Ty} {ext : List Blk} (hb : st'.bl = st.bl ++ ext) : ∀ {ps : List (Nat × Operand)} {i n : Nat} {l : List e.den}, (∀ p ∈ ps, st'.get p.2 = st.get p.2) → fillElems e st ps i n = some l → fillElems e st' ps i n = some l
  | [], i, n, l, hg, h => h
  | (j, x) :: r, i, n, l, hg, h => by
    have hx : st'.get x = st.get x := hg (j, x) (by simp)
    unfold fillElems at h ⊢
    split at h
    case isFalse => cases h
    next e1 =>
    rw [if_pos e1]
    split at h
    case h_2 => cases h
    next v vs h1 h2 =>
    rw [hx, hb, ofV_mono h1, fillElems_mono hb (fun p hp => hg p (List.mem_cons_of_mem _ hp)) h2]
    exact h

theorem cellsAt_mono {bl ext : List Blk} {v : V} {x : List A × Nat} (h : cellsAt bl v = some x) : cellsAt (bl ++ ext) v = some x := by
  unfold cellsAt at h ⊢
  split at h
  · split at h
    · next hb => rw [blk_mono hb]; exact h
    · cases h
  · split at h
    · next hb => rw [blk_mono hb]; exact h
    · cases h
  · exact h
  · cases h

theorem sure_mono {bl ext : List Blk} {v x : V} (h : sure bl v = some x) : sure (bl ++ ext) v = some x := by
  unfold sure at h ⊢
  split at h
  · split at h
    · next hb => rw [blk_mono hb]; exact h
    · cases h
  · split at h
    · next hb => rw [blk_mono hb]; exact h
    · cases h
  · exact h
  · cases h

theorem lenOf_mono {bl ext : List Blk} {v : V} {x : Bool × Nat} (h : lenOf bl v = some x) : lenOf (bl ++ ext) v = some x := by
  unfold lenOf at h ⊢
  split at h
  · exact h
  · exact h
  · split at h
    · next hb => rw [blk_mono hb]; exact h
    · cases h
  · cases h

theorem get_ext {st : St} {ext : List Blk} (x : Operand) : ({ st with bl := st.bl ++ ext } : St).get x = st.get x := by cases x <;> rfl

theorem evPure_ext {ext : List Blk} {X : V} (hk : match o.op with
    | .move _ | .assign _ | .pick _ _ _ | .load _ _ | .nilCheck _ | .fieldAddr _ _ _ | .field _ _ _ | .indexAddr _ _ _ | .index _ _ _ | .binOp _ _ _ _ _ | .unOp _ _ _ | .slice _ _ _ _ none | .convert _ _ _ | .extract _ _ | .build _ _ => True
    | .call c => c.callee = .builtin .len
    | _ => False) (h : evPure cx o st some = some X) : evPure cx o { st with bl := st.bl ++ ext } some = some X := by
  cases ho : o.op <;> rw [ho] at hk <;> (try exact hk.elim)
  case load t x =>
    unfold evPure at h ⊢; simp only [ho, get_ext] at h ⊢
    split at h
    · next ty cs off h1 h2 => (try rw [h1]); rw [cellsAt_mono h2]; exact h
    · cases h
  case nilCheck x =>
    unfold evPure at h ⊢; simp only [ho, get_ext] at h ⊢
    split at h
    · next v hv => rw [sure_mono hv]; exact h
    · cases h
  case fieldAddr t x f =>
    unfold evPure at h ⊢; simp only [ho, get_ext] at h ⊢
    split at h
    · next ty h1 =>
      split at h
      · next d u v h2 h3 => (try simp only [h1, h2]); simp only [sure_mono h3]; exact h
      · cases h
    · cases h
  case indexAddr t x i =>
    unfold evPure at h ⊢; simp only [ho, get_ext] at h ⊢
    split at h
    · next k i' h1 =>
      split at h
      · next fr u l h2 => first | exact h | (simp only [h1, h2]; exact h)
      · next b g h2 =>
        split at h
        · next g' own nf u l hb => (try simp only [h1, h2]); simp only [blk_mono hb]; exact h
        · cases h
      · cases h
    · cases h
  case convert s d x =>
    unfold evPure at h ⊢; simp only [ho, get_ext] at h ⊢
    split at h
    · next k k' h1 h2 => first | exact h | (simp only [h1, h2]; exact h)
    · next h1 h2 => first | exact h | (simp only [h1, h2]; exact h)
    · next h1 h2 =>
      try simp only [h1, h2]
      split at h
      · next n hx =>
        split at h
        · next fr l hv => rw [view_mono (by rw [hv]; simp), hv]; exact h
        · cases h
      · cases h
    · cases h
  case slice t x lo hi mx =>
    cases mx with
    | some m => exact hk.elim
    | none =>
    unfold evPure at h ⊢; simp only [ho, get_ext] at h ⊢
    have h1 : ∀ y d, loadBound ({ st with bl := st.bl ++ ext } : St) y d = loadBound st y d := fun y d => loadBound_congr fun z e => get_ext z
    unfold evSlice at h ⊢
    simp only [h1]
    exact h
  case build t ps =>
    unfold evPure at h ⊢; simp only [ho] at h ⊢
    have h1 : ∀ u cs, fillIn u ({ st with bl := st.bl ++ ext } : St) ps.toList cs = fillIn u st ps.toList cs := fun u cs => fillIn_congr ps.toList cs fun p hp => get_ext p.2
    simp only [h1]
    exact h
  case binOp op t x y t' =>
    unfold evPure at h ⊢; simp only [ho] at h ⊢
    unfold evBin at h ⊢
    simp only [get_ext]
    exact h
  case call c =>
    have hk : c.callee = .builtin .len := hk
    unfold evPure at h ⊢; simp only [ho, hk] at h ⊢
    split at h
    · next x t h1 h2 =>
      rw [get_ext]
      split at h
      · next n e h3 h4 => simp only [lenOf_mono h3]; first | exact h | (simp only [h4]; exact h)
      · next n h3 h4 => simp only [lenOf_mono h3]; first | exact h | (simp only [h4]; exact h)
      · cases h
    · cases h
  all_goals (unfold evPure at h ⊢; simp only [ho, get_ext] at h ⊢; exact h)

theorem evCalm_ext {ext : List Blk} {X : V} (h : evCalm cx o st some = some X) : evCalm cx o { st with bl := st.bl ++ ext } some = some X := by
  have viaPure : (match o.op with
    | .move _ | .assign _ | .pick _ _ _ | .load _ _ | .nilCheck _ | .fieldAddr _ _ _ | .field _ _ _ | .indexAddr _ _ _ | .index _ _ _ | .binOp _ _ _ _ _ | .unOp _ _ _ | .slice _ _ _ _ none | .convert _ _ _ | .extract _ _ | .build _ _ => True
    | .call c => c.callee = .builtin .len
    | _ => False) → (∀ s : St, evCalm cx o s some = evPure cx o s some) → evCalm cx o { st with bl := st.bl ++ ext } some = some X := by
    intro hk he
    rw [he] at h ⊢
    exact evPure_ext hk h
  cases ho : o.op
  case call c =>
    cases hc : c.callee with
    | builtin b =>
      cases b
      case len => exact viaPure (by rw [ho]; exact hc) (fun K' => by unfold evCalm; simp only [ho, hc])
      all_goals (unfold evCalm at h; simp only [ho, hc, reduceCtorEq] at h)
    | invoke x n => unfold evCalm at h; simp only [ho, hc, reduceCtorEq] at h
    | value f =>
      cases f with
      | func f =>
        unfold evCalm at h ⊢; simp only [ho, hc] at h ⊢
        have hm : c.args.toList.map ({ st with bl := st.bl ++ ext } : St).get = c.args.toList.map st.get := List.map_congr_left fun x _ => get_ext x
        rw [hm]
        split at h
        · next s hs =>
          obtain ⟨h1, h⟩ := cond_none h
          split at h
          · next x hx => (try rw [hs]); simp only [h1, cond_true]; rw [readArgs_mono hx]; exact h
          · cases h
        · cases h
      | tmp t => unfold evCalm at h; simp only [ho, hc, reduceCtorEq] at h
      | const t => unfold evCalm at h; simp only [ho, hc, reduceCtorEq] at h
      | global t => unfold evCalm at h; simp only [ho, hc, reduceCtorEq] at h
  case buildSlice t n ps =>
    unfold evCalm at h ⊢; simp only [ho] at h ⊢
    split at h
    case h_2 => cases h
    next e he =>
    obtain ⟨h1, h⟩ := cond_none h
    split at h
    case h_2 => cases h
    next l hl =>
    have e1 : (ps.toList.map fun p => ({ st with bl := st.bl ++ ext } : St).get p.2) = ps.toList.map fun p => st.get p.2 := List.map_congr_left fun p _ => get_ext p.2
    have e2 : (ps.toList.flatMap fun p => (({ st with bl := st.bl ++ ext } : St).get p.2).cells) = ps.toList.flatMap fun p => (st.get p.2).cells := by
      rw [List.flatMap_def, List.flatMap_def, List.map_congr_left fun p _ => by rw [get_ext]]
    have e3 := newAlone_mono (bl := st.bl) (ext := ext) (cs := ps.toList.flatMap fun p => (st.get p.2).cells) fun c hc => by
      obtain ⟨p, hp, hc⟩ := List.mem_flatMap.mp hc
      exact fillElems_def hl p hp c hc
    have e4 := fillElems_mono (st := st) (st' := { st with bl := st.bl ++ ext }) rfl (fun p _ => get_ext p.2) hl
    try rw [he]
    try simp only
    rw [e1, e2, e3, h1, e4]
    exact h
  case slice t x lo hi mx =>
    cases mx with
    | some m => unfold evCalm at h; simp only [ho, reduceCtorEq] at h
    | none => exact viaPure (by rw [ho]; trivial) (fun K' => by unfold evCalm; simp only [ho])
  all_goals first
    | exact viaPure (by rw [ho]; trivial) (fun K' => by unfold evCalm; simp only [ho])
    | (unfold evCalm at h; simp only [ho, reduceCtorEq] at h)

/-- one operation in the order of the text -/
def Step (cx : Cx) (all : List Oper) (o : Oper) (st : St) (X : V) : Prop :=
  if isAlloc o = true then X = V.undef else match o.guard with
  | none => evCalm cx o st some = some X
  | some (j, want) => ∃ oj d, all[j]? = some oj ∧ oj.dst = some d ∧ ((∃ b, st.tmps.getD d V.undef = .at (.bool b) ∧ (b = want → evCalm cx o st some = some X) ∧ (b ≠ want → X = V.skipped)) ∨ (st.tmps.getD d V.undef = V.skipped ∧ X = V.skipped))

/-- the values that the operations give in the order of the text -/
def Runs (cx : Cx) (all : List Oper) : List Oper → St → List V → St → Prop
  | [], st, Xs, st' => Xs = [] ∧ st' = st
  | o :: os, st, Xs, st' => ∃ X Ys, Xs = X :: Ys ∧ Step cx all o st X ∧ Runs cx all os (st.put o.dst X) Ys st'

theorem put_same {st : St} {d : Nat} {x : V} (h : st.tmps.getD d V.undef = x) (hx : x ≠ V.undef) : st.put (some d) x = st := by
  have : st.tmps.set d x = st.tmps := by
    apply List.ext_getElem?
    intro i
    rw [List.getElem?_set]
    split
    · next e =>
      subst e
      split
      · next hlt =>
        rw [List.getD_eq_getElem?_getD, List.getElem?_eq_getElem hlt] at h
        rw [List.getElem?_eq_getElem hlt]
        exact congrArg some h.symm
      · next hlt => rw [List.getElem?_eq_none (by omega)]
    · rfl
  unfold St.put
  simp only [this]

theorem evDraw_runs {all : List Oper} {K : St → Option ρ} {r : ρ} : ∀ (rest : List Oper) (st : St), evDraw cx all rest st K = some r → ∃ Xs st', Runs cx all rest st Xs st' ∧ K st' = some r
  | [], st, h => ⟨[], st, ⟨rfl, rfl⟩, h⟩
  | o :: rest, st, h => by
    have go : ∀ (X : V), Step cx all o st X → evDraw cx all rest (st.put o.dst X) K = some r → ∃ Xs st', Runs cx all (o :: rest) st Xs st' ∧ K st' = some r := by
      intro X hX h
      obtain ⟨Xs, st', h1, h2⟩ := evDraw_runs rest _ h
      exact ⟨X :: Xs, st', ⟨X, Xs, rfl, hX, h1⟩, h2⟩
    unfold evDraw at h
    rw [forceSt_eq] at h
    cases hal : isAlloc o with
    | true =>
      rw [hal, cond_true] at h
      exact go V.undef (by unfold Step; rw [hal, if_pos rfl]) h
    | false =>
    rw [hal, cond_false] at h
    have hal' : ¬ isAlloc o = true := by rw [hal]; simp
    split at h
    · next hg =>
      obtain ⟨X, h1, h2⟩ := evCalm_det h
      exact go X (by unfold Step; rw [if_neg hal', hg]; exact h2 some) h1
    · next j want hg =>
      split at h
      case h_2 => cases h
      next oj hj =>
      split at h
      case h_2 => cases h
      next d hd =>
      split at h
      case h_3 => cases h
      case h_2 hb => exact go V.skipped (by unfold Step; rw [if_neg hal', hg]; exact ⟨oj, d, hj, hd, Or.inr ⟨hb, rfl⟩⟩) h
      next b hb =>
      have same := put_same hb (by simp)
      cases b <;> cases want <;> simp only [cond_true, cond_false] at h <;> rw [same] at h
      · obtain ⟨X, h1, h2⟩ := evCalm_det h
        exact go X (by unfold Step; rw [if_neg hal', hg]; exact ⟨oj, d, hj, hd, Or.inl ⟨false, hb, fun _ => h2 some, fun e => absurd rfl e⟩⟩) h1
      · exact go V.skipped (by unfold Step; rw [if_neg hal', hg]; exact ⟨oj, d, hj, hd, Or.inl ⟨false, hb, (fun e => by cases e), fun _ => rfl⟩⟩) h
      · exact go V.skipped (by unfold Step; rw [if_neg hal', hg]; exact ⟨oj, d, hj, hd, Or.inl ⟨true, hb, (fun e => by cases e), fun _ => rfl⟩⟩) h
      · obtain ⟨X, h1, h2⟩ := evCalm_det h
        exact go X (by unfold Step; rw [if_neg hal', hg]; exact ⟨oj, d, hj, hd, Or.inl ⟨true, hb, fun _ => h2 some, fun e => absurd rfl e⟩⟩) h1
end
end Go.Proofs.YtcaknaddeblecaaGreatDoor.Ev

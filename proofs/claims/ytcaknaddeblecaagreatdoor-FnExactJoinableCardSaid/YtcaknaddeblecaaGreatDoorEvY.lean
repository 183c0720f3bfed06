/- Every order does what the order of the text does. -/
import Derived.Test.YtcaknaddeblecaaGreatDoorEvX
namespace Go.Proofs.YtcaknaddeblecaaGreatDoor.Ev
open Go Go.RowKit
set_option linter.unusedVariables false
set_option linter.unusedSimpArgs false
variable {ρ : Type}

section
variable {P : Program} {cx : Cx} {E : Env} {w0 w : World} {μ : Lie} {st : St} {a : Act}

/-- the state when the operations of L are done -/
structure Fit (all : List Oper) (st : St) (Xs : List V) (L : Nat → Bool) (s : St) : Prop where
  bl : s.bl = st.bl
  lock : s.lock = st.lock
  len : s.tmps.length = st.tmps.length
  get : ∀ t, t < st.tmps.length → s.tmps[t]? = (match writer all t with
    | some j => if L j = true then Xs[j]? else st.tmps[t]?
    | none => st.tmps[t]?)

theorem Fit.same {all : List Oper} {Xs : List V} {L : Nat → Bool} {s s' : St} (h : Fit all st Xs L s) (h' : Fit all st Xs L s') : s = s' := by
  have : s.tmps = s'.tmps := by
    apply List.ext_getElem?
    intro t
    rcases Nat.lt_or_ge t st.tmps.length with q | q
    · rw [h.get t q, h'.get t q]
    · rw [List.getElem?_eq_none (by rw [h.len]; exact q), List.getElem?_eq_none (by rw [h'.len]; exact q)]
  cases s; cases s'
  have h1 := h.bl; have h2 := h'.bl; have h3 := h.lock; have h4 := h'.lock
  simp only at this h1 h2 h3 h4
  subst this h1 h3
  rw [h2, h4]

theorem writer_some {all : List Oper} {t j : Nat} (h : writer all t = some j) : ∃ o, all[j]? = some o ∧ o.dst = some t := by
  unfold writer at h
  rw [List.findIdx?_eq_some_iff_getElem] at h
  obtain ⟨hj, h1, _⟩ := h
  exact ⟨all[j], List.getElem?_eq_getElem hj, by simpa using h1⟩

theorem Fit.congr {all : List Oper} {Xs : List V} {L L' : Nat → Bool} {s : St} (h : Fit all st Xs L s) (hL : ∀ j, j < all.length → L j = L' j) : Fit all st Xs L' s := by
  refine ⟨h.bl, h.lock, h.len, fun t ht => ?_⟩
  rw [h.get t ht]
  split
  · next j hj =>
    obtain ⟨o, ho, _⟩ := writer_some hj
    rw [hL j (lt_of_get' ho)]
  · rfl
where
  lt_of_get' {α : Type} {l : List α} {i : Nat} {x : α} (h : l[i]? = some x) : i < l.length := by
    rcases Nat.lt_or_ge i l.length with q | q
    · exact q
    · rw [List.getElem?_eq_none q] at h; cases h

theorem Fit.put {all : List Oper} {Xs : List V} {L : Nat → Bool} {s : St} (h : Fit all st Xs L s) {i : Nat} {o : Oper} {X : V} (ho : all[i]? = some o) (hX : Xs[i]? = some X) (hw : ∀ d, o.dst = some d → writer all d = some i) :
    Fit all st Xs (fun j => L j || j == i) (s.put o.dst X) := by
  cases hd : o.dst with
  | none =>
    refine ⟨h.bl, h.lock, h.len, fun t ht => ?_⟩
    show s.tmps[t]? = _
    rw [h.get t ht]
    split
    · next j hj =>
      obtain ⟨o', ho', hd'⟩ := writer_some hj
      have : j ≠ i := by rintro rfl; rw [ho] at ho'; cases ho'; rw [hd] at hd'; cases hd'
      have e : (j == i) = false := by simpa using this
      simp only [e, Bool.or_false]
    · rfl
  | some d =>
    have hwd := hw d hd
    refine ⟨h.bl, h.lock, by simpa [St.put] using h.len, fun t ht => ?_⟩
    show (s.tmps.set d X)[t]? = _
    by_cases e : t = d
    · subst e
      rw [hwd]
      simp only [beq_self_eq_true, Bool.or_true, if_true]
      rw [List.getElem?_set_self (by rw [h.len]; exact ht), hX]
    · rw [List.getElem?_set_ne (by omega), h.get t ht]
      split
      · next j hj =>
        obtain ⟨o', ho', hd'⟩ := writer_some hj
        have : j ≠ i := by rintro rfl; rw [ho] at ho'; cases ho'; rw [hd] at hd'; cases hd'; exact e rfl
        have e : (j == i) = false := by simpa using this
        simp only [e, Bool.or_false]
      · rfl

structure DrawOk (all : List Oper) : Prop where
  dst : ∀ (i : Nat) (o : Oper), all[i]? = some o → ∀ d, o.dst = some d → writer all d = some i
  back : ∀ (i : Nat) (o : Oper), all[i]? = some o → ∀ e ∈ o.after.toList, e.on < i
  reads : ∀ (i : Nat) (o : Oper), all[i]? = some o → ∀ t ∈ looked o, ∀ j, writer all t = some j → j ∈ edges o ∨ ∃ oj, all[j]? = some oj ∧ i ∈ edges oj
  guard : ∀ (i : Nat) (o : Oper), all[i]? = some o → ∀ j want, o.guard = some (j, want) → j ∈ edges o
  allocs : allocsOk all = true

theorem allFrom_get {α : Type} {p : Nat → α → Bool} : ∀ (l : List α) (n : Nat), allFrom p l n = true → ∀ (i : Nat) (x : α), l[i]? = some x → p (n + i) x = true
  | [], n, h, i, x, hx => by simp at hx
  | y :: l, n, h, i, x, hx => by
    simp only [allFrom, Bool.and_eq_true] at h
    cases i with
    | zero => simp only [List.getElem?_cons_zero, Option.some.injEq] at hx; subst hx; exact h.1
    | succ i =>
      have := allFrom_get l (n + 1) h.2 i x (by simpa using hx)
      rwa [show n + 1 + i = n + (i + 1) by omega] at this

theorem drawOk_sound {all : List Oper} (h : drawOk all = true) : DrawOk all := by
  unfold drawOk at h
  rw [Bool.and_eq_true] at h
  obtain ⟨h, hal⟩ := h
  have key : ∀ (i : Nat) (o : Oper), all[i]? = some o → ((match o.dst with | some d => writer all d == some i | none => true) = true ∧ (o.after.toList.all fun e => Nat.blt e.on i) = true ∧
      ((looked o).all fun t => match writer all t with | some j => (edges o).contains j || (match all[j]? with | some oj => (edges oj).contains i | none => false) | none => true) = true) ∧ (match o.guard with | some (j, _) => (edges o).contains j | none => true) = true := by
    intro i o ho
    have := allFrom_get all 0 h i o ho
    rw [Nat.zero_add] at this
    simp only [Bool.and_eq_true] at this
    exact ⟨⟨this.1.1.1, this.1.1.2, this.1.2⟩, this.2⟩
  refine ⟨fun i o ho d hd => ?_, fun i o ho e he => ?_, fun i o ho t ht j hj => ?_, fun i o ho j want hg => ?_, hal⟩
  · have := (key i o ho).1.1
    rw [hd] at this
    simpa using this
  · have := List.all_eq_true.mp (key i o ho).1.2.1 e he
    exact Nat.le_of_ble_eq_true this
  · have := List.all_eq_true.mp (key i o ho).1.2.2 t ht
    rw [hj] at this
    simp only [Bool.or_eq_true] at this
    rcases this with h | h
    · exact Or.inl (by simpa using h)
    · split at h
      · next oj ho' => exact Or.inr ⟨oj, ho', by simpa using h⟩
      · cases h
  · have := (key i o ho).2
    rw [hg] at this
    simpa using this

theorem lt_get {α : Type} {l : List α} {i : Nat} {x : α} (h : l[i]? = some x) : i < l.length := by
  rcases Nat.lt_or_ge i l.length with q | q
  · exact q
  · rw [List.getElem?_eq_none q] at h; cases h

theorem runs_steps {all : List Oper} (hd : DrawOk all) {Xs : List V} {st' : St} {m : Nat} (hm : m ≤ all.length) : ∀ (rest : List Oper) (i : Nat) (s : St) (Ys : List V), (all.take m).drop i = rest → i ≤ m → Xs.drop i = Ys → Fit all st Xs (fun j => decide (j < i)) s → Runs cx all rest s Ys st' →
    (∀ (k : Nat) (o : Oper), i ≤ k → k < m → all[k]? = some o → ∃ s' X, Fit all st Xs (fun j => decide (j < k)) s' ∧ Xs[k]? = some X ∧ Step cx all o s' X) ∧ Fit all st Xs (fun j => decide (j < m)) st'
  | [], i, s, Ys, h1, hi, h2, hf, hr => by
    obtain ⟨_, rfl⟩ := hr
    have hl : m ≤ i := by
      have := congrArg List.length h1
      simp at this; omega
    refine ⟨fun k o hk hkm ho => by omega, ?_⟩
    have : i = m := by omega
    subst this
    exact hf
  | o :: rest, i, s, Ys, h1, hi, h2, hf, hr => by
    obtain ⟨X, Zs, rfl, hs, hr⟩ := hr
    have hot : (all.take m)[i]? = some o := by
      have := congrArg (fun l => l[0]?) h1
      simpa using this
    have him : i < m := by
      have := lt_get hot
      simp at this; omega
    have ho : all[i]? = some o := by rw [List.getElem?_take_of_lt him] at hot; exact hot
    have hX : Xs[i]? = some X := by
      have := congrArg (fun l => l[0]?) h2
      simpa using this
    have hp := (hf.put ho hX (hd.dst i o ho)).congr (L' := fun j => decide (j < i + 1)) fun j _ => by
      rw [Bool.eq_iff_iff]
      simp only [Bool.or_eq_true, decide_eq_true_eq, beq_iff_eq]
      omega
    obtain ⟨p1, p2⟩ := runs_steps hd hm rest (i + 1) _ Zs (by have := congrArg List.tail h1; simpa using this) him (by have := congrArg List.tail h2; simpa using this) hp hr
    refine ⟨fun k o' hk hkm ho' => ?_, p2⟩
    rcases Nat.lt_or_ge i k with q | q
    · exact p1 k o' q hkm ho'
    · have : k = i := by omega
      subst this
      rw [ho] at ho'
      cases ho'
      exact ⟨s, X, hf, hX, hs⟩

/-! ### what surely comes ahead -/
def Closed (all : List Oper) (L : Nat → Bool) : Prop := ∀ (j : Nat) (oj : Oper), all[j]? = some oj → L j = true → ∀ e ∈ edges oj, L e = true

theorem maskOf_bit {acc : List Nat} {b : Nat} : ∀ (es : List Nat), (maskOf acc es).testBit b = true → ∃ e ∈ es, b = e ∨ (acc.getD e 0).testBit b = true
  | [], h => by simp [maskOf] at h
  | e :: r, h => by
    simp only [maskOf, Nat.testBit_or, Bool.or_eq_true] at h
    rcases h with (h | h) | h
    · rw [Nat.testBit_two_pow] at h
      exact ⟨e, by simp, Or.inl (by simpa using (of_decide_eq_true h).symm)⟩
    · exact ⟨e, by simp, Or.inr h⟩
    · obtain ⟨e', he, h⟩ := maskOf_bit r h
      exact ⟨e', List.mem_cons_of_mem _ he, h⟩

/-- the mask of operation i says what is listed once all that it waits for is -/
def Sure (all : List Oper) (i k : Nat) : Prop := ∀ (L : Nat → Bool) (o : Oper), Closed all L → all[i]? = some o → (∀ e ∈ edges o, L e = true) → ∀ b, k.testBit b = true → L b = true

theorem masks_sure {all : List Oper} (hd : DrawOk all) : ∀ (rest : List Oper) (acc : List Nat), all.drop acc.length = rest → (∀ (i k : Nat), acc[i]? = some k → Sure all i k) →
    (masks rest acc).length = acc.length + rest.length ∧ ∀ (i k : Nat), (masks rest acc)[i]? = some k → Sure all i k
  | [], acc, h, ha => ⟨by simp [masks], ha⟩
  | o :: rest, acc, h, ha => by
    have ho : all[acc.length]? = some o := by
      have := congrArg (fun l => l[0]?) h
      simpa using this
    have hs : Sure all acc.length (maskOf acc (edges o)) := by
      intro L o' hc ho' hl b hb
      rw [ho] at ho'
      cases ho'
      obtain ⟨e, he, hb⟩ := maskOf_bit _ hb
      rcases hb with rfl | hb
      · exact hl _ he
      · cases hq : acc[e]? with
        | none =>
          rw [List.getD_eq_getElem?_getD, hq] at hb
          simp at hb
        | some k =>
          rw [List.getD_eq_getElem?_getD, hq] at hb
          have hlt := lt_get hq
          have hlen : e < all.length := by have := lt_get ho; omega
          exact ha e k hq L _ hc (List.getElem?_eq_getElem hlen) (hc e _ (List.getElem?_eq_getElem hlen) (hl e he)) b hb
    obtain ⟨p1, p2⟩ := masks_sure hd rest (acc ++ [maskOf acc (edges o)]) (by have := congrArg List.tail h; simpa using this) (fun i k hi => by
      rcases Nat.lt_or_ge i acc.length with q | q
      · rw [List.getElem?_append_left q] at hi; exact ha i k hi
      · rw [List.getElem?_append_right q] at hi
        have hz : i - acc.length = 0 := by
          rcases Nat.eq_zero_or_pos (i - acc.length) with z | z
          · exact z
          · rw [List.getElem?_eq_none (by simp; omega)] at hi; cases hi
        rw [hz] at hi
        simp only [List.getElem?_cons_zero, Option.some.injEq] at hi
        subst hi
        have : i = acc.length := by omega
        subst this
        exact hs)
    refine ⟨?_, p2⟩
    show (masks rest (acc ++ [maskOf acc (edges o)])).length = _
    rw [p1]
    simp
    omega

theorem tailOf_get : ∀ (ks : List Nat) (i : Nat), i ≤ tailOf ks i ∧ tailOf ks i ≤ i + ks.length ∧ ∀ j, tailOf ks i ≤ i + j → j < ks.length → ks[j]? = some (2 ^ (i + j) - 1)
  | [], i => ⟨Nat.le_refl _, Nat.le_refl _, fun j _ h => by simp at h⟩
  | k :: r, i => by
    obtain ⟨h1, h2, h3⟩ := tailOf_get r (i + 1)
    unfold tailOf
    cases hc : k == 2 ^ i - 1 && Nat.beq (tailOf r (i + 1)) (i + 1) with
    | true =>
      rw [Bool.and_eq_true] at hc
      have e1 : k = 2 ^ i - 1 := by simpa using hc.1
      have e2 : tailOf r (i + 1) = i + 1 := Nat.eq_of_beq_eq_true hc.2
      simp only [cond_true]
      refine ⟨Nat.le_refl _, by omega, fun j hj hjl => ?_⟩
      cases j with
      | zero => simp [e1]
      | succ j =>
        have := h3 j (by omega) (by simpa using hjl)
        rw [List.getElem?_cons_succ, this]
        congr 3; omega
    | false =>
      simp only [cond_false]
      refine ⟨by omega, by simp only [List.length_cons]; omega, fun j hj hjl => ?_⟩
      cases j with
      | zero => omega
      | succ j =>
        have := h3 j (by omega) (by simpa using hjl)
        rw [List.getElem?_cons_succ, this]
        congr 3; omega

theorem tailAt_le {all : List Oper} (hd : DrawOk all) : tailAt all ≤ all.length := by
  obtain ⟨h1, _⟩ := masks_sure hd all [] rfl (fun i k h => by simp at h)
  have := (tailOf_get (masks all []) 0).2.1
  rw [h1] at this
  simpa [tailAt] using this

/-- in the tail: what is ready has all behind it -/
theorem tail_all {all : List Oper} (hd : DrawOk all) {L : Nat → Bool} (hc : Closed all L) {i : Nat} {o : Oper} (ho : all[i]? = some o) (hm : tailAt all ≤ i) (hl : ∀ e ∈ edges o, L e = true) : ∀ b, b < i → L b = true := by
  obtain ⟨h1, h2⟩ := masks_sure hd all [] rfl (fun i k h => by simp at h)
  have hi := lt_get ho
  have := (tailOf_get (masks all []) 0).2.2 i (by rw [Nat.zero_add]; exact hm) (by rw [h1]; simpa using hi)
  rw [Nat.zero_add] at this
  intro b hb
  exact h2 i _ this L o hc ho hl b (by rw [Nat.testBit_two_pow_sub_one]; simpa using hb)

/-! ### the variable that is made ahead of the tail -/
inductive Al (cx : Cx) (all : List Oper) : Option (Nat × Nat × Ty) → Prop
  | none (h : allocAt all = none) : Al cx all none
  | some (i0 : Nat) (oa : Oper) (tid : TypeId) (d : Nat) (t : Ty) (h : allocAt all = some i0) (h1 : all[i0]? = some oa) (h2 : oa.op = .alloc tid) (h3 : oa.dst = some d) (h4 : cx.ty tid = some t) : Al cx all (some (i0, d, t))

def fin (al : Option (Nat × Nat × Ty)) (s : St) : St :=
  match al with
  | none => s
  | some (_, d, t) => grownSt t d s

def Cur (al : Option (Nat × Nat × Ty)) (L : Nat → Bool) (s : St) : St :=
  match al with
  | none => s
  | some (i0, d, t) => bif L i0 then grownSt t d s else s

theorem evGrow_some {all : List Oper} {K : St → Option ρ} {r : ρ} (h : evGrow cx all st K = some r) : ∃ al, Al cx all al ∧ K (fin al st) = some r := by
  unfold evGrow at h
  split at h
  · next hn => exact ⟨none, .none hn, h⟩
  · next i0 hi =>
    split at h
    case h_2 => cases h
    next oa ho =>
    split at h
    case h_2 => cases h
    next tid ht =>
    split at h
    case h_2 => cases h
    next d t hd hty => exact ⟨_, .some i0 oa tid d t hi ho ht hd hty, h⟩

theorem al_none {all : List Oper} (h : allocAt all = none) {i : Nat} {o : Oper} (ho : all[i]? = some o) (hi : i < tailAt all) : isAlloc o = false := by
  unfold allocAt at h
  rw [List.findIdx?_eq_none_iff] at h
  exact h o (List.mem_of_getElem? (i := i) (by rw [List.getElem?_take_of_lt hi]; exact ho))

theorem al_some {all : List Oper} (hd : DrawOk all) {i0 d : Nat} {oa : Oper} (h : allocAt all = some i0) (ho : all[i0]? = some oa) (hdst : oa.dst = some d) :
    i0 < tailAt all ∧ isAlloc oa = true ∧ oa.guard = none ∧ (∀ (i : Nat) (o : Oper), i < tailAt all → all[i]? = some o → i ≠ i0 → isAlloc o = false ∧ d ∉ looked o) ∧
      (∀ (i : Nat) (o : Oper) j want, all[i]? = some o → o.guard = some (j, want) → j ≠ i0) := by
  have hok := hd.allocs
  unfold allocsOk at hok
  rw [h] at hok
  simp only [ho, hdst, Bool.and_eq_true] at hok
  obtain ⟨⟨h1, h2⟩, h3⟩ := hok
  have hf := h
  unfold allocAt at hf
  rw [List.findIdx?_eq_some_iff_getElem] at hf
  obtain ⟨hj, ha, _⟩ := hf
  have hj' : i0 < tailAt all := by simp at hj; omega
  refine ⟨hj', ?_, by simpa using h1, fun i o hi hio hne => ?_, fun i o j want hio hg => ?_⟩
  · have : (all.take (tailAt all))[i0]? = some oa := by rw [List.getElem?_take_of_lt hj']; exact ho
    rw [List.getElem?_eq_getElem hj] at this
    rw [← Option.some.inj this]; exact ha
  · have := allFrom_get _ 0 h2 i o (by rw [List.getElem?_take_of_lt hi]; exact hio)
    rw [Nat.zero_add] at this
    have hb : (i == i0) = false := by simpa using hne
    rw [hb, Bool.false_or, Bool.and_eq_true] at this
    exact ⟨by simpa using this.1, by simpa using this.2⟩
  · have := List.all_eq_true.mp h3 o (List.mem_of_getElem? hio)
    rw [hg] at this
    simpa using this

theorem cur_put {al : Option (Nat × Nat × Ty)} {L L' : Nat → Bool} {s : St} {d' : Option Nat} {X : V} (hL : ∀ i0 d t, al = some (i0, d, t) → L' i0 = L i0 ∧ d' ≠ some d) : (Cur al L s).put d' X = Cur al L' (s.put d' X) := by
  cases al with
  | none => rfl
  | some x =>
    obtain ⟨i0, d, t⟩ := x
    obtain ⟨e, hne⟩ := hL i0 d t rfl
    simp only [Cur, e]
    cases L i0 with
    | false => rfl
    | true =>
      simp only [cond_true]
      cases d' with
      | none => rfl
      | some d' =>
        have hne : d ≠ d' := fun e => hne (by rw [e])
        unfold grownSt St.put
        simp only
        rw [List.set_comm _ _ hne]

theorem cur_tmp {al : Option (Nat × Nat × Ty)} {L : Nat → Bool} {s : St} {u : Nat} (h : ∀ i0 d t, al = some (i0, d, t) → u ≠ d) : (Cur al L s).tmps.getD u V.undef = s.tmps.getD u V.undef := by
  cases al with
  | none => rfl
  | some x =>
    obtain ⟨i0, d, t⟩ := x
    have hne := h i0 d t rfl
    simp only [Cur]
    cases L i0 with
    | false => rfl
    | true =>
      simp only [cond_true, grownSt, St.put]
      rw [List.getD_eq_getElem?_getD, List.getD_eq_getElem?_getD, List.getElem?_set_ne (Ne.symm hne)]

theorem looked_mem' {o : Oper} {t : Nat} (h : Operand.tmp t ∈ o.op.operands) : t ∈ looked o := by
  unfold looked
  rw [List.mem_filterMap]
  exact ⟨.tmp t, by simpa using h, rfl⟩

theorem cur_calm {al : Option (Nat × Nat × Ty)} {L : Nat → Bool} {s : St} {o : Oper} {X : V} (h : ∀ i0 d t, al = some (i0, d, t) → d ∉ looked o) (hc : evCalm cx o s some = some X) : evCalm cx o (Cur al L s) some = some X := by
  cases al with
  | none => exact hc
  | some x =>
    obtain ⟨i0, d, t⟩ := x
    have hne := h i0 d t rfl
    simp only [Cur]
    cases L i0 with
    | false => exact hc
    | true =>
      simp only [cond_true]
      rw [← evCalm_ext (ext := extOf t s.bl.length) hc]
      refine evCalm_congr (st := { s with bl := s.bl ++ extOf t s.bl.length }) (st' := grownSt t d s) rfl fun x hx => ?_
      cases x with
      | tmp u =>
        have : d ≠ u := fun e => hne (e ▸ looked_mem' hx)
        show ((s.tmps.set d _).getD u V.undef) = s.tmps.getD u V.undef
        rw [List.getD_eq_getElem?_getD, List.getD_eq_getElem?_getD, List.getElem?_set_ne this]
      | const v => rfl
      | global g => rfl
      | func f => rfl

theorem looked_mem {o : Oper} {t : Nat} (h : Operand.tmp t ∈ o.op.operands) : t ∈ looked o := by
  unfold looked
  rw [List.mem_filterMap]
  exact ⟨.tmp t, by simpa using h, rfl⟩

theorem edges_mem {o : Oper} {j : Nat} (h : j ∈ edges o) : ∃ e ∈ o.after.toList, Region.binds .any e = true ∧ e.on = j := by
  unfold edges at h
  rw [List.mem_filterMap] at h
  obtain ⟨e, he, h⟩ := h
  cases hb : Region.binds .any e with
  | true => rw [hb] at h; simp only [cond_true, Option.some.injEq] at h; exact ⟨e, he, hb, h⟩
  | false => rw [hb] at h; cases h

theorem opsDst_get : ∀ {os : List Oper} {i : Nat} {o : Oper} {d : Nat}, os[i]? = some o → o.dst = some d → d ∈ opsDst os
  | [], i, o, d, h, _ => by simp at h
  | x :: os, 0, o, d, h, hd => by
    simp only [List.getElem?_cons_zero, Option.some.injEq] at h
    subst h
    simp [opsDst, hd]
  | x :: os, i + 1, o, d, h, hd => by
    have := opsDst_get (os := os) (i := i) (by simpa using h) hd
    unfold opsDst
    split
    · exact List.mem_cons_of_mem _ this
    · exact this

/-- the unlisted -/
def unlisted (n : Nat) (listed : Array Bool) : List Nat := (List.range n).filter fun i => !listed.getD i true

theorem unlisted_less {n i : Nat} {listed : Array Bool} (hn : listed.size = n) (hi : i < n) (hu : listed.getD i true = false) : (unlisted n (listed.setIfInBounds i true)).length < (unlisted n listed).length := by
  have e : unlisted n (listed.setIfInBounds i true) = (unlisted n listed).filter fun j => j != i := by
    unfold unlisted
    rw [List.filter_filter]
    apply List.filter_congr
    intro j hj
    have hjn : j < n := by simpa using hj
    by_cases q : j = i
    · subst q
      simp [Array.getD_eq_getD_getElem?, Array.getElem?_setIfInBounds, hn, hi]
    · have : (j != i) = true := by simpa using q
      rw [this, Bool.true_and]
      simp [Array.getD_eq_getD_getElem?, Array.getElem?_setIfInBounds_ne (Ne.symm q)]
  rw [e, List.length_filter_lt_length_iff_exists]
  exact ⟨i, by unfold unlisted; rw [List.mem_filter]; exact ⟨by simpa using hi, by rw [hu]; rfl⟩, by simp⟩

theorem unlisted_from {n m : Nat} : ((List.range n).filter fun i => !decide (i < m)).length = n - m := by
  induction n with
  | zero => simp
  | succ n ih =>
    rw [List.range_succ, List.filter_append, List.length_append, ih]
    by_cases h : n < m
    · simp [h]; omega
    · simp [h]; omega

theorem getD_set {n i : Nat} {listed : Array Bool} (hn : listed.size = n) (hi : i < n) (j : Nat) : (listed.setIfInBounds i true).getD j false = (listed.getD j false || j == i) := by
  by_cases q : j = i
  · subst q
    simp [Array.getD_eq_getD_getElem?, Array.getElem?_setIfInBounds, hn, hi]
  · have : (j == i) = false := by simpa using q
    rw [this, Bool.or_false]
    simp [Array.getD_eq_getD_getElem?, Array.getElem?_setIfInBounds_ne (Ne.symm q)]

theorem getD_true {listed : Array Bool} {i : Nat} (hi : i < listed.size) : listed.getD i true = listed.getD i false := by
  rw [Array.getD_eq_getD_getElem?, Array.getD_eq_getD_getElem?, Array.getElem?_eq_getElem hi]; rfl

/-- what is ready -/
theorem ready_iff {ops : Array Oper} {listed : Array Bool} {i : Nat} (hn : listed.size = ops.size) : i ∈ Region.ready .any ops listed ↔ ∃ o, ops.toList[i]? = some o ∧ listed.getD i false = false ∧ ∀ e ∈ edges o, listed.getD e false = true := by
  unfold Region.ready
  rw [List.mem_filter]
  constructor
  · rintro ⟨hin, hi⟩
    have hin : i < ops.size := by simpa using hin
    have hoi : ops[i]? = some ops[i] := Array.getElem?_eq_getElem hin
    rw [hoi, getD_true (by omega)] at hi
    simp only [Option.map_some, Option.getD_some, Bool.and_eq_true, Bool.not_eq_true'] at hi
    obtain ⟨hul, hdeps⟩ := hi
    refine ⟨ops[i], by rw [Array.getElem?_toList]; exact hoi, hul, fun j hj => ?_⟩
    obtain ⟨e, he, hb, rfl⟩ := edges_mem hj
    rw [Array.all_eq_true'] at hdeps
    have := hdeps e (by simpa using he)
    rw [hb] at this
    simpa using this
  · rintro ⟨o, ho, hul, hdeps⟩
    have hin : i < ops.size := by have := lt_get ho; simpa using this
    rw [Array.getElem?_toList] at ho
    refine ⟨by simpa using hin, ?_⟩
    rw [ho, getD_true (by omega), hul]
    simp only [Option.map_some, Option.getD_some, Bool.not_false, Bool.true_and]
    rw [Array.all_eq_true']
    intro e he
    cases hb : Region.binds .any e with
    | false => simp
    | true =>
      have : e.on ∈ edges o := by
        unfold edges
        rw [List.mem_filterMap]
        exact ⟨e, by simpa using he, by rw [hb]; rfl⟩
      rw [hdeps _ this]
      simp

theorem closed_set {ops : Array Oper} {listed : Array Bool} {i : Nat} {o : Oper} (hn : listed.size = ops.size) (hin : i < ops.size) (hoi : ops.toList[i]? = some o) (hdep : ∀ e ∈ edges o, listed.getD e false = true)
    (hcl : Closed ops.toList fun j => listed.getD j false) : Closed ops.toList fun j => (listed.setIfInBounds i true).getD j false := by
  intro j oj hoj hlj e he
  simp only at hlj ⊢
  rw [getD_set hn hin] at hlj ⊢
  rw [Bool.or_eq_true] at hlj
  rcases hlj with h | h
  · have := hcl j oj hoj h e he
    simp only at this
    rw [this, Bool.true_or]
  · have : j = i := by simpa using h
    subst this
    rw [hoi] at hoj
    cases hoj
    rw [hdep e he, Bool.true_or]

/-- from the tail on there is one order -/
theorem tail_any {ops : Array Oper} (hd : DrawOk ops.toList) {Q : Exit → Act → World → Prop} : ∀ (n fuel j : Nat) (listed : Array Bool) (a : Act) (w : World), listed.size = ops.size → (∀ i, i < ops.size → listed.getD i false = decide (i < j)) → Closed ops.toList (fun j => listed.getD j false) →
    tailAt ops.toList ≤ j → j + n = ops.size → n ≤ fuel → wpOps P ops Q (List.range' j n) a w → wpAny P .any ops Q fuel listed a w := by
  intro n
  induction n with
  | zero =>
    intro fuel j listed a w hn hl hcl hm hj hf h
    have hr : Region.ready .any ops listed = [] := by
      rw [List.eq_nil_iff_forall_not_mem]
      intro i hi
      obtain ⟨o, ho, hul, _⟩ := (ready_iff hn).mp hi
      have hin : i < ops.size := by have := lt_get ho; simpa using this
      rw [hl i hin] at hul
      have := of_decide_eq_false hul
      omega
    exact wpAny_done hr h fuel
  | succ n ih =>
    intro fuel j listed a w hn hl hcl hm hj hf h
    cases fuel with
    | zero => omega
    | succ fuel =>
      have hjn : j < ops.size := by omega
      have only : ∀ i ∈ Region.ready .any ops listed, i = j := by
        intro i hi
        obtain ⟨o, ho, hul, hdep⟩ := (ready_iff hn).mp hi
        have hin : i < ops.size := by have := lt_get ho; simpa using this
        rw [hl i hin] at hul
        have hge := of_decide_eq_false hul
        rcases Nat.lt_or_ge j i with q | q
        · have := tail_all hd hcl ho (by omega) hdep j q
          rw [hl j hjn] at this
          have := of_decide_eq_true this
          omega
        · omega
      have hoj : ops[j]? = some ops[j] := Array.getElem?_eq_getElem hjn
      have hoj' : ops.toList[j]? = some ops[j] := by rw [Array.getElem?_toList]; exact hoj
      have hdep : ∀ e ∈ edges ops[j], listed.getD e false = true := by
        intro e he
        obtain ⟨e', he', hb, rfl⟩ := edges_mem he
        have hlt := hd.back j ops[j] hoj' e' he'
        rw [hl _ (by omega)]
        simpa using hlt
      have hin : j ∈ Region.ready .any ops listed := (ready_iff hn).mpr ⟨_, hoj', by rw [hl j hjn]; simp, hdep⟩
      refine ⟨fun hr => absurd hin (by rw [hr]; simp), fun i hi => ?_⟩
      have := only i hi
      subst this
      rw [List.range'_succ, wpOps_cons] at h
      refine wpOp_mono (fun a w h => ih fuel (i + 1) _ a w (by simpa using hn) (fun k hk => ?_) (closed_set hn hjn hoj' hdep hcl) (by omega) (by omega) (by omega) h) h
      rw [getD_set hn hjn, hl k hk, Bool.eq_iff_iff]
      simp only [Bool.or_eq_true, decide_eq_true_eq, beq_iff_eq]
      omega

theorem draw_sound (hcx : cx.good P E.G) {id : Nat} {ops : Array Oper} (hok : drawOk ops.toList = true) {Xs : List V} {st' : St} {al : Option (Nat × Nat × Ty)} (hal : Al cx ops.toList al) (hruns : Runs cx ops.toList (ops.toList.take (tailAt ops.toList)) st Xs st') (hR : Rel E w0 μ st a w) {Q : Exit → Act → World → Prop}
    (hQ : ∀ μ' a' w', Rel E w0 μ' (fin al st') a' w' → (∀ t, t ∉ opsDst ops.toList → a'.tmps[t]? = a.tmps[t]?) → Goes w μ st w' μ' (fin al st') → wpOps P ops Q (List.range' (tailAt ops.toList) (ops.size - tailAt ops.toList)) a' w') : (Code.region id ops true).wp P Q a w := by
  have hd := drawOk_sound hok
  have hmle := tailAt_le hd
  generalize hm : tailAt ops.toList = m at *
  obtain ⟨hsteps, hfin⟩ := runs_steps (cx := cx) hd hmle (ops.toList.take m) 0 st Xs rfl (Nat.zero_le _) rfl ⟨rfl, rfl, rfl, fun t ht => by
    split
    · simp
    · rfl⟩ hruns
  have hsize : ops.toList.length = ops.size := by simp
  have hfacts : ∀ i0 d t, al = some (i0, d, t) → i0 < m ∧ (∀ (i : Nat) (o : Oper), i < m → ops.toList[i]? = some o → i ≠ i0 → d ∉ looked o) ∧ (∀ (i : Nat) (o : Oper) j want, ops.toList[i]? = some o → o.guard = some (j, want) → j ≠ i0) ∧ writer ops.toList d = some i0 := by
    intro i0 d t e
    cases hal with
    | none h => cases e
    | some i0' oa tid d' t' h h1 h2 h3 h4 =>
      cases e
      obtain ⟨p1, p2, p3, p4, p5⟩ := al_some hd h h1 h3
      rw [hm] at p1 p4
      exact ⟨p1, fun i o hi ho hne => (p4 i o hi ho hne).2, p5, hd.dst i0 oa h1 d h3⟩
  refine wp_region_any hcx.ok.mixed ?_
  have key : ∀ (fuel : Nat) (listed : Array Bool) (s : St) (μ1 : Lie) (a1 : Act) (w1 : World), listed.size = ops.size → (unlisted ops.size listed).length ≤ fuel → (∀ j, m ≤ j → listed.getD j false = false) → Fit ops.toList st Xs (fun j => listed.getD j false) s → Rel E w0 μ1 (Cur al (fun j => listed.getD j false) s) a1 w1 →
      (∀ t, t ∉ opsDst ops.toList → a1.tmps[t]? = a.tmps[t]?) → Goes w μ st w1 μ1 (Cur al (fun j => listed.getD j false) s) → Closed ops.toList (fun j => listed.getD j false) → wpAny P .any ops Q fuel listed a1 w1 := by
    have atEnd : ∀ (fuel : Nat) (listed : Array Bool) (s : St) (μ1 : Lie) (a1 : Act) (w1 : World), listed.size = ops.size → (unlisted ops.size listed).length ≤ fuel → (∀ j, m ≤ j → listed.getD j false = false) → Fit ops.toList st Xs (fun j => listed.getD j false) s → Rel E w0 μ1 (Cur al (fun j => listed.getD j false) s) a1 w1 →
        (∀ t, t ∉ opsDst ops.toList → a1.tmps[t]? = a.tmps[t]?) → Goes w μ st w1 μ1 (Cur al (fun j => listed.getD j false) s) → Closed ops.toList (fun j => listed.getD j false) → (∀ i, i < m → listed.getD i false = true) → wpAny P .any ops Q fuel listed a1 w1 := by
      intro fuel listed s μ1 a1 w1 hn hc htail hf hR1 hk hg hcl hall
      have hl : ∀ i, i < ops.size → listed.getD i false = decide (i < m) := by
        intro i _
        rcases Nat.lt_or_ge i m with q | q
        · rw [hall i q]; simp [q]
        · rw [htail i q]; simp; omega
      have hs : s = st' := (hf.congr (L' := fun j => decide (j < m)) fun j hj => hl j (by omega)).same hfin
      subst hs
      have hcur : Cur al (fun j => listed.getD j false) s = fin al s := by
        cases al with
        | none => rfl
        | some x =>
          obtain ⟨i0, d, t⟩ := x
          simp only [Cur, fin, hall i0 (hfacts i0 d t rfl).1, cond_true]
      rw [hcur] at hR1 hg
      have hcount : ops.size - m ≤ fuel := by
        have : unlisted ops.size listed = (List.range ops.size).filter fun i => !decide (i < m) := by
          unfold unlisted
          apply List.filter_congr
          intro i hi
          have hi : i < ops.size := by simpa using hi
          rw [getD_true (by omega), hl i hi]
        rw [this, unlisted_from] at hc
        exact hc
      exact tail_any hd (ops.size - m) fuel m listed a1 w1 hn hl hcl (by omega) (by omega) hcount (hQ μ1 a1 w1 hR1 hk hg)
    intro fuel
    induction fuel with
    | zero =>
      intro listed s μ1 a1 w1 hn hc htail hf hR1 hk hg hcl
      by_cases hall : ∀ i, i < m → listed.getD i false = true
      · exact atEnd _ listed s μ1 a1 w1 hn hc htail hf hR1 hk hg hcl hall
      · exfalso
        apply hall
        intro i hi
        have hnil : unlisted ops.size listed = [] := List.eq_nil_of_length_eq_zero (by omega)
        unfold unlisted at hnil
        rw [List.filter_eq_nil_iff] at hnil
        have := hnil i (by simp; omega)
        rw [getD_true (by omega)] at this
        simpa using this
    | succ fuel ih =>
      intro listed s μ1 a1 w1 hn hc htail hf hR1 hk hg hcl
      by_cases hall : ∀ i, i < m → listed.getD i false = true
      · exact atEnd _ listed s μ1 a1 w1 hn hc htail hf hR1 hk hg hcl hall
      refine ⟨fun hready => absurd ?_ hall, fun i hi => ?_⟩
      · intro i
        induction i using Nat.strongRecOn with
        | _ i ih =>
          intro hi
          have hin : i < ops.size := by omega
          cases hl : listed.getD i false with
          | true => rfl
          | false =>
            exfalso
            have hoi' : ops.toList[i]? = some ops[i] := by rw [Array.getElem?_toList]; exact Array.getElem?_eq_getElem hin
            have : i ∈ Region.ready .any ops listed := (ready_iff hn).mpr ⟨_, hoi', hl, fun e he => by
              obtain ⟨e', he', _, rfl⟩ := edges_mem he
              have := hd.back i _ hoi' e' he'
              exact ih e'.on this (by omega)⟩
            rw [hready] at this
            cases this
      obtain ⟨o, hoi', hul, hdep0⟩ := (ready_iff hn).mp hi
      have hin : i < ops.size := by have := lt_get hoi'; simpa using this
      have hoi : ops[i]? = some o := by rw [← Array.getElem?_toList]; exact hoi'
      have him : i < m := by
        rcases Nat.lt_or_ge i m with q | q
        · exact q
        · exfalso
          apply hall
          intro b hb
          exact tail_all hd hcl hoi' (by rw [hm]; exact q) hdep0 b (by omega)
      have hdep : ∀ j ∈ edges o, listed.getD j false = true ∧ j < i := by
        intro j hj
        refine ⟨hdep0 j hj, ?_⟩
        obtain ⟨e, he, hb, rfl⟩ := edges_mem hj
        exact hd.back i o hoi' e he
      obtain ⟨si, X, hfi, hX, hstep⟩ := hsteps i o (Nat.zero_le _) him hoi'
      -- what the operation reads is as in the order of the text
      have slot : ∀ t j, writer ops.toList t = some j → j ∈ edges o → s.tmps[t]? = si.tmps[t]? := by
        intro t j hw hj
        obtain ⟨h1, h2⟩ := hdep j hj
        rcases Nat.lt_or_ge t st.tmps.length with q | q
        · rw [hf.get t q, hfi.get t q, hw]
          simp [h1, h2]
        · rw [List.getElem?_eq_none (by rw [hf.len]; exact q), List.getElem?_eq_none (by rw [hfi.len]; exact q)]
      have slot' : ∀ t ∈ looked o, s.tmps[t]? = si.tmps[t]? := by
        intro t ht
        cases hw : writer ops.toList t with
        | some j =>
          rcases hd.reads i o hoi' t ht j hw with hr | ⟨oj, hoj, hie⟩
          · exact slot t j hw hr
          · have hij : i < j := by
              obtain ⟨e, he, _, rfl⟩ := edges_mem hie
              exact hd.back j oj hoj e he
            have hlj : listed.getD j false = false := by
              cases hl : listed.getD j false with
              | false => rfl
              | true =>
                have h1 := hcl j oj hoj hl i hie
                simp only at h1
                rw [h1] at hul; cases hul
            rcases Nat.lt_or_ge t st.tmps.length with q | q
            · rw [hf.get t q, hfi.get t q, hw]
              have : ¬ j < i := by omega
              simp [hlj, this]
            · rw [List.getElem?_eq_none (by rw [hf.len]; exact q), List.getElem?_eq_none (by rw [hfi.len]; exact q)]
        | none =>
          rcases Nat.lt_or_ge t st.tmps.length with q | q
          · rw [hf.get t q, hfi.get t q, hw]
          · rw [List.getElem?_eq_none (by rw [hf.len]; exact q), List.getElem?_eq_none (by rw [hfi.len]; exact q)]
      have hget : ∀ x ∈ o.op.operands, s.get x = si.get x := by
        intro x hx
        cases x with
        | tmp t =>
          show s.tmps.getD t V.undef = si.tmps.getD t V.undef
          rw [List.getD_eq_getElem?_getD, List.getD_eq_getElem?_getD, slot' t (looked_mem hx)]
        | const v => rfl
        | global g => rfl
        | func f => rfl
      have hn' : (listed.setIfInBounds i true).size = ops.size := by simpa using hn
      have hc' : (unlisted ops.size (listed.setIfInBounds i true)).length ≤ fuel := by
        have := unlisted_less hn hin (by rw [getD_true (by omega)]; exact hul); omega
      have htail' : ∀ j, m ≤ j → (listed.setIfInBounds i true).getD j false = false := by
        intro j hj
        rw [getD_set hn hin, htail j hj]
        have : j ≠ i := by omega
        simpa using this
      have hf' : Fit ops.toList st Xs (fun j => (listed.setIfInBounds i true).getD j false) (s.put o.dst X) := (hf.put hoi' hX (hd.dst i o hoi')).congr fun j hj => (getD_set hn hin j).symm
      have hcl' := closed_set hn hin hoi' hdep0 hcl
      have hframe : ∀ v t, t ∉ opsDst ops.toList → (a1.put o.dst v).tmps[t]? = a.tmps[t]? := by
        intro v t ht
        rw [← hk t ht]
        cases hdst : o.dst with
        | none => rfl
        | some d =>
          have : d ≠ t := by rintro rfl; exact ht (opsDst_get hoi' hdst)
          simp only [Act.put]
          rw [Array.getElem?_setIfInBounds_ne this]
      unfold wpOp
      simp only [hoi]
      unfold Step at hstep
      by_cases hisal : isAlloc o = true
      · -- the variable is made
        rw [if_pos hisal] at hstep
        subst hstep
        cases hal with
        | none h => exact absurd (al_none h hoi' (by rw [hm]; exact him)) (by rw [hisal]; simp)
        | some i0 oa tid d t h h1 h2 h3 h4 =>
          obtain ⟨p1, p2, p3, p4, p5⟩ := al_some hd h h1 h3
          have hi0 : i = i0 := by
            rcases Nat.decEq i i0 with q | q
            · have := (p4 i o (by rw [hm]; exact him) hoi' q).1
              rw [hisal] at this; cases this
            · exact q
          subst hi0
          rw [hoi'] at h1
          cases h1
          have hw : Region.wanted o (yielded ops a1.tmps) = true := by unfold Region.wanted; rw [p3]
          rw [if_pos hw]
          have hcur : Cur (some (i, d, t)) (fun j => listed.getD j false) s = s := by simp only [Cur, hul, cond_false]
          rw [hcur] at hR1 hg
          have hev : evOp cx (fun _ _ _ _ _ => none) [] o s (fun X st' => some (X, st')) = some (newPtr t s.bl.length, ({ s with bl := s.bl ++ extOf t s.bl.length } : St)) := by
            unfold evOp
            simp only [h2, h4, extOf, newPtr, List.append_assoc]
          refine Or.inl ((eff_alloc hcx.ok hR1 h2 hev).opOk _ _ ?_)
          intro X' st2 μ2 v w2 e hrep hR2 ht hg2
          cases e
          have hcur' : Cur (some (i, d, t)) (fun j => (listed.setIfInBounds i true).getD j false) (s.put o.dst V.undef) = ({ s with bl := s.bl ++ extOf t s.bl.length } : St).put o.dst (newPtr t s.bl.length) := by
            simp only [Cur, getD_set hn hin, beq_self_eq_true, Bool.or_true, cond_true, h3, grownSt, St.put, List.set_set]
          refine ih _ _ μ2 _ w2 hn' hc' htail' hf' ?_ (hframe v) ?_ hcl'
          · rw [hcur']; exact hR2.put o.dst hrep
          · rw [hcur']; exact (hg.trans hg2).trans (goes_put _ _)
      rw [if_neg hisal] at hstep
      have hnot : ∀ i0 d t, al = some (i0, d, t) → i ≠ i0 ∧ d ∉ looked o ∧ o.dst ≠ some d := by
        intro i0 d t e
        obtain ⟨q1, q2, q3, q4⟩ := hfacts i0 d t e
        have hne : i ≠ i0 := by
          rintro rfl
          cases hal with
          | none h => cases e
          | some i0' oa tid d' t' h h1 h2 h3 h4 =>
            cases e
            rw [hoi'] at h1
            cases h1
            apply hisal
            unfold isAlloc
            rw [h2]
        refine ⟨hne, q2 i o him hoi' hne, fun hdd => hne ?_⟩
        have := hd.dst i o hoi' d hdd
        rw [q4] at this
        exact (Option.some.inj this).symm
      have hcalm : ∀ {Y : V}, evCalm cx o si some = some Y → evCalm cx o (Cur al (fun j => listed.getD j false) s) some = some Y := fun h => by
        refine cur_calm (fun i0 d t e => (hnot i0 d t e).2.1) ?_
        rw [evCalm_congr (cx := cx) (o := o) (st := si) (st' := s) (by rw [hf.bl, hfi.bl]) hget]; exact h
      have done : ∀ μ2 v w2, RepV E w2 μ2 (Cur al (fun j => listed.getD j false) s).bl X v → Rel E w0 μ2 (Cur al (fun j => listed.getD j false) s) a1 w2 → Goes w1 μ1 (Cur al (fun j => listed.getD j false) s) w2 μ2 (Cur al (fun j => listed.getD j false) s) → wpAny P .any ops Q fuel (listed.setIfInBounds i true) (a1.put o.dst v) w2 := by
        intro μ2 v w2 hrep hR2 hg2
        have hcur' : (Cur al (fun j => listed.getD j false) s).put o.dst X = Cur al (fun j => (listed.setIfInBounds i true).getD j false) (s.put o.dst X) := cur_put fun i0 d t e => by
          obtain ⟨h1, h2, h3⟩ := hnot i0 d t e
          refine ⟨?_, h3⟩
          simp only [getD_set hn hin]
          have : (i0 == i) = false := by simpa using Ne.symm h1
          rw [this, Bool.or_false]
        refine ih _ _ μ2 _ w2 hn' hc' htail' hf' ?_ (hframe v) ?_ hcl'
        · rw [← hcur']; exact hR2.put o.dst hrep
        · rw [← hcur']; exact (hg.trans hg2).trans (goes_put o.dst X)
      split at hstep
      · next hgd =>
        have hw : Region.wanted o (yielded ops a1.tmps) = true := by unfold Region.wanted; rw [hgd]
        rw [if_pos hw]
        exact Or.inl (evCalm_sound hcx hR1 (hcalm hstep) _ Q done)
      · next j want hgd =>
        obtain ⟨oj, d, h1, h2, hcase⟩ := hstep
        have hsd : (Cur al (fun j => listed.getD j false) s).tmps.getD d V.undef = si.tmps.getD d V.undef := by
          rw [cur_tmp (fun i0 d' t e hdd => by
            obtain ⟨q1, q2, q3, q4⟩ := hfacts i0 d' t e
            refine q3 i o j want hoi' hgd ?_
            subst hdd
            have := hd.dst j oj h1 d h2
            rw [q4] at this
            exact (Option.some.inj this).symm)]
          rw [List.getD_eq_getElem?_getD, slot d j (hd.dst j oj h1 d h2) (hd.guard i o hoi' j want hgd), ← List.getD_eq_getElem?_getD]
        rcases hcase with ⟨b, h3, h4, h5⟩ | ⟨h3, h5⟩
        case inr =>
          have hval := hR1.tmp d
          rw [hsd, h3] at hval
          have hval : a1.tmps.getD d undef = undef := hval.skipped_eq
          have hy : yielded ops a1.tmps j = none := by
            unfold yielded
            rw [← Array.getElem?_toList, h1]
            simp only [Option.bind_some, h2]
            rw [Array.getD_eq_getD_getElem?] at hval
            cases hq : a1.tmps[d]? with
            | none => rfl
            | some u =>
              rw [hq] at hval
              have hval : u = undef := hval
              subst hval
              rfl
          have hw : Region.wanted o (yielded ops a1.tmps) = false := by unfold Region.wanted; rw [hgd]; simp [hy]
          rw [hw]
          subst h5
          exact done μ1 undef w1 RepV.skipped hR1 (Goes.refl _ _ _)
        have hval := hR1.tmp d
        rw [hsd, h3] at hval
        have hval : a1.tmps.getD d undef = .bool b := hval
        have hlt : a1.tmps[d]? = some (.bool b) := by
          rw [Array.getD_eq_getD_getElem?] at hval
          cases hq : a1.tmps[d]? with
          | none => rw [hq] at hval; exact absurd hval (by simp [undef])
          | some u => rw [hq] at hval; exact congrArg some hval
        have hy : yielded ops a1.tmps j = some b := by
          unfold yielded
          rw [← Array.getElem?_toList, h1]
          simp only [Option.bind_some, h2, hlt]
        have hw : Region.wanted o (yielded ops a1.tmps) = (b == want) := by unfold Region.wanted; rw [hgd]; simp [hy]
        rw [hw]
        by_cases e : b = want
        · rw [if_pos (by simpa using e)]
          exact Or.inl (evCalm_sound hcx hR1 (hcalm (h4 e)) _ Q done)
        · rw [if_neg (by simpa using e)]
          have := h5 e
          subst this
          exact done μ1 undef w1 RepV.skipped hR1 (Goes.refl _ _ _)
  have hb : Below w.heap.size w { w with drawn := w.drawn + 1 } := ⟨rfl, rfl, rfl, Nat.le_refl _, fun _ _ => rfl⟩
  obtain ⟨m1, e1⟩ := hR.mem.world hb
  have hnone : ∀ j, (Array.replicate ops.size false).getD j false = false := fun j => by
    rw [Array.getD_eq_getD_getElem?, Array.getElem?_replicate]
    split <;> rfl
  have hcur : Cur al (fun j => (Array.replicate ops.size false).getD j false) st = st := by
    cases al with
    | none => rfl
    | some x => simp only [Cur, hnone, cond_false]
  refine key ops.size _ st μ a _ (by simp) ?_ (fun j _ => hnone j) ⟨rfl, rfl, rfl, fun t ht => ?_⟩ (by rw [hcur]; exact hR.next m1 e1) (fun _ _ => rfl) (by rw [hcur]; exact ⟨e1, rfl, fun _ _ _ => rfl⟩) (fun j oj _ hl => by simp only [hnone j] at hl; cases hl)
  · unfold unlisted
    exact Nat.le_trans (List.length_filter_le _ _) (by simp)
  · split
    · next j hj => simp only [hnone j]; rfl
    · rfl
end
end Go.Proofs.YtcaknaddeblecaaGreatDoor.Ev

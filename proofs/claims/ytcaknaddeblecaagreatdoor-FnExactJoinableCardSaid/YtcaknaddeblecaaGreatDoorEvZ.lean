/- What the claim's form reads of the arguments is typed data; and the frame of a law's row. -/
import Derived.Test.YtcaknaddeblecaaGreatDoorEvW
import Derived.ProofKit
import Derived.OpenShut
import Derived.ShutString
import Derived.ChangeOld
import Derived.Below
import Derived.SizedLaws
import Derived.WideKeyArgs
import Derived.Deep.Slices
namespace Go.Proofs.YtcaknaddeblecaaGreatDoor.Ev
open Go Go.RowKit Go.ChangeShapes Go.WideShapes
set_option linter.unusedVariables false
set_option linter.unusedSimpArgs false

/-- no cell of it is an interface -/
def Ty.noErr : Ty → Bool
  | .err => false
  | .slice e => e.noErr
  | .pair a b => a.noErr && b.noErr
  | .struct b => b.noErr
  | _ => true

/-- what every argument keeps to -/
def Ty.Ok : (t : Ty) → t.den → Prop
  | .int k, n => k.min ≤ n ∧ n ≤ k.max
  | .bool, _ => True
  | .str, s => s.size ≤ maxLen
  | .err, _ => True
  | .slice e, l => l.length ≤ maxLen ∧ ∀ x ∈ l, e.Ok x
  | .pair a b, x => a.Ok x.1 ∧ b.Ok x.2
  | .struct b, x => b.Ok x

section
variable {H : Type} {enc : TypeId × Value → H} {P : Program} {w : World} {base : Nat} {spare : Nat → Bool} {held : Bool}

theorem TyOf.cellsOf {t : TypeId} {ty : Ty} (h : TyOf P t ty) : P.cellsOf t = ty.size := by
  obtain ⟨i, h1, h2, _⟩ := h.basic
  unfold Program.cellsOf
  rw [h1]; exact h2

theorem mapM_cells {a : Addr} : ∀ (js : List Nat) (cs : List Value), (js.mapM fun i => w.cell? (a.add i)) = some cs → cs.length = js.length ∧ ∀ (k j : Nat) (c : Value), js[k]? = some j → cs[k]? = some c → w.cell? (a.add j) = some c
  | [], cs, h => by simp at h; subst h; exact ⟨rfl, fun k j c hk => by simp at hk⟩
  | j :: js, cs, h => by
    rw [List.mapM_cons] at h
    cases hc : w.cell? (a.add j) with
    | none => rw [hc] at h; simp at h
    | some c =>
      rw [hc] at h
      cases hr : (js.mapM fun i => w.cell? (a.add i)) with
      | none => rw [hr] at h; simp at h
      | some r =>
        rw [hr] at h
        simp at h
        subst h
        obtain ⟨h1, h2⟩ := mapM_cells js r hr
        refine ⟨by simp [h1], fun k j' c' hk hc' => ?_⟩
        cases k with
        | zero => simp at hk hc'; subst hk; subst hc'; exact hc
        | succ k => exact h2 k j' c' (by simpa using hk) (by simpa using hc')

theorem read_ty : ∀ (ty : Ty), ty.noErr = true →
    (∀ (t : TypeId) (n : Nat) (cs : List Value) (x : DataW H × List MemPlace), TyOf P t ty → DataW.trod enc P w base spare held n t cs = some x → ∃ y : ty.den, Holds w (fun _ => True) ty y cs ∧ ty.Ok y) ∧
    (∀ (fs : List Field) (off n : Nat) (cs : List Value), (TyF P ty).2 fs off → (∀ f ∈ fs, ∃ x, DataW.trod enc P w base spare held n f.type ((cs.drop f.offset).take (P.cellsOf f.type)) = some x) →
      ∃ y : ty.den, Holds w (fun _ => True) ty y ((cs.drop off).take ty.size) ∧ ty.Ok y) := by
  intro ty
  have second : ∀ {ty : Ty}, (∀ a b, ty ≠ .pair a b) → (∀ (t : TypeId) (n : Nat) (cs : List Value) (x : DataW H × List MemPlace), TyOf P t ty → DataW.trod enc P w base spare held n t cs = some x → ∃ y : ty.den, Holds w (fun _ => True) ty y cs ∧ ty.Ok y) →
      ∀ (fs : List Field) (off n : Nat) (cs : List Value), (TyF P ty).2 fs off → (∀ f ∈ fs, ∃ x, DataW.trod enc P w base spare held n f.type ((cs.drop f.offset).take (P.cellsOf f.type)) = some x) →
      ∃ y : ty.den, Holds w (fun _ => True) ty y ((cs.drop off).take ty.size) ∧ ty.Ok y := by
    intro ty hp h fs off n cs hf hr
    obtain ⟨g, rfl, h1, h2, _⟩ := TyF.last hp hf
    obtain ⟨x, hx⟩ := hr g (by simp)
    rw [h1, h2.cellsOf] at hx
    exact h _ _ _ _ h2 hx
  induction ty with
  | int k =>
    intro _
    have first : ∀ (t : TypeId) (n : Nat) (cs : List Value) (x : DataW H × List MemPlace), TyOf P t (.int k) → DataW.trod enc P w base spare held n t cs = some x → ∃ y : Int, Holds w (fun _ => True) (.int k) y cs ∧ Ty.Ok (.int k) y := by
      intro t n cs x ht h
      obtain ⟨m, rfl, _, hw⟩ := DataW.trod_int ht.1 h
      refine ⟨m, rfl, ?_⟩
      simp only [Lit.wf, Bool.and_eq_true, decide_eq_true_eq] at hw
      exact hw
    exact ⟨first, second (by intro a b e; cases e) first⟩
  | bool =>
    intro _
    have first : ∀ (t : TypeId) (n : Nat) (cs : List Value) (x : DataW H × List MemPlace), TyOf P t .bool → DataW.trod enc P w base spare held n t cs = some x → ∃ y : Bool, Holds w (fun _ => True) .bool y cs ∧ Ty.Ok .bool y := by
      intro t n cs x ht h
      obtain ⟨b, rfl, _⟩ := DataW.trod_bool ht.1 h
      exact ⟨b, rfl, trivial⟩
    exact ⟨first, second (by intro a b e; cases e) first⟩
  | str =>
    intro _
    have first : ∀ (t : TypeId) (n : Nat) (cs : List Value) (x : DataW H × List MemPlace), TyOf P t .str → DataW.trod enc P w base spare held n t cs = some x → ∃ y : ByteArray, Holds w (fun _ => True) .str y cs ∧ Ty.Ok .str y := by
      intro t n cs x ht h
      obtain ⟨s, rfl, _, hs⟩ := DataW.trod_string ht.1 h
      exact ⟨s, rfl, hs⟩
    exact ⟨first, second (by intro a b e; cases e) first⟩
  | err => intro h; cases h
  | slice e ih =>
    intro hne
    obtain ⟨ih1, _⟩ := ih hne
    have first : ∀ (t : TypeId) (n : Nat) (cs : List Value) (x : DataW H × List MemPlace), TyOf P t (.slice e) → DataW.trod enc P w base spare held n t cs = some x → ∃ y : List e.den, Holds w (fun _ => True) (.slice e) y cs ∧ Ty.Ok (.slice e) y := by
      intro t n cs x ht h
      obtain ⟨⟨u, hu, hte⟩, _⟩ := ht
      have hte : TyOf P u e := hte
      rcases Deep.open_slice hu h with ⟨rfl, _⟩ | ⟨ad, len, cap, m, n', D, Pl, rfl, _, hl, hmax, hm, _, hel⟩
      · exact ⟨[], ⟨none, 0, rfl, Nat.le_refl _, fun i hi => absurd hi (Nat.not_lt_zero _)⟩, Nat.zero_le _, fun x hx => by simp at hx⟩
      · have hsz := hte.cellsOf
        have hlm : len ≤ m := by rw [hm]; split <;> omega
        haveI : Inhabited e.den := ⟨e.zero⟩
        have key : ∀ i, i < len → ∃ y : e.den, (∃ cs', w.cells? base (ad.add (i * P.cellsOf u)) (P.cellsOf u) = some cs' ∧ Holds w (fun _ => True) e y cs') ∧ e.Ok y := by
          intro i hi
          obtain ⟨cs', h1, h2⟩ := hel i (by omega)
          obtain ⟨y, h3, h4⟩ := ih1 u n' cs' _ hte h2
          exact ⟨y, ⟨cs', h1, h3⟩, h4⟩
        obtain ⟨f, hf⟩ := Deep.choose_lt key
        have hsp : 0 < len → ad.spot = none := by
          intro h0
          obtain ⟨⟨cs', h1, h2⟩, _⟩ := hf 0 h0
          rw [hsz] at h1
          unfold World.cells? at h1
          split at h1
          case isFalse => cases h1
          obtain ⟨q1, q2⟩ := mapM_cells _ _ h1
          have hlen := h2.length
          have hpos := e.size_pos
          have := q2 0 0 _ (List.getElem?_range (by omega)) (List.getElem?_eq_getElem (show 0 < cs'.length by omega))
          have h00 : (ad.add (0 * e.size)).add 0 = ad := by unfold Addr.add; simp
          rw [h00] at this
          unfold World.cell? at this
          split at this
          · cases hs : ad.spot with
            | none => rfl
            | some s => rw [hs] at this; simp at this
          · cases this
        refine ⟨(List.range len).map f, ?_, ?_⟩
        · refine ⟨some ad, cap, by simp, by simpa using hl, fun i hi => ?_⟩
          have hi' : i < len := by simpa using hi
          obtain ⟨⟨cs', h1, h2⟩, _⟩ := hf i hi'
          rw [hsz] at h1
          unfold World.cells? at h1
          split at h1
          case isFalse => cases h1
          obtain ⟨q1, q2⟩ := mapM_cells _ _ h1
          have hlen := h2.length
          have hcell : ∀ j c, cs'[j]? = some c → w.cell? ((ad.add (i * e.size)).add j) = some c := by
            intro j c hj
            have hlt : j < e.size := by
              rw [← hlen]
              rcases Nat.lt_or_ge j cs'.length with g | g
              · exact g
              · rw [List.getElem?_eq_none g] at hj; cases hj
            exact q2 j j c (List.getElem?_range hlt) hj
          have hsp := hsp (by omega)
          obtain ⟨blk, off, sp⟩ := ad
          simp only at hsp
          subst hsp
          refine ⟨blk, off, cs', rfl, trivial, ?_, fun j c hj => ?_⟩
          · have : ((List.range len).map f)[i] = f i := by simp
            rw [this]; exact h2
          · have := hcell j c hj
            rw [add_none, add_none] at this
            exact this
        · refine ⟨by simp; omega, fun x hx => ?_⟩
          obtain ⟨i, hi, rfl⟩ := List.mem_map.mp hx
          exact (hf i (by simpa using hi)).2
    exact ⟨first, second (by intro a b e; cases e) first⟩
  | pair a b iha ihb =>
    intro hne
    simp only [Ty.noErr, Bool.and_eq_true] at hne
    obtain ⟨iha1, _⟩ := iha hne.1
    obtain ⟨_, ihb2⟩ := ihb hne.2
    refine ⟨fun t n cs x ht => ht.elim, fun fs off n cs hf hr => ?_⟩
    simp only [TyF] at hf
    split at hf
    · next f g r =>
      obtain ⟨h1, ⟨h2, _⟩, h3⟩ := hf
      have h2 : TyOf P f.type a := h2
      obtain ⟨x, hx⟩ := hr f (by simp)
      rw [h1, h2.cellsOf] at hx
      obtain ⟨y1, p1, p2⟩ := iha1 _ _ _ _ h2 hx
      obtain ⟨y2, q1, q2⟩ := ihb2 (g :: r) (off + a.size) n cs h3 fun f' hf' => hr f' (List.mem_cons_of_mem _ hf')
      refine ⟨(y1, y2), ⟨_, _, ?_, p1, q1⟩, p2, q2⟩
      simp only [Ty.size]
      rw [List.take_add, List.drop_drop]
    · exact hf.elim
  | struct b ih =>
    intro hne
    obtain ⟨_, ih2⟩ := ih hne
    have first : ∀ (t : TypeId) (n : Nat) (cs : List Value) (x : DataW H × List MemPlace), TyOf P t (.struct b) → DataW.trod enc P w base spare held n t cs = some x → ∃ y : b.den, Holds w (fun _ => True) (.struct b) y cs ∧ Ty.Ok (.struct b) y := by
      intro t n cs x ht h
      obtain ⟨⟨fs, hu, hfs⟩, hb⟩ := ht
      have hsz : P.cellsOf t = b.size := TyOf.cellsOf (ty := .struct b) ⟨⟨fs, hu, hfs⟩, hb⟩
      obtain ⟨xs, n', rfl, _, hl, hxl, hx⟩ := DataW.trod_struct hu h
      obtain ⟨y, h1, h2⟩ := ih2 fs.toList 0 n' cs hfs (by
        intro f hf
        obtain ⟨i, hi⟩ := List.getElem?_of_mem hf
        have hi' : fs[i]? = some f := by rw [← Array.getElem?_toList]; exact hi
        have hlt : i < xs.length := by
          rw [hxl]
          rcases Nat.lt_or_ge i fs.size with g | g
          · exact g
          · rw [Array.getElem?_eq_none g] at hi'; cases hi'
        exact ⟨xs[i], by rw [hx i f hi', List.getElem?_eq_getElem hlt]⟩)
      refine ⟨y, ?_, h2⟩
      rw [List.drop_zero, List.take_of_length_le (by omega)] at h1
      exact h1
    exact ⟨first, second (by intro a b e; cases e) first⟩

theorem read_val {r : Reach} {b0 : Nat} {ty : Ty} (hn : ty.noErr = true) {t : TypeId} (ht : TyOf P t ty) {v : Value} {d : DataW H} {ps : List MemPlace} (hval : Value.okWide P w r b0 t v) (h : DataW.Trod enc P w base spare held t v d ps) :
    ∃ y : ty.den, ValHolds w (fun _ => True) ty y v ∧ ty.Ok y := by
  obtain ⟨n, h⟩ := h
  obtain ⟨y, h1, h2⟩ := (read_ty ty hn).1 t n _ _ ht h
  refine ⟨y, ?_, h2⟩
  unfold ValHolds
  cases ty with
  | int k => obtain ⟨m, rfl⟩ := okWide_int ht.1 hval; exact h1
  | bool => obtain ⟨m, rfl⟩ := okWide_bool ht.1 hval; exact h1
  | str => obtain ⟨m, rfl⟩ := okWide_string ht.1 hval; exact h1
  | err => cases hn
  | slice e => obtain ⟨⟨u, hu, _⟩, _⟩ := ht; obtain ⟨a, l, c, rfl⟩ := okWide_slice hu hval; exact h1
  | pair a b => exact ht.elim
  | struct b =>
    obtain ⟨⟨fs, hu, _⟩, _⟩ := ht
    obtain ⟨cs, rfl, _⟩ := okWide_struct hu hval
    exact ⟨cs.toList, rfl, h1⟩

/-- the arguments of a law -/
def okL : (ts : List Ty) → denL ts → Prop
  | [], _ => True
  | t :: ts, x => t.Ok x.1 ∧ okL ts x.2

theorem read_args {r : Reach} {b0 : Nat} : ∀ (tys : List Ty) (ts : List TypeId) (vs : List Value) (ds : List (DataW H)) (ps : List MemPlace), (∀ ty ∈ tys, ty.noErr = true) → All2 (fun t ty => TyOf P t ty) ts tys →
    (∀ (j : Nat) (t : TypeId) (v : Value), ts[j]? = some t → vs[j]? = some v → Value.okWide P w r b0 t v) → DataW.TrodAll enc P w base spare held ts vs ds ps → ∃ x : denL tys, ArgsHold w (fun _ => True) tys x vs ∧ okL tys x
  | [], [], vs, ds, ps, _, _, _, h => by obtain ⟨rfl, _, _⟩ := trodAll_nil h; exact ⟨(), trivial, trivial⟩
  | [], _ :: _, _, _, _, _, h, _, _ => h.elim
  | _ :: _, [], _, _, _, _, h, _, _ => h.elim
  | ty :: tys, t :: ts, vs, ds, ps, hn, ht, hv, h => by
    obtain ⟨v, vs', d, ds', p, q, rfl, rfl, rfl, h1, h2⟩ := trodAll_cons h
    obtain ⟨y, p1, p2⟩ := read_val (hn ty (by simp)) ht.1 (hv 0 t v rfl rfl) h1
    obtain ⟨ys, q1, q2⟩ := read_args tys ts vs' ds' q (fun ty' h' => hn ty' (List.mem_cons_of_mem _ h')) ht.2 (fun j t' v' hj hj' => hv (j + 1) t' v' (by simpa using hj) (by simpa using hj')) h2
    exact ⟨(y, ys), ⟨p1, q1⟩, p2, q2⟩

/-- read again: nothing of what was there was turned -/
theorem again_args (hl : laidOutB P = true) {W W' : World} (hb : Below W.heap.size W W') : ∀ (ts : List TypeId) (vs : List Value) (ds : List (DataW H)) (ps : List MemPlace), (∀ t ∈ ts, P.readableRec t = true ∧ t < P.types.size) → (∀ p ∈ ps, p.block < W.heap.size) →
    DataW.TrodAll enc P W 0 (fun _ => true) true ts vs ds ps → DataW.TrodAll enc P W' 0 (fun b => decide (b < W.heap.size)) true ts vs ds ps
  | [], vs, ds, ps, _, _, h => by obtain ⟨rfl, rfl, rfl⟩ := trodAll_nil h; rfl
  | t :: ts, vs, ds, ps, hr, hlt, h => by
    obtain ⟨v, vs', d, ds', p, q, rfl, rfl, rfl, h1, h2⟩ := trodAll_cons h
    have r := hr t (by simp)
    refine ⟨p, q, WideElems.Trod_stays hl r.1 r.2 h1 (fun x hx => hb.same (hlt x (List.mem_append_left _ hx))) (fun x hx => by simpa using hlt x (List.mem_append_left _ hx)), ?_, rfl⟩
    exact again_args hl hb ts vs' ds' q (fun t' h' => hr t' (List.mem_cons_of_mem _ h')) (fun x hx => hlt x (List.mem_append_right _ hx)) h2
end

/-- THE FRAME OF A LAW: a function whose contract says 'true' of whatever it is handed. -/
theorem law_frame {C : Checked} {cx : Cx} {f : FuncId} {fn : Func} {s : ChangeSpec} {tys : List Ty} {sem : denL tys → Option Bool} {b : TypeId}
    (hf : C.prog.funcs[f]? = some fn) {G : World → Prop} (hok : CSpec.ok C.prog G f { params := tys, res := [(.bool, false)], fresh := true, sem := sem })
    (hn : (tys.all Ty.noErr) = true) (ht : All2 (fun t ty => TyOf C.prog t ty) fn.params.toList tys) (hres : fn.resultTypes = #[b]) (hb : C.prog.underlying b = some .bool)
    (hl : laidOutB C.prog = true) (hr : ∀ t ∈ fn.params.toList, C.prog.readableRec t = true ∧ t < C.prog.types.size) (hvars : s.vars = [])
    (hspec : ∀ (H : Type) (ds : List (DataW H)), ds.length = tys.length → s.fn H ds = { results := [.lit (.bool true)], args := ds })
    (pure : ∀ x : denL tys, okL tys x → sem x = some true)
    {H : Type} {enc : TypeId × Value → H} {W : World} {base : Nat} {args : Array Value} {ds gs : List (DataW H)} {before : List MemPlace}
    (hval : ∀ (j : Nat) t v, fn.params[j]? = some t → args[j]? = some v → Value.okWide C.prog W .any base t v)
    (hW : DataW.Whole enc C.prog fn.params.toList s.vars false W args.toList ds gs before) (hG : G W) :
    Calls C.prog f args W fun e W' => ∃ v, e = .returned v ∧ s.post enc C.prog fn false true false false W args v W' := by
  have hlt := hW.lt
  obtain ⟨p, q, hA, hV, rfl, hfz, hnd⟩ := hW
  have hW' : DataW.Whole enc C.prog fn.params.toList s.vars false W args.toList ds gs (p ++ q) := ⟨p, q, hA, hV, rfl, hfz, hnd⟩
  rw [hvars] at hV
  have hgs : gs = [] ∧ q = [] := by cases gs <;> simp [DataW.TrodVars] at hV; exact ⟨rfl, hV⟩
  obtain ⟨rfl, rfl⟩ := hgs
  obtain ⟨x, hx, hxo⟩ := read_args tys fn.params.toList args.toList ds p (fun ty h => List.all_eq_true.mp hn ty h) ht (fun j t v h1 h2 => hval j t v (by rw [← Array.getElem?_toList]; exact h1) (by rw [← Array.getElem?_toList]; exact h2)) hA
  have hc := hok.calls W hG (fun _ => True) args.toList x true hx (pure x hxo)
  have hdl : ds.length = tys.length := by
    have h1 : ds.length = fn.params.toList.length := trodAll_length hA
    rw [h1, ht.length]
  refine (show Calls C.prog f args W _ from hc).mono fun e W' he => ?_
  cases e with
  | panicked c => exact he.elim
  | outgrown => exact he.elim
  | returned v =>
    obtain ⟨hbel, vs, ms, rfl, hnew, hres'⟩ := he
    have hv : vs = [.bool true] := by
      cases vs with
      | nil => simp only [ResHold] at hres'
      | cons v vs => cases vs with
        | nil =>
          simp only [ResHold, ResHold1] at hres'
          have h2 : ([v] : List Value) = [Value.bool true] := hres'.2
          exact h2
        | cons u us => simp only [ResHold] at hres'
    subst hv
    refine ⟨_, rfl, ds, [], p ++ [], [], p, [], hW', ?_, ?_, ?_, hbel.frame _, fun h => by cases h⟩
    · rw [List.append_nil, hspec H ds hdl, hres]
      exact trodAll_mk1 (shut_bool hb true)
    · rw [List.append_nil, hspec H ds hdl]
      exact again_args hl hbel _ _ _ _ hr (fun x hx => hlt x (List.mem_append_left _ hx)) hA
    · rw [hvars]
      rw [List.append_nil, hspec H ds hdl]
      rfl
where
  trodAll_length {H : Type} {enc : TypeId × Value → H} {P : Program} {w : World} {base : Nat} {spare : Nat → Bool} {held : Bool} : ∀ {ts : List TypeId} {vs : List Value} {ds : List (DataW H)} {ps : List MemPlace}, DataW.TrodAll enc P w base spare held ts vs ds ps → ds.length = ts.length
    | [], vs, ds, ps, h => by obtain ⟨_, rfl, _⟩ := trodAll_nil h; rfl
    | t :: ts, vs, ds, ps, h => by
      obtain ⟨v, vs', d, ds', p, q, rfl, rfl, rfl, h1, h2⟩ := trodAll_cons h
      simp [trodAll_length h2]
end Go.Proofs.YtcaknaddeblecaaGreatDoor.Ev

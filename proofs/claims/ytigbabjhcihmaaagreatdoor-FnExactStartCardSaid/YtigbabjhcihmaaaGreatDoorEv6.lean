/- What the claim's form reads of the arguments is typed data; and the frame of a law's row. -/
import Derived.Test.YtigbabjhcihmaaaGreatDoorEv5
import Derived.ProofKit
import Derived.OpenShut
import Derived.ShutString
import Derived.ChangeOld
import Derived.Below
import Derived.SizedLaws
import Derived.WideKeyArgs
import Derived.Deep.Slices
import Derived.KernelRfl
namespace Go.Proofs.YtigbabjhcihmaaaGreatDoor.Ev
open Go Go.RowKit Go.ChangeShapes Go.WideShapes
set_option linter.unusedVariables false
set_option linter.unusedSimpArgs false

/-- no cell of it is an interface -/
def Ty.noErr : Ty → Bool
  | .err => false
  | .slice e => e.noErr
  | .pair a b => a.noErr && b.noErr
  | .struct b => b.noErr
  | _ => true

/-- what every argument keeps to -/
def Ty.Ok : (t : Ty) → t.den → Prop
  | .int k, n => k.min ≤ n ∧ n ≤ k.max
  | .bool, _ => True
  | .str, s => s.size ≤ maxLen
  | .err, _ => True
  | .slice e, l => l.length ≤ maxLen ∧ ∀ x ∈ l, e.Ok x
  | .pair a b, x => a.Ok x.1 ∧ b.Ok x.2
  | .struct b, x => b.Ok x

section
variable {H : Type} {enc : TypeId × Value → H} {P : Program} {w : World} {base : Nat} {spare : Nat → Bool} {held : Bool}

theorem TyOf.cellsOf {t : TypeId} {ty : Ty} (h : TyOf P t ty) : P.cellsOf t = ty.size := by
  obtain ⟨i, h1, h2, _⟩ := h.basic
  unfold Program.cellsOf
  rw [h1]; exact h2

theorem mapM_cells {a : Addr} : ∀ (js : List Nat) (cs : List Value), (js.mapM fun i => w.cell? (a.add i)) = some cs → cs.length = js.length ∧ ∀ (k j : Nat) (c : Value), js[k]? = some j → cs[k]? = some c → w.cell? (a.add j) = some c
  | [], cs, h => by simp at h; subst h; exact ⟨rfl, fun k j c hk => by simp at hk⟩
  | j :: js, cs, h => by
    rw [List.mapM_cons] at h
    cases hc : w.cell? (a.add j) with
    | none => rw [hc] at h; simp at h
    | some c =>
      rw [hc] at h
      cases hr : (js.mapM fun i => w.cell? (a.add i)) with
      | none => rw [hr] at h; simp at h
      | some r =>
        rw [hr] at h
        simp at h
        subst h
        obtain ⟨h1, h2⟩ := mapM_cells js r hr
        refine ⟨by simp [h1], fun k j' c' hk hc' => ?_⟩
        cases k with
        | zero => simp at hk hc'; subst hk; subst hc'; exact hc
        | succ k => exact h2 k j' c' (by simpa using hk) (by simpa using hc')

theorem read_ty : ∀ (ty : Ty), ty.noErr = true →
    (∀ (t : TypeId) (n : Nat) (cs : List Value) (x : DataW H × List MemPlace), TyOf P t ty → DataW.trod enc P w base spare held n t cs = some x → ∃ y : ty.den, Holds w (fun _ => True) ty y cs ∧ ty.Ok y) ∧
    (∀ (fs : List Field) (off n : Nat) (cs : List Value), (TyF P ty).2 fs off → (∀ f ∈ fs, ∃ x, DataW.trod enc P w base spare held n f.type ((cs.drop f.offset).take (P.cellsOf f.type)) = some x) →
      ∃ y : ty.den, Holds w (fun _ => True) ty y ((cs.drop off).take ty.size) ∧ ty.Ok y) := by
  intro ty
  have second : ∀ {ty : Ty}, (∀ a b, ty ≠ .pair a b) → (∀ (t : TypeId) (n : Nat) (cs : List Value) (x : DataW H × List MemPlace), TyOf P t ty → DataW.trod enc P w base spare held n t cs = some x → ∃ y : ty.den, Holds w (fun _ => True) ty y cs ∧ ty.Ok y) →
      ∀ (fs : List Field) (off n : Nat) (cs : List Value), (TyF P ty).2 fs off → (∀ f ∈ fs, ∃ x, DataW.trod enc P w base spare held n f.type ((cs.drop f.offset).take (P.cellsOf f.type)) = some x) →
      ∃ y : ty.den, Holds w (fun _ => True) ty y ((cs.drop off).take ty.size) ∧ ty.Ok y := by
    intro ty hp h fs off n cs hf hr
    obtain ⟨g, rfl, h1, h2, _⟩ := TyF.last hp hf
    obtain ⟨x, hx⟩ := hr g (by simp)
    rw [h1, h2.cellsOf] at hx
    exact h _ _ _ _ h2 hx
  induction ty with
  | int k =>
    intro _
    have first : ∀ (t : TypeId) (n : Nat) (cs : List Value) (x : DataW H × List MemPlace), TyOf P t (.int k) → DataW.trod enc P w base spare held n t cs = some x → ∃ y : Int, Holds w (fun _ => True) (.int k) y cs ∧ Ty.Ok (.int k) y := by
      intro t n cs x ht h
      obtain ⟨m, rfl, _, hw⟩ := DataW.trod_int ht.1 h
      refine ⟨m, rfl, ?_⟩
      simp only [Lit.wf, Bool.and_eq_true, decide_eq_true_eq] at hw
      exact hw
    exact ⟨first, second (by intro a b e; cases e) first⟩
  | bool =>
    intro _
    have first : ∀ (t : TypeId) (n : Nat) (cs : List Value) (x : DataW H × List MemPlace), TyOf P t .bool → DataW.trod enc P w base spare held n t cs = some x → ∃ y : Bool, Holds w (fun _ => True) .bool y cs ∧ Ty.Ok .bool y := by
      intro t n cs x ht h
      obtain ⟨b, rfl, _⟩ := DataW.trod_bool ht.1 h
      exact ⟨b, rfl, trivial⟩
    exact ⟨first, second (by intro a b e; cases e) first⟩
  | str =>
    intro _
    have first : ∀ (t : TypeId) (n : Nat) (cs : List Value) (x : DataW H × List MemPlace), TyOf P t .str → DataW.trod enc P w base spare held n t cs = some x → ∃ y : ByteArray, Holds w (fun _ => True) .str y cs ∧ Ty.Ok .str y := by
      intro t n cs x ht h
      obtain ⟨s, rfl, _, hs⟩ := DataW.trod_string ht.1 h
      exact ⟨s, rfl, hs⟩
    exact ⟨first, second (by intro a b e; cases e) first⟩
  | err => intro h; cases h
  | slice e ih =>
    intro hne
    obtain ⟨ih1, _⟩ := ih hne
    have first : ∀ (t : TypeId) (n : Nat) (cs : List Value) (x : DataW H × List MemPlace), TyOf P t (.slice e) → DataW.trod enc P w base spare held n t cs = some x → ∃ y : List e.den, Holds w (fun _ => True) (.slice e) y cs ∧ Ty.Ok (.slice e) y := by
      intro t n cs x ht h
      obtain ⟨⟨u, hu, hte⟩, _⟩ := ht
      have hte : TyOf P u e := hte
      rcases Deep.open_slice hu h with ⟨rfl, _⟩ | ⟨ad, len, cap, m, n', D, Pl, rfl, _, hl, hmax, hm, _, hel⟩
      · exact ⟨[], ⟨none, 0, rfl, Nat.le_refl _, fun i hi => absurd hi (Nat.not_lt_zero _)⟩, Nat.zero_le _, fun x hx => by simp at hx⟩
      · have hsz := hte.cellsOf
        have hlm : len ≤ m := by rw [hm]; split <;> omega
        haveI : Inhabited e.den := ⟨e.zero⟩
        have key : ∀ i, i < len → ∃ y : e.den, (∃ cs', w.cells? base (ad.add (i * P.cellsOf u)) (P.cellsOf u) = some cs' ∧ Holds w (fun _ => True) e y cs') ∧ e.Ok y := by
          intro i hi
          obtain ⟨cs', h1, h2⟩ := hel i (by omega)
          obtain ⟨y, h3, h4⟩ := ih1 u n' cs' _ hte h2
          exact ⟨y, ⟨cs', h1, h3⟩, h4⟩
        obtain ⟨f, hf⟩ := Deep.choose_lt key
        have hsp : 0 < len → ad.spot = none := by
          intro h0
          obtain ⟨⟨cs', h1, h2⟩, _⟩ := hf 0 h0
          rw [hsz] at h1
          unfold World.cells? at h1
          split at h1
          case isFalse => cases h1
          obtain ⟨q1, q2⟩ := mapM_cells _ _ h1
          have hlen := h2.length
          have hpos := e.size_pos
          have := q2 0 0 _ (List.getElem?_range (by omega)) (List.getElem?_eq_getElem (show 0 < cs'.length by omega))
          have h00 : (ad.add (0 * e.size)).add 0 = ad := by unfold Addr.add; simp
          rw [h00] at this
          unfold World.cell? at this
          split at this
          · cases hs : ad.spot with
            | none => rfl
            | some s => rw [hs] at this; simp at this
          · cases this
        refine ⟨(List.range len).map f, ?_, ?_⟩
        · refine ⟨some ad, cap, by simp, by simpa using hl, fun i hi => ?_⟩
          have hi' : i < len := by simpa using hi
          obtain ⟨⟨cs', h1, h2⟩, _⟩ := hf i hi'
          rw [hsz] at h1
          unfold World.cells? at h1
          split at h1
          case isFalse => cases h1
          obtain ⟨q1, q2⟩ := mapM_cells _ _ h1
          have hlen := h2.length
          have hcell : ∀ j c, cs'[j]? = some c → w.cell? ((ad.add (i * e.size)).add j) = some c := by
            intro j c hj
            have hlt : j < e.size := by
              rw [← hlen]
              rcases Nat.lt_or_ge j cs'.length with g | g
              · exact g
              · rw [List.getElem?_eq_none g] at hj; cases hj
            exact q2 j j c (List.getElem?_range hlt) hj
          have hsp := hsp (by omega)
          obtain ⟨blk, off, sp⟩ := ad
          simp only at hsp
          subst hsp
          refine ⟨blk, off, cs', rfl, trivial, ?_, fun j c hj => ?_⟩
          · have : ((List.range len).map f)[i] = f i := by simp
            rw [this]; exact h2
          · have := hcell j c hj
            rw [add_none, add_none] at this
            exact this
        · refine ⟨by simp; omega, fun x hx => ?_⟩
          obtain ⟨i, hi, rfl⟩ := List.mem_map.mp hx
          exact (hf i (by simpa using hi)).2
    exact ⟨first, second (by intro a b e; cases e) first⟩
  | pair a b iha ihb =>
    intro hne
    simp only [Ty.noErr, Bool.and_eq_true] at hne
    obtain ⟨iha1, _⟩ := iha hne.1
    obtain ⟨_, ihb2⟩ := ihb hne.2
    refine ⟨fun t n cs x ht => ht.elim, fun fs off n cs hf hr => ?_⟩
    simp only [TyF] at hf
    split at hf
    · next f g r =>
      obtain ⟨h1, ⟨h2, _⟩, h3⟩ := hf
      have h2 : TyOf P f.type a := h2
      obtain ⟨x, hx⟩ := hr f (by simp)
      rw [h1, h2.cellsOf] at hx
      obtain ⟨y1, p1, p2⟩ := iha1 _ _ _ _ h2 hx
      obtain ⟨y2, q1, q2⟩ := ihb2 (g :: r) (off + a.size) n cs h3 fun f' hf' => hr f' (List.mem_cons_of_mem _ hf')
      refine ⟨(y1, y2), ⟨_, _, ?_, p1, q1⟩, p2, q2⟩
      simp only [Ty.size]
      rw [List.take_add, List.drop_drop]
    · exact hf.elim
  | struct b ih =>
    intro hne
    obtain ⟨_, ih2⟩ := ih hne
    have first : ∀ (t : TypeId) (n : Nat) (cs : List Value) (x : DataW H × List MemPlace), TyOf P t (.struct b) → DataW.trod enc P w base spare held n t cs = some x → ∃ y : b.den, Holds w (fun _ => True) (.struct b) y cs ∧ Ty.Ok (.struct b) y := by
      intro t n cs x ht h
      obtain ⟨⟨fs, hu, hfs⟩, hb⟩ := ht
      have hsz : P.cellsOf t = b.size := TyOf.cellsOf (ty := .struct b) ⟨⟨fs, hu, hfs⟩, hb⟩
      obtain ⟨xs, n', rfl, _, hl, hxl, hx⟩ := DataW.trod_struct hu h
      obtain ⟨y, h1, h2⟩ := ih2 fs.toList 0 n' cs hfs (by
        intro f hf
        obtain ⟨i, hi⟩ := List.getElem?_of_mem hf
        have hi' : fs[i]? = some f := by rw [← Array.getElem?_toList]; exact hi
        have hlt : i < xs.length := by
          rw [hxl]
          rcases Nat.lt_or_ge i fs.size with g | g
          · exact g
          · rw [Array.getElem?_eq_none g] at hi'; cases hi'
        exact ⟨xs[i], by rw [hx i f hi', List.getElem?_eq_getElem hlt]⟩)
      refine ⟨y, ?_, h2⟩
      rw [List.drop_zero, List.take_of_length_le (by omega)] at h1
      exact h1
    exact ⟨first, second (by intro a b e; cases e) first⟩

theorem read_val {r : Reach} {b0 : Nat} {ty : Ty} (hn : ty.noErr = true) {t : TypeId} (ht : TyOf P t ty) {v : Value} {d : DataW H} {ps : List MemPlace} (hval : Value.okWide P w r b0 t v) (h : DataW.Trod enc P w base spare held t v d ps) :
    ∃ y : ty.den, ValHolds w (fun _ => True) ty y v ∧ ty.Ok y := by
  obtain ⟨n, h⟩ := h
  obtain ⟨y, h1, h2⟩ := (read_ty ty hn).1 t n _ _ ht h
  refine ⟨y, ?_, h2⟩
  unfold ValHolds
  cases ty with
  | int k => obtain ⟨m, rfl⟩ := okWide_int ht.1 hval; exact h1
  | bool => obtain ⟨m, rfl⟩ := okWide_bool ht.1 hval; exact h1
  | str => obtain ⟨m, rfl⟩ := okWide_string ht.1 hval; exact h1
  | err => cases hn
  | slice e => obtain ⟨⟨u, hu, _⟩, _⟩ := ht; obtain ⟨a, l, c, rfl⟩ := okWide_slice hu hval; exact h1
  | pair a b => exact ht.elim
  | struct b =>
    obtain ⟨⟨fs, hu, _⟩, _⟩ := ht
    obtain ⟨cs, rfl, _⟩ := okWide_struct hu hval
    exact ⟨cs.toList, rfl, h1⟩

/-- the arguments of a law -/
def okL : (ts : List Ty) → denL ts → Prop
  | [], _ => True
  | t :: ts, x => t.Ok x.1 ∧ okL ts x.2

theorem read_args {r : Reach} {b0 : Nat} : ∀ (tys : List Ty) (ts : List TypeId) (vs : List Value) (ds : List (DataW H)) (ps : List MemPlace), (∀ ty ∈ tys, ty.noErr = true) → All2 (fun t ty => TyOf P t ty) ts tys →
    (∀ (j : Nat) (t : TypeId) (v : Value), ts[j]? = some t → vs[j]? = some v → Value.okWide P w r b0 t v) → DataW.TrodAll enc P w base spare held ts vs ds ps → ∃ x : denL tys, ArgsHold w (fun _ => True) tys x vs ∧ okL tys x
  | [], [], vs, ds, ps, _, _, _, h => by obtain ⟨rfl, _, _⟩ := trodAll_nil h; exact ⟨(), trivial, trivial⟩
  | [], _ :: _, _, _, _, _, h, _, _ => h.elim
  | _ :: _, [], _, _, _, _, h, _, _ => h.elim
  | ty :: tys, t :: ts, vs, ds, ps, hn, ht, hv, h => by
    obtain ⟨v, vs', d, ds', p, q, rfl, rfl, rfl, h1, h2⟩ := trodAll_cons h
    obtain ⟨y, p1, p2⟩ := read_val (hn ty (by simp)) ht.1 (hv 0 t v rfl rfl) h1
    obtain ⟨ys, q1, q2⟩ := read_args tys ts vs' ds' q (fun ty' h' => hn ty' (List.mem_cons_of_mem _ h')) ht.2 (fun j t' v' hj hj' => hv (j + 1) t' v' (by simpa using hj) (by simpa using hj')) h2
    exact ⟨(y, ys), ⟨p1, q1⟩, p2, q2⟩

/-- read again: nothing of what was there was turned -/
theorem again_args (hl : laidOutB P = true) {W W' : World} (hb : Below W.heap.size W W') : ∀ (ts : List TypeId) (vs : List Value) (ds : List (DataW H)) (ps : List MemPlace), (∀ t ∈ ts, P.readableRec t = true ∧ t < P.types.size) → (∀ p ∈ ps, p.block < W.heap.size) →
    DataW.TrodAll enc P W 0 (fun _ => true) true ts vs ds ps → DataW.TrodAll enc P W' 0 (fun b => decide (b < W.heap.size)) true ts vs ds ps
  | [], vs, ds, ps, _, _, h => by obtain ⟨rfl, rfl, rfl⟩ := trodAll_nil h; rfl
  | t :: ts, vs, ds, ps, hr, hlt, h => by
    obtain ⟨v, vs', d, ds', p, q, rfl, rfl, rfl, h1, h2⟩ := trodAll_cons h
    have r := hr t (by simp)
    refine ⟨p, q, WideElems.Trod_stays hl r.1 r.2 h1 (fun x hx => hb.same (hlt x (List.mem_append_left _ hx))) (fun x hx => by simpa using hlt x (List.mem_append_left _ hx)), ?_, rfl⟩
    exact again_args hl hb ts vs' ds' q (fun t' h' => hr t' (List.mem_cons_of_mem _ h')) (fun x hx => hlt x (List.mem_append_right _ hx)) h2
end

/-- THE FRAME OF A LAW: a function whose contract says 'true' of whatever it is handed. -/
theorem law_frame {C : Checked} {cx : Cx} {f : FuncId} {fn : Func} {s : ChangeSpec} {tys : List Ty} {sem : denL tys → Option Bool} {b : TypeId}
    (hf : C.prog.funcs[f]? = some fn) {G : World → Prop} (hok : CSpec.ok C.prog G f { params := tys, res := [(.bool, false)], fresh := true, sem := sem })
    (hn : (tys.all Ty.noErr) = true) (ht : All2 (fun t ty => TyOf C.prog t ty) fn.params.toList tys) (hres : fn.resultTypes = #[b]) (hb : C.prog.underlying b = some .bool)
    (hl : laidOutB C.prog = true) (hr : ∀ t ∈ fn.params.toList, C.prog.readableRec t = true ∧ t < C.prog.types.size) (hvars : s.vars = [])
    (hspec : ∀ (H : Type) (ds : List (DataW H)), ds.length = tys.length → s.fn H ds = { results := [.lit (.bool true)], args := ds })
    (pure : ∀ x : denL tys, okL tys x → sem x = some true)
    {H : Type} {enc : TypeId × Value → H} {W : World} {base : Nat} {args : Array Value} {ds gs : List (DataW H)} {before : List MemPlace}
    (hval : ∀ (j : Nat) t v, fn.params[j]? = some t → args[j]? = some v → Value.okWide C.prog W .any base t v)
    (hW : DataW.Whole enc C.prog fn.params.toList s.vars false W args.toList ds gs before) (hG : G W) :
    Calls C.prog f args W fun e W' => ∃ v, e = .returned v ∧ s.post enc C.prog fn false true false false W args v W' := by
  have hlt := hW.lt
  obtain ⟨p, q, hA, hV, rfl, hfz, hnd⟩ := hW
  have hW' : DataW.Whole enc C.prog fn.params.toList s.vars false W args.toList ds gs (p ++ q) := ⟨p, q, hA, hV, rfl, hfz, hnd⟩
  rw [hvars] at hV
  have hgs : gs = [] ∧ q = [] := by cases gs <;> simp [DataW.TrodVars] at hV; exact ⟨rfl, hV⟩
  obtain ⟨rfl, rfl⟩ := hgs
  obtain ⟨x, hx, hxo⟩ := read_args tys fn.params.toList args.toList ds p (fun ty h => List.all_eq_true.mp hn ty h) ht (fun j t v h1 h2 => hval j t v (by rw [← Array.getElem?_toList]; exact h1) (by rw [← Array.getElem?_toList]; exact h2)) hA
  have hc := hok.calls W hG (fun _ => True) args.toList x true hx (pure x hxo)
  have hdl : ds.length = tys.length := by
    have h1 : ds.length = fn.params.toList.length := trodAll_length hA
    rw [h1, ht.length]
  refine (show Calls C.prog f args W _ from hc).mono fun e W' he => ?_
  cases e with
  | panicked c => exact he.elim
  | outgrown => exact he.elim
  | returned v =>
    obtain ⟨hbel, vs, ms, rfl, hnew, hres', _⟩ := he
    have hv : vs = [.bool true] := by
      cases vs with
      | nil => simp only [ResHold] at hres'
      | cons v vs => cases vs with
        | nil =>
          simp only [ResHold, ResHold1] at hres'
          have h2 : ([v] : List Value) = [Value.bool true] := hres'.2
          exact h2
        | cons u us => simp only [ResHold] at hres'
    subst hv
    refine ⟨_, rfl, ds, [], p ++ [], [], p, [], hW', ?_, ?_, ?_, hbel.frame _, fun h => by cases h⟩
    · rw [List.append_nil, hspec H ds hdl, hres]
      exact trodAll_mk1 (shut_bool hb true)
    · rw [List.append_nil, hspec H ds hdl]
      exact again_args hl hbel _ _ _ _ hr (fun x hx => hlt x (List.mem_append_left _ hx)) hA
    · rw [hvars]
      rw [List.append_nil, hspec H ds hdl]
      rfl
where
  trodAll_length {H : Type} {enc : TypeId × Value → H} {P : Program} {w : World} {base : Nat} {spare : Nat → Bool} {held : Bool} : ∀ {ts : List TypeId} {vs : List Value} {ds : List (DataW H)} {ps : List MemPlace}, DataW.TrodAll enc P w base spare held ts vs ds ps → ds.length = ts.length
    | [], vs, ds, ps, h => by obtain ⟨_, rfl, _⟩ := trodAll_nil h; rfl
    | t :: ts, vs, ds, ps, h => by
      obtain ⟨v, vs', d, ds', p, q, rfl, rfl, rfl, h1, h2⟩ := trodAll_cons h
      simp [trodAll_length h2]
end Go.Proofs.YtigbabjhcihmaaaGreatDoor.Ev

namespace Go.Proofs.YtigbabjhcihmaaaGreatDoor.Ev
open Go Go.RowKit
set_option linter.unusedVariables false
set_option linter.unusedSimpArgs false

def valEq : Value → Value → Bool
  | .int k n, .int k' n' => decide (k = k') && decide (n = n')
  | .bool b, .bool b' => b == b'
  | .string s, .string s' => decide (s.data.toList = s'.data.toList)
  | .nilIface, .nilIface => true
  | .slice none m c, .slice none m' c' => Nat.beq m m' && Nat.beq c c'
  | _, _ => false

theorem valEq_sound {u v : Value} (h : valEq u v = true) : u = v := by
  unfold valEq at h
  split at h
  · simp only [Bool.and_eq_true, decide_eq_true_eq] at h; rw [h.1, h.2]
  · simp only [beq_iff_eq] at h; rw [h]
  · next s s' =>
    have h := of_decide_eq_true h
    cases s; cases s'
    simp only at h
    rw [Array.ext' h]
  · rfl
  · simp only [Bool.and_eq_true, Nat.beq_eq] at h; rw [h.1, h.2]
  · cases h

def valsEq : List Value → List Value → Bool
  | [], [] => true
  | u :: us, v :: vs => valEq u v && valsEq us vs
  | _, _ => false

theorem valsEq_sound : ∀ {us vs : List Value}, valsEq us vs = true → us = vs
  | [], [], _ => rfl
  | u :: us, v :: vs, h => by
    simp only [valsEq, Bool.and_eq_true] at h
    rw [valEq_sound h.1, valsEq_sound h.2]
  | [], _ :: _, h => by cases h
  | _ :: _, [], h => by cases h

def zeroEq (z : Value) (ty : Ty) : Bool :=
  match z with
  | .agg cs => ty.isAgg && valsEq cs.toList (zeroVals ty)
  | v => !ty.isAgg && valsEq [v] (zeroVals ty)

theorem zeroEq_sound {z : Value} {ty : Ty} (hp : ∀ a b, ty ≠ .pair a b) (h : zeroEq z ty = true) : z = zeroV ty := by
  unfold zeroEq at h
  split at h
  · next cs =>
    simp only [Bool.and_eq_true] at h
    have h2 := valsEq_sound h.2
    cases ty <;> simp [Ty.isAgg] at h
    next b =>
    simp only [zeroV]
    rw [show zeroVals b = cs.toList from h2.symm]
  · simp only [Bool.and_eq_true, Bool.not_eq_true'] at h
    have h2 := valsEq_sound h.2
    cases ty with
    | pair a b => exact absurd rfl (hp a b)
    | struct b => simp [Ty.isAgg] at h
    | int k => simp only [zeroVals, List.cons.injEq, and_true] at h2; exact h2
    | bool => simp only [zeroVals, List.cons.injEq, and_true] at h2; exact h2
    | str => simp only [zeroVals, List.cons.injEq, and_true] at h2; exact h2
    | err => simp only [zeroVals, List.cons.injEq, and_true] at h2; exact h2
    | slice e => simp only [zeroVals, List.cons.injEq, and_true] at h2; exact h2

def basicB (P : Program) (t : TypeId) (ty : Ty) : Bool :=
  match P.info? t with
  | some i => Nat.beq i.size ty.size && Nat.ble i.bytes 4096 && (match i.zero with | some z => zeroEq z ty | none => false)
  | none => false

theorem basicB_sound {P : Program} {t : TypeId} {ty : Ty} (hp : ∀ a b, ty ≠ .pair a b) (h : basicB P t ty = true) : Basic P t ty.size (zeroV ty) := by
  unfold basicB at h
  split at h
  case h_2 => cases h
  next i hi =>
  simp only [Bool.and_eq_true, Nat.beq_eq] at h
  obtain ⟨⟨h1, h2⟩, h3⟩ := h
  split at h3
  case h_2 => cases h3
  next z hz => exact ⟨i, hi, h1, Nat.le_of_ble_eq_true h2, by rw [hz, zeroEq_sound hp h3]⟩

def lastB (f : TypeId → Bool) (fs : List Field) (off : Nat) : Bool :=
  match fs with
  | [g] => Nat.beq g.offset off && f g.type && !decide (g.name = "_")
  | _ => false

theorem lastB_sound {f : TypeId → Bool} {F : TypeId → Prop} (hf : ∀ t, f t = true → F t) {fs : List Field} {off : Nat} (h : lastB f fs off = true) : lastField F fs off := by
  unfold lastB at h
  split at h
  · next g =>
    simp only [Bool.and_eq_true, Nat.beq_eq, Bool.not_eq_true', decide_eq_false_iff_not] at h
    exact ⟨h.1.1, hf _ h.1.2, h.2⟩
  · cases h

def tyB (P : Program) : Ty → (TypeId → Bool) × (List Field → Nat → Bool)
  | .int k => (fun t => (match P.underlying t with | some (.int k') => decide (k = k') | _ => false) && basicB P t (.int k), lastB fun t => (match P.underlying t with | some (.int k') => decide (k = k') | _ => false) && basicB P t (.int k))
  | .bool => (fun t => (match P.underlying t with | some .bool => true | _ => false) && basicB P t .bool, lastB fun t => (match P.underlying t with | some .bool => true | _ => false) && basicB P t .bool)
  | .str => (fun t => (match P.underlying t with | some .string => true | _ => false) && basicB P t .str, lastB fun t => (match P.underlying t with | some .string => true | _ => false) && basicB P t .str)
  | .err => (fun t => (match P.underlying t with | some (.interface _) => true | _ => false) && basicB P t .err, lastB fun t => (match P.underlying t with | some (.interface _) => true | _ => false) && basicB P t .err)
  | .slice e => (fun t => (match P.underlying t with | some (.slice u) => (tyB P e).1 u | _ => false) && basicB P t (.slice e), lastB fun t => (match P.underlying t with | some (.slice u) => (tyB P e).1 u | _ => false) && basicB P t (.slice e))
  | .pair a b => (fun _ => false, fun fs off => match fs with
    | f :: g :: r => Nat.beq f.offset off && ((tyB P a).1 f.type && !decide (f.name = "_")) && (tyB P b).2 (g :: r) (off + a.size)
    | _ => false)
  | .struct b => (fun t => (match P.underlying t with | some (.struct fs) => (tyB P b).2 fs.toList 0 | _ => false) && basicB P t (.struct b),
      lastB fun t => (match P.underlying t with | some (.struct fs) => (tyB P b).2 fs.toList 0 | _ => false) && basicB P t (.struct b))

theorem tyB_sound {P : Program} : ∀ ty : Ty, (∀ t, (tyB P ty).1 t = true → (TyF P ty).1 t) ∧ (∀ fs off, (tyB P ty).2 fs off = true → (TyF P ty).2 fs off) := by
  intro ty
  induction ty with
  | int k =>
    have first : ∀ t, (tyB P (.int k)).1 t = true → (TyF P (.int k)).1 t := by
      intro t h
      simp only [tyB, Bool.and_eq_true] at h
      have hb := basicB_sound (by intro a b e; cases e) h.2
      replace h := h.1
      split at h
      · next k' hk => have e := of_decide_eq_true h; subst e; exact ⟨hk, hb⟩
      · cases h
    exact ⟨first, fun fs off h => lastB_sound (F := (TyF P (.int k)).1) first h⟩
  | bool =>
    have first : ∀ t, (tyB P .bool).1 t = true → (TyF P .bool).1 t := by
      intro t h
      simp only [tyB, Bool.and_eq_true] at h
      have hb := basicB_sound (by intro a b e; cases e) h.2
      replace h := h.1
      split at h
      · next hk => exact ⟨hk, hb⟩
      · cases h
    exact ⟨first, fun fs off h => lastB_sound (F := (TyF P .bool).1) first h⟩
  | str =>
    have first : ∀ t, (tyB P .str).1 t = true → (TyF P .str).1 t := by
      intro t h
      simp only [tyB, Bool.and_eq_true] at h
      have hb := basicB_sound (by intro a b e; cases e) h.2
      replace h := h.1
      split at h
      · next hk => exact ⟨hk, hb⟩
      · cases h
    exact ⟨first, fun fs off h => lastB_sound (F := (TyF P .str).1) first h⟩
  | err =>
    have first : ∀ t, (tyB P .err).1 t = true → (TyF P .err).1 t := by
      intro t h
      simp only [tyB, Bool.and_eq_true] at h
      have hb := basicB_sound (by intro a b e; cases e) h.2
      replace h := h.1
      split at h
      · next ms hk => exact ⟨⟨ms, hk⟩, hb⟩
      · cases h
    exact ⟨first, fun fs off h => lastB_sound (F := (TyF P .err).1) first h⟩
  | slice e ih =>
    have first : ∀ t, (tyB P (.slice e)).1 t = true → (TyF P (.slice e)).1 t := by
      intro t h
      simp only [tyB, Bool.and_eq_true] at h
      have hb := basicB_sound (by intro a b e; cases e) h.2
      replace h := h.1
      split at h
      · next u hk => exact ⟨⟨u, hk, ih.1 u h⟩, hb⟩
      · cases h
    exact ⟨first, fun fs off h => lastB_sound (F := (TyF P (.slice e)).1) first h⟩
  | pair a b iha ihb =>
    refine ⟨fun t h => by simp [tyB] at h, fun fs off h => ?_⟩
    simp only [tyB] at h
    split at h
    · next f g r =>
      simp only [Bool.and_eq_true, Nat.beq_eq, Bool.not_eq_true', decide_eq_false_iff_not] at h
      exact ⟨h.1.1, ⟨iha.1 _ h.1.2.1, h.1.2.2⟩, ihb.2 _ _ h.2⟩
    · cases h
  | struct b ih =>
    have first : ∀ t, (tyB P (.struct b)).1 t = true → (TyF P (.struct b)).1 t := by
      intro t h
      simp only [tyB, Bool.and_eq_true] at h
      have hb := basicB_sound (by intro a b e; cases e) h.2
      replace h := h.1
      split at h
      · next fs hk => exact ⟨⟨fs, hk, ih.2 _ _ h⟩, hb⟩
      · cases h
    exact ⟨first, fun fs off h => lastB_sound (F := (TyF P (.struct b)).1) first h⟩

def look {α : Type} : List (Nat × α) → Nat → Option α
  | [], _ => none
  | (g, x) :: r, f => bif Nat.beq g f then some x else look r f

theorem look_mem {α : Type} : ∀ (l : List (Nat × α)) (f : Nat) (x : α), look l f = some x → (f, x) ∈ l
  | [], _, _, h => by cases h
  | (g, y) :: r, f, x, h => by
    simp only [look] at h
    cases hg : Nat.beq g f with
    | true =>
      rw [hg] at h
      cases h
      have := Nat.eq_of_beq_eq_true hg
      subst this
      exact List.mem_cons_self ..
    | false => rw [hg] at h; exact List.mem_cons_of_mem _ (look_mem r f x h)

/-- a context out of tables -/
structure Tabs where
  ty : List (Nat × Ty)
  cmp : List Nat
  body : List (Nat × Func)
  keep : List Nat → Nat → Keep
  k : Nat

def Tabs.cx (T : Tabs) (calls : List (Nat × CSpec)) : Cx where
  ty := look T.ty
  cmp := fun t => T.cmp.contains t
  body := look T.body
  call := look calls
  keep := T.keep
  k := T.k

def bodiesOk (P : Program) : List (Nat × Func) → Prop
  | [] => True
  | (f, fn) :: r => (P.funcs[f]? = some fn ∧ (decide (fn.name = "runtime.NumGoroutine")) = false ∧ fn.body.isSome = true) ∧ bodiesOk P r

structure Tabs.ok (P : Program) (T : Tabs) : Prop where
  ty : (T.ty.all fun p => (tyB P p.2).1 p.1) = true
  cmp : (T.cmp.all fun t => !P.stoodInHeld t && !P.eqGuardType P.depth t) = true
  body : bodiesOk P T.body
  mixed : P.follows .mixedOrders = true

theorem bodiesOk_get {P : Program} : ∀ (l : List (Nat × Func)), bodiesOk P l → ∀ f fn, (f, fn) ∈ l → P.funcs[f]? = some fn ∧ fn.name ≠ "runtime.NumGoroutine" ∧ fn.body.isSome = true
  | [], _, f, fn, h => by simp at h
  | (g, gn) :: r, ho, f, fn, h => by
    rcases List.mem_cons.mp h with e | h
    · cases e
      exact ⟨ho.1.1, of_decide_eq_false ho.1.2.1, ho.1.2.2⟩
    · exact bodiesOk_get r ho.2 f fn h

theorem Tabs.cx_ok {P : Program} {T : Tabs} (h : T.ok P) (calls : List (Nat × CSpec)) : (T.cx calls).ok P := by
  refine ⟨fun t ty ht => ?_, fun t ht => ?_, fun f fn hf => bodiesOk_get _ h.body f fn (look_mem _ _ _ hf), h.mixed⟩
  · exact (tyB_sound ty).1 t (List.all_eq_true.mp h.ty _ (look_mem _ _ _ ht))
  · have hm : t ∈ T.cmp := by simpa [Tabs.cx] using ht
    have := List.all_eq_true.mp h.cmp t hm
    simpa using this

/-- what stays true of worlds while a call goes on -/
def Lasts (G : World → Prop) : Prop := ∀ w w' : World, G w → Below w.heap.size w w' → G w'

def callsOk (P : Program) (G : World → Prop) : List (Nat × CSpec) → Prop
  | [] => True
  | (f, s) :: r => s.ok P G f ∧ callsOk P G r

theorem callsOk_get {P : Program} {G : World → Prop} : ∀ (l : List (Nat × CSpec)), callsOk P G l → ∀ f s, (f, s) ∈ l → s.ok P G f
  | [], _, f, s, h => by simp at h
  | (g, gs) :: r, ho, f, s, h => by
    rcases List.mem_cons.mp h with e | h
    · cases e; exact ho.1
    · exact callsOk_get r ho.2 f s h

theorem Tabs.good {P : Program} {T : Tabs} (h : T.ok P) {G : World → Prop} (hG : Lasts G) {calls : List (Nat × CSpec)} (hc : callsOk P G calls) : (T.cx calls).good P G :=
  ⟨T.cx_ok h calls, fun f s hs => callsOk_get _ hc f s (look_mem _ _ _ hs), fun f s hs => (by cases hs), hG⟩

/-- one function more: its contract, out of the evaluator's word -/
theorem fn_ok {P : Program} {T : Tabs} (h : T.ok P) {G : World → Prop} (hG : Lasts G) {calls : List (Nat × CSpec)} (hc : callsOk P G calls) (d : Nat) {f : FuncId} {fn : Func} (hf : look T.body f = some fn) (s : CSpec) (hs : evFn (T.cx calls) d fn s.params s.res s.fresh = s.sem) : s.ok P G f :=
  evFn_ok (T.good h hG hc) d hf s fun x r hr => by rw [hs]; exact hr

/-- all that was there when the call began is there still -/
def since (W w : World) : Prop := W.heap.size ≤ w.heap.size ∧ Below W.heap.size W w
theorem since.lasts (W : World) : Lasts (since W) := fun _ _ h hb => ⟨Nat.le_trans h.1 hb.size, h.2.trans (hb.mono h.1)⟩
theorem since.refl (W : World) : since W W := ⟨Nat.le_refl _, Below.refl _ _⟩
end Go.Proofs.YtigbabjhcihmaaaGreatDoor.Ev

set_option linter.unusedVariables false
namespace Go.Proofs.YtigbabjhcihmaaaGreatDoor.Ev
open Go Go.RowKit Go.Proofs
theorem fill_ok {P : Program} {T : Tabs} (h : T.ok P) {G : World → Prop} (hG : Lasts G) {calls : List (Nat × CSpec)} (hc : callsOk P G calls) (d hs : Nat) (dIx : Tmp) {f : FuncId} {fn : Func} (hf : look T.body f = some fn) (s : CSpec) (he : evFill (T.cx calls) d hs dIx fn s.params s.res s.fresh = s.sem) : s.ok P G f :=
  evFill_ok (T.good h hG hc) d hs dIx hf s fun x r hr => by rw [he]; exact hr
end Go.Proofs.YtigbabjhcihmaaaGreatDoor.Ev

namespace Go.Proofs.YtigbabjhcihmaaaGreatDoor.Ev
open Go Go.RowKit
set_option linter.unusedVariables false
set_option linter.unusedSimpArgs false

section
variable {P : Program} {cx : Cx} {E : Env} {w0 w : World} {μ : Lie} {st : St} {a : Act} {bl : List Blk}

theorem giveArgsE_sound {S : Nat → Prop} (hS : ∀ k, S k → E.D μ bl false k) : ∀ (ts : List Ty) (x : denL ts) (vs : List Value), ArgsHold w S ts x vs → All2 (RepV E w μ bl) (giveArgs ts x) vs
  | [], _, [], _ => trivial
  | [], _, _ :: _, h => h.elim
  | t :: ts, x, [], h => h.elim
  | t :: ts, x, v :: vs, h => by
    refine ⟨ValHolds.repV (fr := false) ?_, giveArgsE_sound hS ts x.2 vs h.2⟩
    have h1 := h.1
    unfold ValHolds at h1 ⊢
    split at h1
    · obtain ⟨us, e, hh⟩ := h1; exact ⟨us, e, hh.weaken fun k hk _ => hS k hk⟩
    · exact h1.weaken fun k hk _ => hS k hk

/-- A function keeps the contract that the evaluator gives it. -/
theorem evPtrFn_ok {G : World → Prop} (hcx : cx.good P G) (d : Nat) {f : FuncId} {fn : Func} (hf : cx.body f = some fn) (s : PSpec) (hs : ∀ x xs r, s.sem x xs = some r → evPtrFn cx d fn s.ptr s.params s.res s.fresh x xs = some r) : s.ok P G f := by
  obtain ⟨p1, p2, p3⟩ := hcx.ok.body f fn hf
  cases hc : fn.body with
  | none => rw [hc] at p3; cases p3
  | some c =>
  refine ⟨⟨fn, p1, p2, p3⟩, fun w S k vals ty fz args x xs r hG hheap hunf hkS hvar hargs hsem => ?_⟩
  have h := hs x xs r hsem
  unfold evPtrFn at h
  rw [hc] at h
  refine calls_of_wp p1 hc ?_
  obtain ⟨E, hE⟩ : ∃ E : Env, E = Env.with w.heap.size k S G := ⟨_, rfl⟩
  have hEG : E.G = G := by rw [hE]
  have hEN : ∀ j, E.N j ↔ (w.heap.size ≤ j ∨ j = k) := fun j => by rw [hE]
  have hES : ∀ j, E.S0 j ↔ S j := fun j => by rw [hE]
  have hEB : E.B = w.heap.size := by rw [hE]
  have hap : ∀ w', E.Apart w w' → (Env.with w.heap.size k S fun _ => True).Apart w w' := fun w' q => ⟨q.os, q.tape, q.output, q.size, fun j hj hn => q.block j hj fun hx => hn ((hEN j).mp hx)⟩
  obtain ⟨μ0, hμ0⟩ : ∃ μ0 : Lie, μ0 = fun b => if b = 0 then some (k, 0) else none := ⟨_, rfl⟩
  have hμ00 : μ0 0 = some (k, 0) := by rw [hμ0]; rfl
  have hμ0n : ∀ b j c, μ0 b = some (j, c) → b = 0 ∧ j = k := by
    intro b j c e
    rw [hμ0] at e
    simp only at e
    split at e
    · next e0 => cases e; exact ⟨e0, rfl⟩
    · cases e
  obtain ⟨bl0, hbl0⟩ : ∃ bl0 : List Blk, bl0 = [.var (s.ptr.cells false x)] := ⟨_, rfl⟩
  rw [← hbl0] at h
  have hlt : k < w.heap.size := heap_lt hheap
  have hSD : ∀ j, S j → E.D μ0 bl0 false j := fun j hj => ⟨Or.inr ⟨rfl, (hES j).mpr hj⟩, fun ⟨b, c, e, _⟩ => hkS ((hμ0n b j c e).2 ▸ hj)⟩
  have hm0 : Mem E w w μ0 bl0 := by
    refine ⟨fun w' q => by rw [hEG]; exact hG w' (hap w' q), Env.Apart.refl _ w, by rw [hEB]; exact Nat.le_refl _, fun b blk hb => ?_, fun b b' j c c' h1 h2 _ _ => by rw [(hμ0n b j c h1).1, (hμ0n b' j c' h2).1]⟩
    rw [hbl0] at hb
    cases b with
    | succ b => simp at hb
    | zero =>
      simp only [List.getElem?_cons_zero, Option.some.injEq] at hb
      subst hb
      exact ⟨k, 0, vals, ty, fz, hμ00, (hEN k).mpr (Or.inr rfl), hheap, hunf, Holds.cells' hSD hvar⟩
  have ht0 : Trees E w μ0 bl0 := by
    have hno : ∀ (b g : Nat) (t : Ty) (l : List t.den), bl0[b]? ≠ some (Blk.arr g true true t l) := by
      intro b g t l hb
      rw [hbl0] at hb
      cases b with
      | zero => simp at hb
      | succ b => simp at hb
    exact ⟨fun _ => [], fun b g t l hb => absurd hb (hno b g t l), fun b ⟨g, t, l, hb⟩ => absurd hb (hno b g t l), fun b ⟨g, t, l, hb⟩ => absurd hb (hno b g t l), fun b b' ⟨g, t, l, hb⟩ => absurd hb (hno b g t l)⟩
  have hX := giveArgsE_sound hSD _ _ _ hargs
  have hp0 : RepV E w μ0 bl0 (.at (.ptr 0 0)) (.pointer (some ⟨k, 0, none⟩)) := ⟨⟨rfl, by rw [hbl0]; simp⟩, fun cs _ => ⟨k, 0, hμ00, rfl⟩⟩
  have hlen := hX.length
  have hR : Rel E w μ0 { tmps := enter fn.ntmps (.at (.ptr 0 0) :: giveArgs s.params xs), bl := bl0, lock := [] } { tmps := (.pointer (some ⟨k, 0, none⟩) :: args).toArray ++ Array.replicate (fn.ntmps - (.pointer (some ⟨k, 0, none⟩) :: args).toArray.size) undef, defers := [] } w := by
    refine ⟨hm0, ?_, rfl, ht0⟩
    simp only [enter, Array.toList_append, Array.toList_replicate, List.size_toArray, List.length_cons]
    rw [hlen]
    refine All2.append (as := .at (.ptr 0 0) :: giveArgs s.params xs) (bs := .pointer (some ⟨k, 0, none⟩) :: args) ⟨hp0, hX⟩ ?_
    generalize fn.ntmps - (args.length + 1) = m
    induction m with
    | zero => trivial
    | succ m ih => exact ⟨RepV.undef, ih⟩
  have hcxE : cx.good P E.G := by rw [hEG]; exact hcx
  refine wp_mono (evCode_sound hcxE (evInl_sound hcxE d) c w _ _ r _ _ w hR h) ?_
  rintro e a' w' ⟨ex, st', μ', rfl, hk, hR', _, g⟩
  have fin : endPtr cx fn s.ptr s.res s.fresh st' = some r → a'.defers = [] ∧ ∃ v, (results fn a'.tmps).run P w' = .ok v w' ∧ s.post w S k r v w' := by
    intro hk
    unfold endPtr at hk
    split at hk
    case h_2 => cases hk
    next cs hb0 =>
    have hrows := isEmpty_nil (cond_none hk).1
    replace hk := (cond_none hk).2
    split at hk
    case h_2 => cases hk
    next y0 hy0 =>
    split at hk
    case h_2 => cases hk
    next r0 hk0 =>
    cases hk
    unfold endFn at hk0
    split at hk0
    case h_2 => cases hk0
    next xs' hxs =>
    split at hk0
    case h_2 => cases hk0
    next y hy =>
    have hap2 := (cond_none hk0).1
    replace hk0 := (cond_none hk0).2
    cases hk0
    rw [Bool.and_eq_true] at hap2
    obtain ⟨us, q1, q2⟩ := results_sound hcx.ok hR' hxs
    have hm := hR'.mem
    obtain ⟨_, mineAll, handsAll⟩ := takeRes_sound (S := fun _ => True) hm (fun _ _ => trivial) s.res xs' us y hy q2 (fun _ _ => trivial)
    have inms : ∀ k c, some (k, c) ∈ y.2.1.map (·.bind μ') → ∃ b, some b ∈ y.2.1 ∧ μ' b = some (k, c) := fun k c hkc => by
      obtain ⟨b, hb, e⟩ := List.mem_map.mp hkc
      cases b with
      | none => cases e
      | some b => exact ⟨b, hb, e⟩
    have hμ' : μ' 0 = some (k, 0) := by
      have := (g.evo.var 0 cs (by rw [hbl0]; simp) hb0).2
      rw [this, hμ00]
    have hm0' : Ev.mine st'.bl 0 := by unfold Ev.mine; rw [hb0]; trivial
    have hownk : Own μ' st'.bl k := ⟨0, 0, hμ', hm0'⟩
    have rowNot : ∀ b c g own nf t l, st'.bl[b]? = some (.arr g own nf t l) → μ' b ≠ some (k, c) := by
      intro b c g own nf t l hb e
      have := hm.apart b 0 k c 0 e hμ' (by unfold alive; rw [hb]; trivial) (mine_alive hm0')
      subst this
      rw [hb0] at hb; cases hb
    have arrAll : ∀ b, some b ∈ y.2.1 → ∃ g own nf t l, st'.bl[b]? = some (.arr g own nf t l) := fun b hb => by
      obtain ⟨i, hi⟩ := List.getElem?_of_mem hb
      have hl : (giveRes s.fresh s.res y.1 0).2.length = y.2.1.length := by
        have := giveRes_length (fresh := s.fresh) s.res y.1 us (y.2.1.map (·.bind μ')) 0 (takeRes_sound (S := fun _ => True) hm (fun _ _ => trivial) s.res xs' us y hy q2 (fun _ _ => trivial)).1
        rw [this, List.length_map]
      have hi2 : i < (giveRes s.fresh s.res y.1 0).2.length := by
        rw [hl]
        rcases Nat.lt_or_ge i y.2.1.length with q | q
        · exact q
        · rw [List.getElem?_eq_none q] at hi; cases hi
      obtain ⟨e, l, _, hmt⟩ := handsAll i _ (List.getElem?_eq_getElem hi2)
      rw [hi] at hmt
      obtain ⟨g', nf, q, _⟩ := hmt
      exact ⟨g', true, nf, e, l, q⟩
    have hNB : ∀ j, E.N j → ¬ Own μ' st'.bl j → w.heap.size ≤ j := fun j hj ho => ((hEN j).mp hj).elim id fun e => absurd (e ▸ hownk) ho
    have hSD : ∀ j, E.D μ' st'.bl s.fresh j → s.S w.heap.size S (y.2.1.map (·.bind μ')) j := by
      rintro j ⟨h1, h2⟩
      refine ⟨h1.imp (fun q => hNB j q h2) fun q => ⟨q.1, (hES j).mp q.2⟩, fun c hc => ?_⟩
      obtain ⟨b, hb, e⟩ := inms j c hc
      exact h2 ⟨b, c, e, mineAll b hb⟩
    have hSX : ∀ j, E.X μ' st'.bl y.2.2 s.fresh j → s.S w.heap.size S (y.2.1.map (·.bind μ')) j := by
      rintro j ⟨h1, h2⟩
      have hjk : j ≠ k := by
        rintro rfl
        rcases h2 with h2 | ⟨b2, c2, g2, own, nf, t, l, hb2, e2, hbl2⟩
        · exact h2 hownk
        · exact absurd e2 (rowNot b2 c2 g2 own nf t l hbl2)
      refine ⟨h1.imp (fun q => ((hEN j).mp q).elim id fun e => absurd e hjk) fun q => ⟨q.1, (hES j).mp q.2⟩, fun c hc => ?_⟩
      obtain ⟨b, hb, e⟩ := inms j c hc
      rcases h2 with h2 | ⟨b2, c2, g2, own, nf, t, l, hb2, e2, hbl2⟩
      · exact h2 ⟨b, c, e, mineAll b hb⟩
      · have := hm.apart b b2 j c c2 e e2 (mine_alive (mineAll b hb)) (by unfold alive; rw [hbl2]; trivial)
        subst this
        have := List.all_eq_true.mp hap2.2 b (theRows_mem.mpr hb)
        simp only [Bool.not_eq_true', List.contains_eq_mem, decide_eq_false_iff_not] at this
        exact this hb2
    have inj : ∀ (i j b : Nat), y.2.1[i]? = some (some b) → y.2.1[j]? = some (some b) → i = j := theRows_inj _ hap2.1
    obtain ⟨k1, c1, vals1, ty1, fz1, e1, _, e3, e4, e5⟩ := hm.blocks 0 _ hb0
    rw [hμ'] at e1
    cases e1
    have hvar' : Holds w' (E.X μ' st'.bl [] false) s.ptr y0 vals1.toList := putIn_sound (bs := []) (need := false) hm e5 (fun c hc b g e => absurd e (rowsOf_none hrows c hc b g)) (fun _ _ _ _ _ _ e => by cases e) (by unfold putIn; rw [hy0])
    refine ⟨hR'.defers, packed us, q1, hap w' hm.below, us, y.2.1.map (·.bind μ'), rfl, ⟨fun j c hc => ?_, fun i j n c c' hi hj => ?_⟩, (takeRes_sound hm hSD s.res xs' us y hy q2 hSX).1, new_trees hR'.tree handsAll inj mineAll hm hNB, vals1, ty1, fz1, e3, e4, hvar'.weaken fun j hj _ => ⟨?_, fun c hc => ?_⟩⟩
    · obtain ⟨b, hb, e⟩ := inms j c hc
      obtain ⟨g2, own, nf, t, l, hbl⟩ := arrAll b hb
      rcases hm.blocks b _ hbl with ⟨h1, _⟩ | ⟨k', c', vals, ty, fz, h1, h2, _⟩
      · rw [e] at h1; cases h1
      · rw [e] at h1; cases h1
        exact ((hEN j).mp h2).elim id fun ejk => absurd (ejk ▸ e) (rowNot b c g2 own nf t l hbl)
    · rw [List.getElem?_map] at hi hj
      obtain ⟨b, hb, eb⟩ := Option.map_eq_some_iff.mp hi
      obtain ⟨b', hb', eb'⟩ := Option.map_eq_some_iff.mp hj
      cases b with
      | none => cases eb
      | some b =>
      cases b' with
      | none => cases eb'
      | some b' =>
      have := hm.apart b b' n c c' eb eb' (mine_alive (mineAll b (List.mem_of_getElem? hb))) (mine_alive (mineAll b' (List.mem_of_getElem? hb')))
      subst this
      exact inj i j b hb hb'
    · have h2 : ¬ Own μ' st'.bl j := hj.2.elim id fun ⟨b2, c2, g2, own, nf, t, l, hb2, _⟩ => absurd hb2 (by simp)
      exact hj.1.imp (fun q => hNB j q h2) fun q => (hES j).mp q.2
    · have h2 : ¬ Own μ' st'.bl j := hj.2.elim id fun ⟨b2, c2, g2, own, nf, t, l, hb2, _⟩ => absurd hb2 (by simp)
      obtain ⟨b, hb, e⟩ := inms j c hc
      exact h2 ⟨b, c, e, mineAll b hb⟩
  cases ex with
  | exit i => cases hk
  | normal =>
    obtain ⟨h1, v, h2, h3⟩ := fin hk
    exact ⟨h1, v, h2, h3⟩
  | ret =>
    obtain ⟨h1, v, h2, h3⟩ := fin hk
    exact ⟨h1, v, h2, h3⟩
end

/-! ### out of tables -/
def Tabs.cxp (T : Tabs) (calls : List (Nat × CSpec)) (ptrs : List (Nat × PSpec)) : Cx where
  ty := look T.ty
  cmp := fun t => T.cmp.contains t
  body := look T.body
  call := look calls
  keep := T.keep
  k := T.k
  ptr := look ptrs

def ptrsOk (P : Program) (G : World → Prop) : List (Nat × PSpec) → Prop
  | [] => True
  | (f, s) :: r => s.ok P G f ∧ ptrsOk P G r

theorem ptrsOk_get {P : Program} {G : World → Prop} : ∀ (l : List (Nat × PSpec)), ptrsOk P G l → ∀ f s, (f, s) ∈ l → s.ok P G f
  | [], _, f, s, h => by simp at h
  | (g, gs) :: r, ho, f, s, h => by
    rcases List.mem_cons.mp h with e | h
    · cases e; exact ho.1
    · exact ptrsOk_get r ho.2 f s h

theorem Tabs.goodp {P : Program} {T : Tabs} (h : T.ok P) {G : World → Prop} (hG : Lasts G) {calls : List (Nat × CSpec)} (hc : callsOk P G calls) {ptrs : List (Nat × PSpec)} (hp : ptrsOk P G ptrs) : (T.cxp calls ptrs).good P G := by
  have h0 := T.cx_ok h calls
  exact ⟨⟨h0.ty, h0.cmp, h0.body, h0.mixed⟩, fun f s hs => callsOk_get _ hc f s (look_mem _ _ _ hs), fun f s hs => ptrsOk_get _ hp f s (look_mem _ _ _ hs), hG⟩

theorem fnp_ok {P : Program} {T : Tabs} (h : T.ok P) {G : World → Prop} (hG : Lasts G) {calls : List (Nat × CSpec)} (hc : callsOk P G calls) {ptrs : List (Nat × PSpec)} (hp : ptrsOk P G ptrs) (d : Nat) {f : FuncId} {fn : Func} (hf : look T.body f = some fn) (s : CSpec) (hs : evFn (T.cxp calls ptrs) d fn s.params s.res s.fresh = s.sem) : s.ok P G f :=
  evFn_ok (T.goodp h hG hc hp) d hf s fun x r hr => by rw [hs]; exact hr

theorem ptr_ok {P : Program} {T : Tabs} (h : T.ok P) {G : World → Prop} (hG : Lasts G) {calls : List (Nat × CSpec)} (hc : callsOk P G calls) {ptrs : List (Nat × PSpec)} (hp : ptrsOk P G ptrs) (d : Nat) {f : FuncId} {fn : Func} (hf : look T.body f = some fn) (s : PSpec) (hs : evPtrFn (T.cxp calls ptrs) d fn s.ptr s.params s.res s.fresh = s.sem) : s.ok P G f :=
  evPtrFn_ok (T.goodp h hG hc hp) d hf s fun x xs r hr => by rw [hs]; exact hr
end Go.Proofs.YtigbabjhcihmaaaGreatDoor.Ev

namespace Go.Proofs.YtigbabjhcihmaaaGreatDoor.Pl
open Go Go.RowKit Go.Proofs.YtigbabjhcihmaaaGreatDoor.Ev
set_option linter.unusedVariables false
set_option linter.unusedSimpArgs false

abbrev big : Nat := 1048576
abbrev fuel : Nat := 2097152

/-- how big data is: lengths of texts and of rows, at every depth -/
def cost : (t : Ty) → t.den → Nat
  | .str, s => s.size
  | .slice e, l => l.length + (l.map (cost e)).sum
  | .pair a b, x => cost a x.1 + cost b x.2
  | .struct b, x => cost b x
  | .int _, _ => 0
  | .bool, _ => 0
  | .err, _ => 0

theorem cost_mem {e : Ty} {l : List e.den} {x : e.den} (h : x ∈ l) : cost e x ≤ cost (.slice e) l := by
  show cost e x ≤ l.length + (l.map (cost e)).sum
  have : cost e x ≤ (l.map (cost e)).sum := by
    induction l with
    | nil => cases h
    | cons y l ih =>
      rw [List.map_cons, List.sum_cons]
      rcases List.mem_cons.mp h with rfl | h
      · omega
      · have := ih h; omega
  omega
theorem cost_len {e : Ty} (l : List e.den) : l.length ≤ cost (.slice e) l := Nat.le_add_right _ _

theorem getD_mem {α : Type} {l : List α} {i : Nat} {z : α} (h : i < l.length) : l.getD i z ∈ l := by
  rw [List.getD_eq_getElem?_getD, List.getElem?_eq_getElem h]
  exact List.getElem_mem h
theorem getD_lt {α : Type} {l : List α} {i : Nat} {z : α} (h : i < l.length) : l.getD i z = l[i] := by
  rw [List.getD_eq_getElem?_getD, List.getElem?_eq_getElem h]; rfl

/-- a loop that counts up -/
theorem iter_count {σ ρ : Type} {step : (σ → Option ρ) → σ → Option ρ} (I : Nat → σ → Prop) (R : ρ → Prop) (n : Nat)
    (hstep : ∀ i x rec, I i x → i < n → (∀ y, I (i + 1) y → ∃ r, rec y = some r ∧ R r) → ∃ r, step rec x = some r ∧ R r) (hend : ∀ x rec, I n x → ∃ r, step rec x = some r ∧ R r) :
    ∀ (k i : Nat) (x : σ), I i x → i ≤ n → n - i < k → ∃ r, iter step k x = some r ∧ R r
  | 0, i, x, h, hi, hk => by omega
  | k + 1, i, x, h, hi, hk => by
    by_cases e : i = n
    · subst e; exact hend x _ h
    · exact hstep i x _ h (by omega) fun y hy => iter_count I R n hstep hend k (i + 1) y hy (by omega) (by omega)

/-- the same, for a wanted result -/
theorem iter_to {σ ρ : Type} {step : (σ → Option ρ) → σ → Option ρ} (I : Nat → σ → Prop) (r : ρ) (n : Nat)
    (hstep : ∀ i x rec, I i x → i < n → (∀ y, I (i + 1) y → rec y = some r) → step rec x = some r) (hend : ∀ x rec, I n x → step rec x = some r) (k : Nat) (x : σ) (h : I 0 x) (hk : n < k) :
    iter step k x = some r := by
  obtain ⟨q, h1, h2⟩ := iter_count (ρ := ρ) I (fun q => q = r) n (fun i x rec hI hi hrec => ⟨r, hstep i x rec hI hi fun y hy => by obtain ⟨q, h1, h2⟩ := hrec y hy; rw [h1, h2], rfl⟩) (fun x rec hI => ⟨r, hend x rec hI, rfl⟩) k 0 x h (Nat.zero_le _) (by omega)
  rw [h1, h2]

/-- the same, for a result of any kind (also none) -/
theorem iter_any {σ ρ : Type} {step : (σ → Option ρ) → σ → Option ρ} (I : Nat → σ → Prop) (r : Option ρ) (n : Nat)
    (hstep : ∀ i x rec, I i x → i < n → (∀ y, I (i + 1) y → rec y = r) → step rec x = r) (hend : ∀ x rec, I n x → step rec x = r) :
    ∀ (k i : Nat) (x : σ), I i x → i ≤ n → n - i < k → iter step k x = r
  | 0, i, x, h, hi, hk => by omega
  | k + 1, i, x, h, hi, hk => by
    by_cases e : i = n
    · subst e; exact hend x _ h
    · exact hstep i x _ h (by omega) fun y hy => iter_any I r n hstep hend k (i + 1) y hy (by omega) (by omega)

/-- a loop that asks of each element -/
theorem iter_list {α ρ : Type} {step : (Int × Unit → Option ρ) → Int × Unit → Option ρ} (l : List α) (q : α → Bool) (A B : Option ρ)
    (hs : ∀ (i : Nat) (h : i < l.length) rec, step rec ((i : Int), ()) = bif q l[i] then rec (((i + 1 : Nat) : Int), ()) else A) (he : ∀ rec, step rec ((l.length : Int), ()) = B) (k : Nat) (hk : l.length < k) :
    iter step k ((0 : Int), ()) = bif l.all q then B else A := by
  suffices h : ∀ (k i : Nat), i ≤ l.length → l.length - i < k → iter step k ((i : Int), ()) = bif (l.drop i).all q then B else A from h k 0 (Nat.zero_le _) (by omega)
  intro k
  induction k with
  | zero => intro i hi hk; omega
  | succ k ih =>
    intro i hi hk
    simp only [iter]
    by_cases e : i = l.length
    · subst e; rw [he, List.drop_length]; rfl
    · have hlt : i < l.length := by omega
      rw [hs i hlt, List.drop_eq_getElem_cons hlt, List.all_cons]
      cases q l[i] with
      | false => rfl
      | true => simp only [cond_true, Bool.true_and]; exact ih (i + 1) (by omega) (by omega)

theorem w64 {n : Int} (h0 : -9223372036854775808 ≤ n) (h : n < 9223372036854775808) : wrap64 n = n := by unfold wrap64; omega

theorem dT {p : Prop} [Decidable p] (h : p) : decide p = true := decide_eq_true h
theorem dF {p : Prop} [Decidable p] (h : ¬ p) : decide p = false := decide_eq_false h

/-! ### how big -/
def szOk (t : Ty) (F : Nat → t.den → Int → Option Int) : Prop :=
  ∀ k x (left : Int), fuel < k → t.Ok x → 0 ≤ left → left ≤ big → F k x left = some (if (cost t x : Int) ≤ left then left - cost t x else -1)

theorem sum_take_le (l : List Nat) (i : Nat) : (l.take i).sum ≤ l.sum := by
  have h := List.take_append_drop i l
  have : l.sum = (l.take i).sum + (l.drop i).sum := by rw [← List.sum_append_nat, h]
  omega

theorem sum_take_succ (l : List Nat) (i : Nat) (h : i < l.length) : (l.take (i + 1)).sum = (l.take i).sum + l[i] := by
  rw [List.take_add_one, List.getElem?_eq_getElem h, Option.toList_some, List.sum_append_nat]; simp

theorem sz_list {e : Ty} {z : e.den} {G : Nat → e.den → Int → Option Int} (hG : szOk e G) : szOk (.slice e) fun k a0 a1 =>
    (bif (decide ((wrap64 (a1 - (a0.length : Int))) < (0 : Int))) then some (-1 : Int) else (iter (σ := Int × Int × Unit) (fun rec5 x4 => (bif (decide (x4.2.1 < (a0.length : Int))) then (bif (decide (0 ≤ x4.2.1 ∧ x4.2.1 < (a0.length : Int))) then ((G k (a0.getD x4.2.1.toNat z) x4.1).bind fun r6 => (bif (decide (r6 < (0 : Int))) then some (-1 : Int) else (rec5 (r6, (wrap64 (x4.2.1 + (1 : Int))), ())))) else none) else some x4.1)) k ((wrap64 (a1 - (a0.length : Int))), (0 : Int), ()))) := by
  intro k l left hk hok h0 hl
  have hlen : l.length ≤ 9223372036854775807 := hok.1
  have hb : left ≤ 1048576 := hl
  have hk' : 2097152 < k := hk
  have hc : cost (.slice e) l = l.length + (l.map (cost e)).sum := rfl
  show cond _ _ _ = _
  rw [hc, w64 (n := left - (l.length : Int)) (by omega) (by omega)]
  by_cases h : left - (l.length : Int) < 0
  · rw [dT h, if_neg (by omega)]; rfl
  · rw [dF h]
    simp only [cond_false]
    refine iter_to (fun i x => x.2.1 = (i : Int) ∧ x.1 = left - l.length - (((l.map (cost e)).take i).sum : Nat) ∧ 0 ≤ x.1) _ l.length ?_ ?_ k _ ⟨rfl, by simp, by show (0 : Int) ≤ left - l.length; omega⟩ (by omega)
    · rintro i ⟨xl, xi, _⟩ rec ⟨h1, h2, h3⟩ hi hrec
      simp only at h1 h2 h3
      subst h1
      have e1 : decide ((i : Int) < (l.length : Int)) = true := dT (by omega)
      have e2 : decide (0 ≤ (i : Int) ∧ (i : Int) < (l.length : Int)) = true := dT (by omega)
      simp only [e1, e2, cond_true, Int.toNat_natCast]
      rw [hG k _ xl hk (hok.2 _ (getD_mem hi)) h3 (by omega), getD_lt hi]
      have hs := sum_take_succ (l.map (cost e)) i (by simpa using hi)
      rw [List.getElem_map] at hs
      have ht := sum_take_le (l.map (cost e)) (i + 1)
      simp only [Option.bind_some]
      by_cases hle : (cost e l[i] : Int) ≤ xl
      · rw [if_pos hle, dF (by omega)]
        simp only [cond_false]
        rw [w64 (n := (i : Int) + 1) (by omega) (by omega)]
        exact hrec _ ⟨by simp, by simp only; omega, by simp only; omega⟩
      · rw [if_neg hle, dT (by omega), if_neg (by omega)]; rfl
    · rintro ⟨xl, xi, _⟩ rec ⟨h1, h2, h3⟩
      simp only at h1 h2 h3
      subst h1
      have e1 : decide ((l.length : Int) < (l.length : Int)) = false := dF (by omega)
      have ht : (l.map (cost e)).take l.length = l.map (cost e) := List.take_of_length_le (by simp)
      rw [ht] at h2
      simp only [e1, cond_false]
      rw [if_pos (by omega), h2]
      congr 1; omega

theorem sz_strs {z : ByteArray} : szOk (.slice .str) fun k a0 a1 =>
    (bif (decide ((wrap64 (a1 - (a0.length : Int))) < (0 : Int))) then some (-1 : Int) else (iter (σ := Int × Int × Unit) (fun rec5 x4 => (bif (decide (x4.2.1 < (a0.length : Int))) then (bif (decide (0 ≤ x4.2.1 ∧ x4.2.1 < (a0.length : Int))) then (bif (decide ((wrap64 (x4.1 - ((a0.getD x4.2.1.toNat z).size : Int))) < (0 : Int))) then some (-1 : Int) else (rec5 ((wrap64 (x4.1 - ((a0.getD x4.2.1.toNat z).size : Int))), (wrap64 (x4.2.1 + (1 : Int))), ()))) else none) else some x4.1)) k ((wrap64 (a1 - (a0.length : Int))), (0 : Int), ()))) := by
  intro k l left hk hok h0 hl
  have hlen : l.length ≤ 9223372036854775807 := hok.1
  have hb : left ≤ 1048576 := hl
  have hk' : 2097152 < k := hk
  have hc : cost (.slice .str) l = l.length + (l.map (cost .str)).sum := rfl
  show cond _ _ _ = _
  rw [hc, w64 (n := left - (l.length : Int)) (by omega) (by omega)]
  by_cases h : left - (l.length : Int) < 0
  · rw [dT h, if_neg (by omega)]; rfl
  · rw [dF h]
    simp only [cond_false]
    refine iter_to (fun i x => x.2.1 = (i : Int) ∧ x.1 = left - l.length - (((l.map (cost .str)).take i).sum : Nat) ∧ 0 ≤ x.1) _ l.length ?_ ?_ k _ ⟨rfl, by simp, by show (0 : Int) ≤ left - l.length; omega⟩ (by omega)
    · rintro i ⟨xl, xi, _⟩ rec ⟨h1, h2, h3⟩ hi hrec
      simp only at h1 h2 h3
      subst h1
      have e1 : decide ((i : Int) < (l.length : Int)) = true := dT (by omega)
      have e2 : decide (0 ≤ (i : Int) ∧ (i : Int) < (l.length : Int)) = true := dT (by omega)
      have hs := sum_take_succ (l.map (cost .str)) i (by simpa using hi)
      rw [List.getElem_map] at hs
      have ht := sum_take_le (l.map (cost .str)) (i + 1)
      have hsz : (l.getD i z).size ≤ 9223372036854775807 := hok.2 _ (getD_mem hi)
      have hco : cost .str l[i] = (l.getD i z).size := by rw [getD_lt hi]; rfl
      simp only [e1, e2, cond_true, Int.toNat_natCast]
      have hw : wrap64 (xl - ((l.getD i z).size : Int)) = xl - ((l.getD i z).size : Int) := w64 (by omega) (by omega)
      by_cases hle : ((l.getD i z).size : Int) ≤ xl
      · have hd : decide (wrap64 (xl - ((l.getD i z).size : Int)) < 0) = false := dF (by rw [hw]; omega)
        rw [hd, cond_false, hw, w64 (n := (i : Int) + 1) (by omega) (by omega)]
        exact hrec _ ⟨by simp, by simp only; omega, by simp only; omega⟩
      · have hd : decide (wrap64 (xl - ((l.getD i z).size : Int)) < 0) = true := dT (by rw [hw]; omega)
        rw [hd, if_neg (by omega)]; rfl
    · rintro ⟨xl, xi, _⟩ rec ⟨h1, h2, h3⟩
      simp only at h1 h2 h3
      subst h1
      have e1 : decide ((l.length : Int) < (l.length : Int)) = false := dF (by omega)
      have ht : (l.map (cost .str)).take l.length = l.map (cost .str) := List.take_of_length_le (by simp)
      rw [ht] at h2
      simp only [e1, cond_false]
      rw [if_pos (by omega), h2]
      congr 1; omega

/-- a text's part of a struct -/
theorem sz_str {n : Nat} {L C : Int} {K : Option Int} (hn : n ≤ maxLen) (h0 : 0 ≤ L) (hl : L ≤ big) (hC : 0 ≤ C)
    (rest : ∀ L' : Int, wrap64 (L - (n : Int)) = L' → 0 ≤ L' → L' ≤ big → K = some (if C ≤ L' then L' - C else -1)) :
    (bif decide (wrap64 (L - (n : Int)) < 0) then some (-1) else K) = some (if (n : Int) + C ≤ L then L - (n + C) else -1) := by
  have hb : L ≤ 1048576 := hl
  have hn' : n ≤ 9223372036854775807 := hn
  have hw : wrap64 (L - (n : Int)) = L - n := w64 (by omega) (by omega)
  by_cases h : L - (n : Int) < 0
  · rw [hw, dT h, if_neg (by omega)]; rfl
  · rw [rest (L - n) hw (by omega) (by show L - (n : Int) ≤ 1048576; omega), hw, dF h, cond_false]
    by_cases h2 : C ≤ L - n
    · rw [if_pos h2, if_pos (by omega)]; congr 1; omega
    · rw [if_neg h2, if_neg (by omega)]

/-- another one's part -/
theorem sz_call {n : Nat} {L C : Int} {G : Option Int} {K : Int → Option Int} (hG : G = some (if (n : Int) ≤ L then L - n else -1)) (h0 : 0 ≤ L) (hl : L ≤ big) (hC : 0 ≤ C)
    (rest : ∀ L' : Int, 0 ≤ L' → L' ≤ big → K L' = some (if C ≤ L' then L' - C else -1)) :
    (G.bind fun r => bif decide (r < 0) then some (-1) else K r) = some (if (n : Int) + C ≤ L then L - (n + C) else -1) := by
  have hb : L ≤ 1048576 := hl
  rw [hG]
  simp only [Option.bind_some]
  by_cases h : (n : Int) ≤ L
  · rw [if_pos h, dF (show ¬ (L - (n : Int)) < 0 by omega), cond_false, rest (L - n) (by omega) (by show L - (n : Int) ≤ 1048576; omega)]
    by_cases h2 : C ≤ L - n
    · rw [if_pos h2, if_pos (by omega)]; congr 1; omega
    · rw [if_neg h2, if_neg (by omega)]
  · rw [if_neg h, dT (show (-1 : Int) < 0 by omega), if_neg (by omega)]; rfl

theorem sz_end {L : Int} (h0 : 0 ≤ L) : some L = some (if (0 : Int) ≤ L then L - 0 else -1) := by rw [if_pos h0]; congr 1; omega

/-! ### copies -/
def toOk (t : Ty) (F : Nat → t.den → Option t.den) : Prop := ∀ k x, fuel < k → cost t x ≤ big → F k x = some x

theorem to_list {e : Ty} {z : e.den} {G : Nat → e.den → Option e.den} (hG : toOk e G) : toOk (.slice e) fun k a0 =>
    (bif (decide (0 ≤ (a0.length : Int) ∧ (a0.length : Int) = (a0.length : Int) ∧ (a0.length : Int) < (most : Int))) then (iter (σ := Int × List e.den × Unit) (fun rec5 x4 => (bif (decide (x4.1 < (a0.length : Int))) then (bif (decide (0 ≤ x4.1 ∧ x4.1 < (a0.length : Int))) then ((G k (a0.getD x4.1.toNat z)).bind fun r6 => (bif (decide (0 ≤ x4.1 ∧ x4.1 < (x4.2.1.length : Int))) then (rec5 ((wrap64 (x4.1 + (1 : Int))), (x4.2.1.set x4.1.toNat r6), ())) else none)) else none) else some x4.2.1)) k ((0 : Int), (List.replicate (a0.length : Int).toNat z), ())) else none) := by
  intro k l hk hl
  have hlen : l.length ≤ 1048576 := Nat.le_trans (cost_len l) hl
  show cond _ _ _ = _
  have hk' : 2097152 < k := hk
  rw [dT (show 0 ≤ (l.length : Int) ∧ (l.length : Int) = (l.length : Int) ∧ (l.length : Int) < (most : Int) by unfold most; omega)]
  simp only [cond_true]
  refine iter_to (fun i x => x.1 = (i : Int) ∧ x.2.1.length = l.length ∧ ∀ j, j < i → x.2.1[j]? = l[j]?) _ l.length ?_ ?_ k _ ⟨rfl, by simp, fun j hj => by omega⟩ (by omega)
  · rintro i ⟨xi, xr, _⟩ rec ⟨h1, h2, h3⟩ hi hrec
    simp only at h1 h2 h3
    subst h1
    have e1 : decide ((i : Int) < (l.length : Int)) = true := dT (by omega)
    have e2 : decide (0 ≤ (i : Int) ∧ (i : Int) < (l.length : Int)) = true := dT (by omega)
    have e3 : decide (0 ≤ (i : Int) ∧ (i : Int) < (xr.length : Int)) = true := dT (by omega)
    simp only [e1, e2, cond_true, e3, Int.toNat_natCast]
    rw [hG k _ hk (Nat.le_trans (cost_mem (getD_mem hi)) hl), Option.bind_some, w64 (n := (i : Int) + 1) (by omega) (by omega)]
    refine hrec _ ⟨by simp, by simpa using h2, fun j hj => ?_⟩
    simp only
    rw [List.getElem?_set]
    by_cases e : i = j
    · subst e
      rw [if_pos rfl, if_pos (by omega), getD_lt hi, List.getElem?_eq_getElem hi]
    · rw [if_neg e]
      exact h3 j (by omega)
  · rintro ⟨xi, xr, _⟩ rec ⟨h1, h2, h3⟩
    simp only at h1 h2 h3
    subst h1
    rw [dF (show ¬ (l.length : Int) < (l.length : Int) by omega)]
    simp only [cond_false]
    congr 1
    apply List.ext_getElem?
    intro j
    rcases Nat.lt_or_ge j l.length with q | q
    · exact h3 j q
    · rw [List.getElem?_eq_none (by omega), List.getElem?_eq_none (by omega)]

theorem to_list0 {e : Ty} {z : e.den} : toOk (.slice e) fun k a0 =>
    (bif (decide (0 ≤ (a0.length : Int) ∧ (a0.length : Int) = (a0.length : Int) ∧ (a0.length : Int) < (most : Int))) then (iter (σ := Int × List e.den × Unit) (fun rec5 x4 => (bif (decide (x4.1 < (a0.length : Int))) then (bif (decide (0 ≤ x4.1 ∧ x4.1 < (a0.length : Int))) then (bif (decide (0 ≤ x4.1 ∧ x4.1 < (x4.2.1.length : Int))) then (rec5 ((wrap64 (x4.1 + (1 : Int))), (x4.2.1.set x4.1.toNat (a0.getD x4.1.toNat z)), ())) else none) else none) else some x4.2.1)) k ((0 : Int), (List.replicate (a0.length : Int).toNat z), ())) else none) :=
  to_list (G := fun _ x => some x) fun _ _ _ _ => rfl

/-! ### comparisons -/
def eqOk (t : Ty) (F : Nat → t.den → t.den → Option Bool) : Prop := ∀ k x, fuel < k → cost t x ≤ big → F k x x = some true

theorem eq_list {e : Ty} {z : e.den} {G : Nat → e.den → e.den → Option Bool} (hG : eqOk e G) : eqOk (.slice e) fun k a0 a1 =>
    (bif (!decide ((a0.length : Int) = (a1.length : Int))) then some false else (iter (σ := Int × Unit) (fun rec5 x4 => (bif (decide (x4.1 < (a0.length : Int))) then (bif (decide (0 ≤ x4.1 ∧ x4.1 < (a0.length : Int))) then (bif (decide (0 ≤ x4.1 ∧ x4.1 < (a1.length : Int))) then ((G k (a0.getD x4.1.toNat z) (a1.getD x4.1.toNat z)).bind fun r6 => (bif (!r6) then some false else (rec5 ((wrap64 (x4.1 + (1 : Int))), ())))) else none) else none) else some true)) k ((0 : Int), ()))) := by
  intro k l hk hl
  have hlen : l.length ≤ 1048576 := Nat.le_trans (cost_len l) hl
  show cond _ _ _ = _
  have hk' : 2097152 < k := hk
  rw [dT (show (l.length : Int) = (l.length : Int) from rfl)]
  simp only [Bool.not_true, cond_false]
  refine iter_to (fun i x => x.1 = (i : Int)) _ l.length ?_ ?_ k _ rfl (by omega)
  · rintro i ⟨xi, _⟩ rec h1 hi hrec
    simp only at h1
    subst h1
    have e1 : decide ((i : Int) < (l.length : Int)) = true := dT (by omega)
    have e2 : decide (0 ≤ (i : Int) ∧ (i : Int) < (l.length : Int)) = true := dT (by omega)
    simp only [e1, e2, cond_true, Int.toNat_natCast]
    rw [hG k _ hk (Nat.le_trans (cost_mem (getD_mem hi)) hl)]
    simp only [Option.bind_some, Bool.not_true, cond_false]
    rw [w64 (n := (i : Int) + 1) (by omega) (by omega)]
    exact hrec _ (by simp)
  · rintro ⟨xi, _⟩ rec h1
    simp only at h1
    subst h1
    rw [dF (show ¬ (l.length : Int) < (l.length : Int) by omega)]
    rfl

theorem eq_strs {z : ByteArray} : eqOk (.slice .str) fun k a0 a1 =>
    (bif (!decide ((a0.length : Int) = (a1.length : Int))) then some false else (iter (σ := Int × Unit) (fun rec5 x4 => (bif (decide (x4.1 < (a0.length : Int))) then (bif (decide (0 ≤ x4.1 ∧ x4.1 < (a0.length : Int))) then (bif (decide (0 ≤ x4.1 ∧ x4.1 < (a1.length : Int))) then (bif (!decide (a0.getD x4.1.toNat z = a1.getD x4.1.toNat z)) then some false else (rec5 ((wrap64 (x4.1 + (1 : Int))), ()))) else none) else none) else some true)) k ((0 : Int), ()))) :=
  eq_list (e := .str) (z := z) (G := fun _ a b => some (decide (a = b))) fun _ _ _ _ => by simp

/-- a comparison inside another -/
theorem eq_call {G : Option Bool} {K : Option Bool} (h : G = some true) : (G.bind fun r => bif (!r) then some false else K) = K := by rw [h]; rfl

/-! ### a law's first lines -/
theorem law_sz {n : Nat} {L : Int} {G : Option Int} {K : Int → Option Bool} (hG : G = some (if (n : Int) ≤ L then L - n else -1)) (h0 : 0 ≤ L) (hl : L ≤ big)
    (rest : ∀ L' : Int, 0 ≤ L' → L' ≤ big → n ≤ big → K L' = some true) : (G.bind fun r => bif decide (r < 0) then some true else K r) = some true := by
  have hb : L ≤ 1048576 := hl
  rw [hG]
  simp only [Option.bind_some]
  by_cases h : (n : Int) ≤ L
  · rw [if_pos h, dF (show ¬ (L - (n : Int)) < 0 by omega), cond_false]
    exact rest _ (by omega) (by show L - (n : Int) ≤ 1048576; omega) (by show n ≤ 1048576; omega)
  · rw [if_neg h, dT (show (-1 : Int) < 0 by omega)]; rfl

theorem law_str {n : Nat} {L : Int} {K : Option Bool} (hn : n ≤ maxLen) (h0 : 0 ≤ L) (hl : L ≤ big)
    (rest : ∀ L' : Int, wrap64 (L - (n : Int)) = L' → 0 ≤ L' → L' ≤ big → n ≤ big → K = some true) : (bif decide (wrap64 (L - (n : Int)) < 0) then some true else K) = some true := by
  have hb : L ≤ 1048576 := hl
  have hn' : n ≤ 9223372036854775807 := hn
  have hw : wrap64 (L - (n : Int)) = L - n := w64 (by omega) (by omega)
  by_cases h : L - (n : Int) < 0
  · rw [hw, dT h]; rfl
  · rw [rest (L - n) hw (by omega) (by show L - (n : Int) ≤ 1048576; omega) (by show n ≤ 1048576; omega)]; cases decide (wrap64 (L - (n : Int)) < 0) <;> rfl
end Go.Proofs.YtigbabjhcihmaaaGreatDoor.Pl

set_option linter.unusedVariables false
set_option linter.unusedSimpArgs false
namespace Go.Proofs.YtigbabjhcihmaaaGreatDoor.Ev
open Go Go.RowKit Go.Proofs

/-- copy into cells of an own row: n elements, of which the source's cells are news -/
theorem run_copy {P : Program} {w : World} {dT sT ty : TypeId} {elem : TypeId} {e : Ty} {k o dLen dCap sLen sCap n : Nat} {a : Addr} {vals : Array Value} {vty : TypeId} {fz : Nat × Nat} {news : List Value}
    (hu : P.underlying dT = some (.slice elem)) (hte : TyOf P elem e) (hn : Nat.min sLen dLen = n) (hk : w.heap[k]? = some (.cells vals vty fz)) (hfz : unfrozen vals fz)
    (hlen : news.length = n * e.size) (hsrc : ∀ j u, news[j]? = some u → w.cell? (a.add j) = some u) (hone : ∀ u ∈ news, u.oneCell' = true) (hfit : o + news.length ≤ vals.size) :
    (Builtin.copy_ #[dT, sT] ty #[.slice (some ⟨k, o, none⟩) dLen dCap, .slice (some a) sLen sCap]).run P w = .ok (goInt n) (rowSet w k (writeAt vals.toList o news) vty fz) := by
  have hf := run_firstCells_some (P := P) w e.size n a sLen sCap news hlen hsrc
  have hst := run_storeCells (P := P) (off := o) news 0 w vals hk hfz hone (by omega)
  rw [Nat.add_zero] at hst
  have hsz := run_sizeOf (w := w) hte
  simp [Builtin.copy_, run_underlying hu, Builtin.lenOf, hsz, hn, hf, hst]
end Go.Proofs.YtigbabjhcihmaaaGreatDoor.Ev

set_option linter.unusedVariables false
set_option linter.unusedSimpArgs false
namespace Go.Proofs.YtigbabjhcihmaaaGreatDoor.Ev
open Go Go.RowKit Go.Proofs

theorem det_any {P : Program} {ops : Array Oper} (back : ∀ (i : Nat) (o : Oper), ops.toList[i]? = some o → ∀ e ∈ edges o, e < i) (plain : ∀ (i : Nat) (o : Oper), ops.toList[i]? = some o → o.guard = none)
    (Inv : (Nat → Bool) → Act → World → Prop)
    (step : ∀ (L : Nat → Bool) (a : Act) (w : World) (i : Nat) (o : Oper), Inv L a w → ops.toList[i]? = some o → L i = false → (∀ j ∈ edges o, L j = true) → ∃ v w', (execOp a.eval o).run P w = .ok (.value v) w' ∧ Inv (fun j => L j || j == i) (a.put o.dst v) w')
    {Q : Exit → Act → World → Prop} (done : ∀ (L : Nat → Bool) (a : Act) (w : World), (∀ j, j < ops.size → L j = true) → Inv L a w → Q .normal a w) :
    ∀ (fuel : Nat) (listed : Array Bool) (a : Act) (w : World), listed.size = ops.size → (unlisted ops.size listed).length ≤ fuel → Inv (fun j => listed.getD j false) a w → wpAny P .any ops Q fuel listed a w := by
  have all : ∀ (listed : Array Bool), listed.size = ops.size → Region.ready .any ops listed = [] → ∀ j, j < ops.size → listed.getD j false = true := by
    intro listed hn hr j
    induction j using Nat.strongRecOn with
    | _ j ih =>
      intro hj
      cases hl : listed.getD j false with
      | true => rfl
      | false =>
        exfalso
        have hoj : ops.toList[j]? = some ops[j] := by rw [Array.getElem?_toList]; exact Array.getElem?_eq_getElem hj
        have : j ∈ Region.ready .any ops listed := (ready_iff hn).mpr ⟨_, hoj, hl, fun e he => ih e (back j _ hoj e he) (by have := back j _ hoj e he; omega)⟩
        rw [hr] at this
        cases this
  intro fuel
  induction fuel with
  | zero =>
    intro listed a w hn hc hi
    have hnil : unlisted ops.size listed = [] := List.eq_nil_of_length_eq_zero (by omega)
    have hall : ∀ j, j < ops.size → listed.getD j false = true := by
      intro j hj
      unfold unlisted at hnil
      rw [List.filter_eq_nil_iff] at hnil
      have := hnil j (by simpa using hj)
      rw [getD_true (by omega)] at this
      simpa using this
    refine ⟨?_, done _ a w hall hi⟩
    cases hr : Region.ready .any ops listed with
    | nil => rfl
    | cons i r =>
      have : i ∈ Region.ready .any ops listed := by rw [hr]; exact List.mem_cons_self ..
      obtain ⟨o, ho, hl, _⟩ := (ready_iff hn).mp this
      have hin : i < ops.size := by have := lt_get ho; simpa using this
      rw [hall i hin] at hl
      cases hl
  | succ fuel ih =>
    intro listed a w hn hc hi
    refine ⟨fun hr => done _ a w (all listed hn hr) hi, fun i hir => ?_⟩
    obtain ⟨o, ho, hl, hdep⟩ := (ready_iff hn).mp hir
    have hin : i < ops.size := by have := lt_get ho; simpa using this
    have ho' : ops[i]? = some o := by rw [← Array.getElem?_toList]; exact ho
    obtain ⟨v, w', hrun, hi'⟩ := step _ a w i o hi ho hl hdep
    have hw : Region.wanted o (yielded ops a.tmps) = true := by unfold Region.wanted; rw [plain i o ho]
    unfold wpOp
    simp only [ho']
    rw [if_pos hw]
    refine Or.inl ?_
    unfold Oper.wp
    rw [hrun]
    refine ih (listed.setIfInBounds i true) _ w' (by simpa using hn) ?_ ?_
    · have := unlisted_less hn hin (by rw [getD_true (by omega)]; exact hl)
      omega
    · have e : (fun j => (listed.setIfInBounds i true).getD j false) = fun j => listed.getD j false || j == i := by
        funext j
        exact getD_set hn hin j
      rw [e]
      exact hi'

theorem det_region {P : Program} (hm : P.follows .mixedOrders = true) {id : Nat} {ops : Array Oper} (back : ∀ (i : Nat) (o : Oper), ops.toList[i]? = some o → ∀ e ∈ edges o, e < i) (plain : ∀ (i : Nat) (o : Oper), ops.toList[i]? = some o → o.guard = none)
    (Inv : (Nat → Bool) → Act → World → Prop)
    (step : ∀ (L : Nat → Bool) (a : Act) (w : World) (i : Nat) (o : Oper), Inv L a w → ops.toList[i]? = some o → L i = false → (∀ j ∈ edges o, L j = true) → ∃ v w', (execOp a.eval o).run P w = .ok (.value v) w' ∧ Inv (fun j => L j || j == i) (a.put o.dst v) w')
    {Q : Exit → Act → World → Prop} (done : ∀ (L : Nat → Bool) (a : Act) (w : World), (∀ j, j < ops.size → L j = true) → Inv L a w → Q .normal a w)
    {a : Act} {w : World} (start : Inv (fun _ => false) a { w with drawn := w.drawn + 1 }) : (Code.region id ops true).wp P Q a w := by
  refine wp_region_any hm (det_any back plain Inv step done _ _ a _ (by simp) ?_ ?_)
  · unfold unlisted
    exact Nat.le_trans (List.length_filter_le _ _) (by simp)
  · have e : (fun j => (Array.replicate ops.size false).getD j false) = fun _ => false := by
      funext j
      rw [Array.getD_eq_getD_getElem?, Array.getElem?_replicate]
      split <;> rfl
    rw [e]
    exact start
end Go.Proofs.YtigbabjhcihmaaaGreatDoor.Ev

set_option linter.unusedVariables false
set_option linter.unusedSimpArgs false
set_option maxRecDepth 100000
namespace Go.Proofs.YtigbabjhcihmaaaGreatDoor.Ev
open Go Go.RowKit Go.Proofs

abbrev tv (a : Act) (t : Nat) : Value := a.tmps.getD t undef

theorem tv_same {a : Act} {d : Nat} {v : Value} (h : d < a.tmps.size) : tv (a.put (some d) v) d = v := by
  show (a.tmps.setIfInBounds d v).getD d undef = v
  rw [Array.getD_eq_getD_getElem?, Array.getElem?_setIfInBounds_self, if_pos h]; rfl
theorem tv_other {a : Act} {d t : Nat} {v : Value} (h : d ≠ t) : tv (a.put (some d) v) t = tv a t := by
  show (a.tmps.setIfInBounds d v).getD t undef = a.tmps.getD t undef
  rw [Array.getD_eq_getD_getElem?, Array.getD_eq_getD_getElem?, Array.getElem?_setIfInBounds_ne h]
theorem tput_size (a : Act) (d : Nat) (v : Value) : (a.put (some d) v).tmps.size = a.tmps.size := by
  show (a.tmps.setIfInBounds d v).size = _
  simp

theorem seq_step {P : Program} {ops : Array Oper} {Q : Exit → Act → World → Prop} {i d : Nat} {tl : List Nat} {a : Act} {w w' : World} {o : Oper} {v : Value} (ho : ops.toList[i]? = some o) (hg : o.guard = none) (hd : o.dst = some d)
    (hrun : (execOp a.eval o).run P w = .ok (.value v) w') (h : wpOps P ops Q tl (a.put (some d) v) w') : wpOps P ops Q (i :: tl) a w := by
  have ho' : ops[i]? = some o := by rw [← Array.getElem?_toList]; exact ho
  have hw : Region.wanted o (yielded ops a.tmps) = true := by unfold Region.wanted; rw [hg]
  unfold wpOps
  simp only [ho']
  rw [if_pos hw]
  refine Or.inl ?_
  unfold Oper.wp
  rw [hrun]
  show wpOps P ops Q tl (a.put o.dst v) w'
  rw [hd]; exact h

/-- what an operation is, without its ties -/
def opOf (o : Oper) : Option Tmp × Op × Option (Nat × Bool) := (o.dst, o.op, o.guard)

theorem op_get {ops : Array Oper} {l : List (Option Tmp × Op × Option (Nat × Bool))} (h : ops.toList.map opOf = l) {i : Nat} {d : Option Tmp} {p : Op} {g : Option (Nat × Bool)} (hi : l[i]? = some (d, p, g)) : ∃ o, ops.toList[i]? = some o ∧ o.dst = d ∧ o.op = p ∧ o.guard = g := by
  rw [← h, List.getElem?_map] at hi
  obtain ⟨o, h1, h2⟩ := Option.map_eq_some_iff.mp hi
  unfold opOf at h2
  simp only [Prod.mk.injEq] at h2
  exact ⟨o, h1, h2.1, h2.2.1, h2.2.2⟩

def len_of (tS : TypeId) (t : Tmp) : Op := .call (.mk (.builtin .len) #[.tmp t] #[tS])
def copy_of (tS : TypeId) (t u : Tmp) : Op := .call (.mk (.builtin .copy) #[.tmp t, .tmp u] #[tS, tS])

def rep7 (tS : TypeId) : List (Option Tmp × Op × Option (Nat × Bool)) := [(some 31, .move (.tmp 7), none), (some 32, .move (.tmp 0), none), (some 33, copy_of tS 31 32, none), (some 8, .assign (.tmp 33), none)]
def rep8 (tS tI : TypeId) : List (Option Tmp × Op × Option (Nat × Bool)) := [(some 34, .move (.tmp 8), none), (some 35, .move (.tmp 7), none), (some 36, len_of tS 35, none), (some 37, .binOp .lss tI (.tmp 34) (.tmp 36) tI, none)]
def rep9 (tS tI : TypeId) : List (Option Tmp × Op × Option (Nat × Bool)) := [(some 38, .move (.tmp 8), none), (some 39, .move (.tmp 7), none), (some 40, .move (.tmp 8), none), (some 41, .slice tS (.tmp 39) (some (.tmp 40)) none none, none), (some 42, .move (.tmp 7), none), (some 43, .move (.tmp 8), none),
  (some 44, .slice tS (.tmp 42) none (some (.tmp 43)) none, none), (some 45, copy_of tS 41 44, none), (some 46, .binOp .add tI (.tmp 38) (.tmp 45) tI, none), (some 8, .assign (.tmp 46), none)]
def rep10 : List (Option Tmp × Op × Option (Nat × Bool)) := [(some 47, .move (.tmp 7), none), (some 4, .assign (.tmp 47), none)]
def rep9e : List (List Nat) := [[], [], [], [1, 2], [], [], [4, 5], [3, 6], [0, 7], [8, 7, 0, 1, 2, 3, 4, 5, 6, 7, 8]]

/-- the row's cells: the first m elements are copies of cs -/
structure RepAt (w : World) (k : Nat) (vty : TypeId) (fz : Nat × Nat) (size sz m : Nat) (cs : List Value) (w' : World) (V : Array Value) : Prop where
  os : w'.os = w.os
  tape : w'.tape = w.tape
  output : w'.output = w.output
  hsz : w'.heap.size = w.heap.size
  other : ∀ j, j ≠ k → w'.heap[j]? = w.heap[j]?
  row : w'.heap[k]? = some (.cells V vty fz)
  len : V.size = size
  cells : ∀ j, j < m * sz → V.toList[j]? = cs[j % sz]?

theorem RepAt.write {w : World} {k : Nat} {vty : TypeId} {fz : Nat × Nat} {size sz m c : Nat} {cs : List Value} {w' : World} {V : Array Value} (h : RepAt w k vty fz size sz m cs w' V) (hk : k < w.heap.size) {news : List Value} (hn : news.length = c * sz) (hc : ∀ j, j < c * sz → news[j]? = cs[j % sz]?)
    (hfit : m * sz + news.length ≤ size) : RepAt w k vty fz size sz (m + c) cs (rowSet w' k (writeAt V.toList (m * sz) news) vty fz) (writeAt V.toList (m * sz) news).toArray := by
  have hl : V.toList.length = size := by rw [Array.length_toList, h.len]
  refine ⟨h.os, h.tape, h.output, by rw [rowSet_size, h.hsz], fun j hj => by rw [rowSet_other hj, h.other j hj], rowSet_same (by rw [h.hsz]; exact hk), by simp [writeAt_length, h.len], fun j hj => ?_⟩
  simp only [List.toList_toArray]
  rw [Nat.add_mul] at hj
  by_cases q : j < m * sz
  · rw [writeAt_get_out _ _ _ _ (Or.inl q)]; exact h.cells j q
  · obtain ⟨d, rfl⟩ : ∃ d, j = m * sz + d := ⟨j - m * sz, by omega⟩
    rw [writeAt_get_in _ _ _ _ (by omega) (by omega), hc d (by omega)]
    congr 1
    rw [Nat.add_comm, Nat.add_mul_mod_self_right]

theorem RepAt.drawn {w : World} {k : Nat} {vty : TypeId} {fz : Nat × Nat} {size sz m : Nat} {cs : List Value} {w' : World} {V : Array Value} (h : RepAt w k vty fz size sz m cs w' V) (d : Nat) : RepAt w k vty fz size sz m cs { w' with drawn := d } V :=
  ⟨h.os, h.tape, h.output, h.hsz, h.other, h.row, h.len, h.cells⟩

section
variable {P : Program} {cx : Cx} {tS tI elem : TypeId} {e : Ty} {w : World} {k n cap : Nat} {vty : TypeId} {fz : Nat × Nat} {cs : List Value} {size : Nat}

theorem run_move {o : Oper} {a : Act} {w : World} {x : Operand} (h : o.op = .move x ∨ o.op = .assign x) : (execOp a.eval o).run P w = .ok (.value (a.eval x)) w := by
  unfold execOp
  rcases h with h | h <;> simp only [h] <;> rfl

theorem run_len {o : Oper} {a : Act} {w : World} {t : Tmp} (h : o.op = len_of tS t) (hu : P.underlying tS = some (.slice elem)) {ad : Option Addr} {n c : Nat} (hv : tv a t = .slice ad n c) : (execOp a.eval o).run P w = .ok (.value (.int .i64 n)) w := by
  have hv' : a.eval (.tmp t) = .slice ad n c := hv
  unfold execOp
  simp only [h, len_of]
  simp [resolve, invoke, builtin, Builtin.len_, run_underlying hu, hv', goInt]

theorem run_bin {o : Oper} {a : Act} {w : World} {op : BinOp} {t t' : TypeId} {x y : Operand} (h : o.op = .binOp op t x y t') {k : IntKind} {m n : Int} (hx : a.eval x = .int k m) (hy : a.eval y = .int k n) {v : Value} (hv : (binOp op t (.int k m) (.int k n)).run P w = .ok v w) : (execOp a.eval o).run P w = .ok (.value v) w := by
  unfold execOp
  simp only [h]
  refine runsTo_of ?_
  rw [hx, hy]
  refine run_then (x := ()) ?_ hv
  unfold eqGuard
  split <;> rfl

/-- the elements that stand in the row, copied behind them -/
theorem rep_round (hcx : cx.ok P) (hu : P.underlying tS = some (.slice elem)) (hte : TyOf P elem e) (hm : P.follows .mixedOrders = true) {id : Nat} {ops9 : Array Oper} (h9 : ops9.toList.map opOf = rep9 tS tI) (h9e : ops9.toList.map edges = rep9e)
    (hk : k < w.heap.size) (hfz : ∀ V : Array Value, V.size = size → unfrozen V fz) (hcap : n ≤ cap) (hsize : size = cap * e.size) (hcs : cs.length = e.size) (hone : ∀ u ∈ cs, u.oneCell' = true) (hn2 : n < 4611686018427387904) {m : Nat} (hm1 : 1 ≤ m) (hmn : m < n)
    {a : Act} {w1 : World} {V : Array Value} (hd : a.defers = []) (hsz : a.tmps.size = 48) (h7 : tv a 7 = .slice (some ⟨k, 0, none⟩) n cap) (h8 : tv a 8 = .int .i64 m) (hR : RepAt w k vty fz size e.size m cs w1 V) :
    (Code.region id ops9 true).wp P (fun ex a' w' => ex = .normal ∧ a'.defers = [] ∧ a'.tmps.size = 48 ∧ tv a' 7 = .slice (some ⟨k, 0, none⟩) n cap ∧ ∃ m', m < m' ∧ m' ≤ n ∧ tv a' 8 = .int .i64 m' ∧ ∃ V', RepAt w k vty fz size e.size m' cs w' V') a w1 := by
  obtain ⟨c, hc⟩ : ∃ c, c = Nat.min m (n - m) := ⟨_, rfl⟩
  have hc1 : 1 ≤ c := by rw [hc]; exact Nat.le_min.mpr ⟨hm1, by omega⟩
  have hcm : c ≤ m := by rw [hc]; exact Nat.min_le_left _ _
  have hcn : c ≤ n - m := by rw [hc]; exact Nat.min_le_right _ _
  have hpos := e.size_pos
  obtain ⟨row, hrow⟩ : ∃ row : Value, row = .slice (some ⟨k, 0, none⟩) n cap := ⟨_, rfl⟩
  obtain ⟨hiV, hhi⟩ : ∃ v : Value, v = .slice (some ⟨k, m * e.size, none⟩) (n - m) (cap - m) := ⟨_, rfl⟩
  obtain ⟨loV, hlo⟩ : ∃ v : Value, v = .slice (some ⟨k, 0, none⟩) m cap := ⟨_, rfl⟩
  obtain ⟨vals, hvals⟩ : ∃ vals : List Value, vals = [.int .i64 m, row, .int .i64 m, hiV, row, .int .i64 m, loV, .int .i64 c, .int .i64 ((m + c : Nat) : Int), .int .i64 ((m + c : Nat) : Int)] := ⟨_, rfl⟩
  obtain ⟨dsts, hdsts⟩ : ∃ dsts : List Nat, dsts = [38, 39, 40, 41, 42, 43, 44, 45, 46, 8] := ⟨_, rfl⟩
  obtain ⟨news, hnews⟩ : ∃ news : List Value, news = V.toList.take (c * e.size) := ⟨_, rfl⟩
  have hVl : V.toList.length = size := by rw [Array.length_toList, hR.len]
  have hcsz : c * e.size ≤ m * e.size := Nat.mul_le_mul_right _ hcm
  have hfit : m * e.size + c * e.size ≤ size := by
    rw [hsize, ← Nat.add_mul]; exact Nat.mul_le_mul_right _ (by omega)
  have hnl : news.length = c * e.size := by rw [hnews, List.length_take]; omega
  have hnc : ∀ j, j < c * e.size → news[j]? = cs[j % e.size]? := fun j hj => by
    rw [hnews, List.getElem?_take_of_lt hj]; exact hR.cells j (by omega)
  have hnone : ∀ u ∈ news, u.oneCell' = true := fun u hu => by
    obtain ⟨j, hj⟩ := List.getElem?_of_mem hu
    have hj2 : j < news.length := lt_get hj
    rw [hnc j (by omega)] at hj
    exact hone u (List.mem_of_getElem? hj)
  have sz9 : ops9.size = 10 := by
    have := congrArg List.length h9
    simpa [rep9] using this
  have get9 : ∀ (i : Nat) (o : Oper), ops9.toList[i]? = some o → i < 10 ∧ (rep9 tS tI)[i]? = some (opOf o) ∧ rep9e[i]? = some (edges o) := fun i o ho => by
    refine ⟨by have := lt_get ho; simpa [sz9] using this, by rw [← h9, List.getElem?_map, ho]; rfl, by rw [← h9e, List.getElem?_map, ho]; rfl⟩
  obtain ⟨w2, hw2⟩ : ∃ w2 : World, w2 = { w1 with drawn := w1.drawn + 1 } := ⟨_, rfl⟩
  have hR2 : RepAt w k vty fz size e.size m cs w2 V := by rw [hw2]; exact hR.drawn _
  have hcopy : (Builtin.copy_ #[tS, tS] 0 #[hiV, loV]).run P w2 = .ok (goInt c) (rowSet w2 k (writeAt V.toList (m * e.size) news) vty fz) ∧ True := by
    refine ⟨?_, trivial⟩
    rw [hhi, hlo]
    exact run_copy (ty := 0) hu hte hc.symm hR2.row (hfz V hR2.len) hnl (fun j u hj => by
      rw [add_none, Nat.zero_add, cell_row hR2.row, ← hj, hnews, List.getElem?_take_of_lt (by have := lt_get hj; omega)]) hnone (by rw [hR2.len, hnl]; exact hfit)
  have hR3 : RepAt w k vty fz size e.size (m + c) cs (rowSet w2 k (writeAt V.toList (m * e.size) news) vty fz) (writeAt V.toList (m * e.size) news).toArray := hR2.write hk hnl hnc (by rw [hnl]; exact hfit)
  have val : ∀ (i : Nat) (v : Value), vals[i]? = some v → True := fun _ _ _ => trivial
  refine det_region hm (fun i o ho x hx => ?_) (fun i o ho => ?_)
    (fun L a' w' => a'.defers = [] ∧ a'.tmps.size = 48 ∧ tv a' 7 = row ∧ (L 9 = false → tv a' 8 = .int .i64 m) ∧ (L 9 = true → ∀ j, j < 9 → L j = true) ∧ (∀ i, i < 10 → L i = true → tv a' (dsts.getD i 0) = vals.getD i undef) ∧
      w' = if L 7 then rowSet w2 k (writeAt V.toList (m * e.size) news) vty fz else w2)
    (fun L a' w' i o hI ho hL hdep => ?_) (fun L a' w' hall hI => ?_) ?_
  · obtain ⟨h1, _, h3⟩ := get9 i o ho
    obtain ⟨hi, hj⟩ : i < 10 ∧ True := ⟨h1, trivial⟩
    have : ∀ i : Fin 10, ∀ x ∈ rep9e.getD i.val [], x < i.val := by decide
    have h4 := this ⟨i, h1⟩ x
    rw [List.getD_eq_getElem?_getD, h3] at h4
    exact h4 hx
  · obtain ⟨h1, h2, _⟩ := get9 i o ho
    have : ∀ p ∈ rep9 tS tI, p.2.2 = none := by
      intro p hp
      simp only [rep9, List.mem_cons, List.not_mem_nil, or_false] at hp
      rcases hp with rfl | rfl | rfl | rfl | rfl | rfl | rfl | rfl | rfl | rfl <;> rfl
    exact this _ (List.mem_of_getElem? h2)
  · obtain ⟨q1, q2, q3, q4, q5, q6, q7⟩ := hI
    obtain ⟨h1, h2, h3⟩ := get9 i o ho
    -- it is enough to run it
    have key : ∀ d v, dsts[i]? = some d → vals[i]? = some v → o.dst = some d → (i = 9 → ∀ j, j < 9 → L j = true) → (execOp a'.eval o).run P w' = .ok (.value v) (if (L 7 || (7 : Nat) == i) then rowSet w2 k (writeAt V.toList (m * e.size) news) vty fz else w2) →
        ∃ v w'', (execOp a'.eval o).run P w' = .ok (.value v) w'' ∧ ((a'.put o.dst v).defers = [] ∧ (a'.put o.dst v).tmps.size = 48 ∧ tv (a'.put o.dst v) 7 = row ∧ ((L 9 || (9 : Nat) == i) = false → tv (a'.put o.dst v) 8 = .int .i64 m) ∧ ((L 9 || (9 : Nat) == i) = true → ∀ j, j < 9 → (L j || j == i) = true) ∧
          (∀ i', i' < 10 → (L i' || i' == i) = true → tv (a'.put o.dst v) (dsts.getD i' 0) = vals.getD i' undef) ∧ w'' = if (L 7 || (7 : Nat) == i) then rowSet w2 k (writeAt V.toList (m * e.size) news) vty fz else w2) := by
      intro d v hdi hvi hod h9' hrun
      have hd48 : d < 48 ∧ d ≠ 7 ∧ (d = 8 → i = 9) := by
        have : ∀ i : Fin 10, ([38, 39, 40, 41, 42, 43, 44, 45, 46, 8] : List Nat).getD i.val 0 < 48 ∧ ([38, 39, 40, 41, 42, 43, 44, 45, 46, 8] : List Nat).getD i.val 0 ≠ 7 ∧ (([38, 39, 40, 41, 42, 43, 44, 45, 46, 8] : List Nat).getD i.val 0 = 8 → i.val = 9) := by decide
        have := this ⟨i, h1⟩
        rw [← hdsts, List.getD_eq_getElem?_getD, hdi] at this
        exact this
      rw [hod]
      refine ⟨v, _, hrun, q1, by rw [tput_size]; exact q2, by rw [tv_other hd48.2.1]; exact q3, fun hf => ?_, fun ht j hj => ?_, fun i' hi' hl => ?_, rfl⟩
      · rw [Bool.or_eq_false_iff] at hf
        rw [tv_other (fun e8 => by
          have := hd48.2.2 e8
          subst this
          simp at hf)]
        exact q4 hf.1
      · rcases Bool.or_eq_true _ _ |>.mp ht with ht | ht
        · rw [q5 ht j hj]; rfl
        · have : i = 9 := by have := beq_iff_eq.mp ht; omega
          rw [h9' this j hj]; rfl
      · by_cases e' : i' = i
        · subst e'
          rw [List.getD_eq_getElem?_getD, hdi, List.getD_eq_getElem?_getD, hvi]
          exact tv_same (by rw [q2]; exact hd48.1)
        · have hl' : L i' = true := by
            rcases Bool.or_eq_true _ _ |>.mp hl with hl | hl
            · exact hl
            · exact absurd (beq_iff_eq.mp hl) e'
          have hne : d ≠ dsts.getD i' 0 := by
            have : ∀ i i' : Fin 10, i.val ≠ i'.val → ([38, 39, 40, 41, 42, 43, 44, 45, 46, 8] : List Nat).getD i.val 0 ≠ ([38, 39, 40, 41, 42, 43, 44, 45, 46, 8] : List Nat).getD i'.val 0 := by decide
            have := this ⟨i, h1⟩ ⟨i', hi'⟩ (fun q => e' q.symm)
            rw [← hdsts, List.getD_eq_getElem?_getD, hdi] at this
            exact this
          rw [tv_other hne]
          exact q6 i' hi' hl'
    have deps : ∀ j ∈ rep9e.getD i [], L j = true := fun j hj => hdep j (by rw [List.getD_eq_getElem?_getD, h3] at hj; exact hj)
    have h8' : L 9 = false → tv a' 8 = .int .i64 m := q4
    have no9 : ∀ i < 9, L i = false → L 9 = false := fun i hi hf => by
      cases h : L 9 with
      | false => rfl
      | true => rw [q5 h i hi] at hf; cases hf
    have slot : ∀ i < 10, L i = true → tv a' (dsts.getD i 0) = vals.getD i undef := q6
    have ww : i ≠ 7 → w' = (if (L 7 || (7 : Nat) == i) then rowSet w2 k (writeAt V.toList (m * e.size) news) vty fz else w2) := fun hi => by
      have : ((7 : Nat) == i) = false := by simpa using Ne.symm hi
      rw [this, Bool.or_false]; exact q7
    subst hdsts
    subst hvals
    unfold opOf at h2
    match i, h1 with
    | 0, _ =>
      simp only [rep9, List.getElem?_cons_zero, Option.some.injEq, Prod.mk.injEq] at h2
      refine key _ _ rfl rfl h2.1.symm (fun q => by cases q) ?_
      rw [← ww (by decide), run_move (Or.inl h2.2.1.symm)]
      exact congrArg (fun v => Result.ok (Next.value v) w') (h8' (no9 0 (by decide) hL))
    | 1, _ =>
      simp only [rep9, List.getElem?_cons_zero, List.getElem?_cons_succ, Option.some.injEq, Prod.mk.injEq] at h2
      refine key _ _ rfl rfl h2.1.symm (fun q => by cases q) ?_
      rw [← ww (by decide), run_move (Or.inl h2.2.1.symm)]
      exact congrArg (fun v => Result.ok (Next.value v) w') q3
    | 2, _ =>
      simp only [rep9, List.getElem?_cons_zero, List.getElem?_cons_succ, Option.some.injEq, Prod.mk.injEq] at h2
      refine key _ _ rfl rfl h2.1.symm (fun q => by cases q) ?_
      rw [← ww (by decide), run_move (Or.inl h2.2.1.symm)]
      exact congrArg (fun v => Result.ok (Next.value v) w') (h8' (no9 2 (by decide) hL))
    | 3, _ =>
      simp only [rep9, List.getElem?_cons_zero, List.getElem?_cons_succ, Option.some.injEq, Prod.mk.injEq] at h2
      refine key _ _ rfl rfl h2.1.symm (fun q => by cases q) ?_
      rw [← ww (by decide)]
      have e1 : a'.eval (.tmp 39) = row := slot 1 (by decide) (deps 1 (by decide))
      have e2 : a'.eval (.tmp 40) = .int .i64 m := slot 2 (by decide) (deps 2 (by decide))
      have hne : ¬ cap = m := by omega
      unfold execOp
      simp only [← h2.2.1]
      rw [hhi]
      simp [Instr.sliceAt, run_underlying hu, Instr.slice, e1, e2, hrow, run_sizeOf hte, Instr.sliceBounds, Instr.sliceBound, asIntOf, add_none, hne, show m ≤ n by omega]
    | 4, _ =>
      simp only [rep9, List.getElem?_cons_zero, List.getElem?_cons_succ, Option.some.injEq, Prod.mk.injEq] at h2
      refine key _ _ rfl rfl h2.1.symm (fun q => by cases q) ?_
      rw [← ww (by decide), run_move (Or.inl h2.2.1.symm)]
      exact congrArg (fun v => Result.ok (Next.value v) w') q3
    | 5, _ =>
      simp only [rep9, List.getElem?_cons_zero, List.getElem?_cons_succ, Option.some.injEq, Prod.mk.injEq] at h2
      refine key _ _ rfl rfl h2.1.symm (fun q => by cases q) ?_
      rw [← ww (by decide), run_move (Or.inl h2.2.1.symm)]
      exact congrArg (fun v => Result.ok (Next.value v) w') (h8' (no9 5 (by decide) hL))
    | 6, _ =>
      simp only [rep9, List.getElem?_cons_zero, List.getElem?_cons_succ, Option.some.injEq, Prod.mk.injEq] at h2
      refine key _ _ rfl rfl h2.1.symm (fun q => by cases q) ?_
      rw [← ww (by decide)]
      have e1 : a'.eval (.tmp 42) = row := slot 4 (by decide) (deps 4 (by decide))
      have e2 : a'.eval (.tmp 43) = .int .i64 m := slot 5 (by decide) (deps 5 (by decide))
      unfold execOp
      simp only [← h2.2.1]
      rw [hlo]
      simp [Instr.sliceAt, run_underlying hu, Instr.slice, e1, e2, hrow, run_sizeOf hte, Instr.sliceBounds, Instr.sliceBound, asIntOf, add_none, show m ≤ cap by omega]
      try omega
    | 7, _ =>
      simp only [rep9, List.getElem?_cons_zero, List.getElem?_cons_succ, Option.some.injEq, Prod.mk.injEq] at h2
      refine key _ _ rfl rfl h2.1.symm (fun q => by cases q) ?_
      have hw' : w' = w2 := by rw [q7, hL]; rfl
      have e1 : a'.eval (.tmp 41) = hiV := slot 3 (by decide) (deps 3 (by decide))
      have e2 : a'.eval (.tmp 44) = loV := slot 6 (by decide) (deps 6 (by decide))
      have hcopy' : (Builtin.copy_ #[tS, tS] o.type #[hiV, loV]).run P w2 = .ok (goInt c) (rowSet w2 k (writeAt V.toList (m * e.size) news) vty fz) := by
        rw [hhi, hlo]
        exact run_copy hu hte hc.symm hR2.row (hfz V hR2.len) hnl (fun j u hj => by
          rw [add_none, Nat.zero_add, cell_row hR2.row, ← hj, hnews, List.getElem?_take_of_lt (by have := lt_get hj; omega)]) hnone (by rw [hR2.len, hnl]; exact hfit)
      have hif : (if (L 7 || (7 : Nat) == 7) then rowSet w2 k (writeAt V.toList (m * e.size) news) vty fz else w2) = rowSet w2 k (writeAt V.toList (m * e.size) news) vty fz := by simp
      rw [hif, hw']
      unfold execOp
      simp only [← h2.2.1, copy_of]
      simp [resolve, invoke, builtin, e1, e2, hcopy', goInt]
    | 8, _ =>
      simp only [rep9, List.getElem?_cons_zero, List.getElem?_cons_succ, Option.some.injEq, Prod.mk.injEq] at h2
      refine key _ _ rfl rfl h2.1.symm (fun q => by cases q) ?_
      rw [← ww (by decide)]
      have e1 : a'.eval (.tmp 38) = .int .i64 m := slot 0 (by decide) (deps 0 (by decide))
      have e2 : a'.eval (.tmp 45) = .int .i64 c := slot 7 (by decide) (deps 7 (by decide))
      rw [run_bin h2.2.1.symm e1 e2 (v := .int .i64 ((m + c : Nat) : Int)) (by
        have hwrap : wr .i64 ((m : Int) + (c : Int)) = ((m + c : Nat) : Int) := by
          show wrap64 _ = _
          rw [Pl.w64 (by omega) (by omega)]; omega
        rw [← hwrap]
        simp [binOp, Op.intArith, wr_eq])]
    | 9, _ =>
      simp only [rep9, List.getElem?_cons_zero, List.getElem?_cons_succ, Option.some.injEq, Prod.mk.injEq] at h2
      refine key _ _ rfl rfl h2.1.symm (fun _ j hj => deps j (by
        have : ∀ j : Fin 9, j.val ∈ rep9e.getD 9 [] := by decide
        exact this ⟨j, hj⟩)) ?_
      rw [← ww (by decide), run_move (Or.inr h2.2.1.symm)]
      exact congrArg (fun v => Result.ok (Next.value v) w') (slot 8 (by decide) (deps 8 (by decide)))
    | i + 10, h => omega
  · obtain ⟨q1, q2, q3, q4, q5, q6, q7⟩ := hI
    have hl7 : L 7 = true := hall 7 (by omega)
    rw [hl7] at q7
    refine ⟨rfl, q1, q2, by rw [q3, hrow], m + c, by omega, by omega, ?_, _, by rw [q7]; exact hR3⟩
    have := q6 9 (by decide) (hall 9 (by omega))
    subst hdsts
    subst hvals
    exact this
  · refine ⟨hd, hsz, by rw [hrow]; exact h7, fun _ => h8, fun q => (by cases q), fun i _ q => (by cases q), ?_⟩
    rw [hw2]; rfl

theorem op4 {ops : Array Oper} {p0 p1 p2 p3 : Option Tmp × Op × Option (Nat × Bool)} (h : ops.toList.map opOf = [p0, p1, p2, p3]) {Q : Exit → Act → World → Prop} {a : Act} {w : World} {id : Nat} (hw : wpOps P ops (Q) [0, 1, 2, 3] a w) : (Code.region id ops false).wp P Q a w := by
  refine wp_region ?_
  have : ops.size = 4 := by have := congrArg List.length h; simpa using this
  rw [this]; exact hw
theorem op2 {ops : Array Oper} {p0 p1 : Option Tmp × Op × Option (Nat × Bool)} (h : ops.toList.map opOf = [p0, p1]) {Q : Exit → Act → World → Prop} {a : Act} {w : World} {id : Nat} (hw : wpOps P ops (Q) [0, 1] a w) : (Code.region id ops false).wp P Q a w := by
  refine wp_region ?_
  have : ops.size = 2 := by have := congrArg List.length h; simpa using this
  rw [this]; exact hw

/-- what stands behind the making of the row -/
theorem rep_tail (hcx : cx.ok P) (hu : P.underlying tS = some (.slice elem)) (hte : TyOf P elem e) {i7 i8 i9 i10 : Nat} {ops7 ops8 ops9 ops10 : Array Oper} (h7 : ops7.toList.map opOf = rep7 tS) (h8 : ops8.toList.map opOf = rep8 tS tI) (h9 : ops9.toList.map opOf = rep9 tS tI) (h9e : ops9.toList.map edges = rep9e) (h10 : ops10.toList.map opOf = rep10)
    {a : Act} {vals : Array Value} {ax : Addr} {capx : Nat} (hd : a.defers = []) (hsz : a.tmps.size = 48) (t7 : tv a 7 = .slice (some ⟨k, 0, none⟩) n cap) (t0 : tv a 0 = .slice (some ax) 1 capx) (hk : w.heap[k]? = some (.cells vals vty fz)) (hfz : unfrozen vals fz) (hn : 1 ≤ n) (hn2 : n < 4611686018427387904) (hcap : n ≤ cap) (hvs : vals.size = cap * e.size)
    (hcs : cs.length = e.size) (hone : ∀ u ∈ cs, u.oneCell' = true) (hsrc : ∀ j u, cs[j]? = some u → w.cell? (ax.add j) = some u) :
    (Code.seq (.region i7 ops7 false) (.seq (.block 0 (.loop (.seq (.seq (.region i8 ops8 false) (.cond (.tmp 37) .skip (.exit 0))) (.block 1 (.region i9 ops9 true))))) (.seq (.region i10 ops10 false) .ret))).wp P
      (fun ex a' w' => ex = .ret ∧ a'.defers = [] ∧ tv a' 4 = .slice (some ⟨k, 0, none⟩) n cap ∧ ∃ V, RepAt w k vty fz (cap * e.size) e.size n cs w' V) a w := by
  have hkl := heap_lt hk
  have hpos := e.size_pos
  have hunf : ∀ V : Array Value, V.size = cap * e.size → unfrozen V fz := fun V hV i hi => hfz i (by rw [hvs, ← hV]; exact hi)
  have hsz7 : (1 : Nat) * e.size ≤ cap * e.size := Nat.mul_le_mul_right _ (by omega)
  -- the first copy
  obtain ⟨o0, q0, d0, p0, g0⟩ := op_get h7 (i := 0) rfl
  obtain ⟨o1, q1, d1, p1, g1⟩ := op_get h7 (i := 1) rfl
  obtain ⟨o2, q2, d2, p2, g2⟩ := op_get h7 (i := 2) rfl
  obtain ⟨o3, q3, d3, p3, g3⟩ := op_get h7 (i := 3) rfl
  refine wp_seq (op4 h7 (seq_step q0 g0 d0 (run_move (Or.inl p0)) (seq_step q1 g1 d1 (run_move (Or.inl p1)) ?_)))
  obtain ⟨a2, ha2⟩ : ∃ a2, a2 = (a.put (some 31) (a.eval (.tmp 7))).put (some 32) ((a.put (some 31) (a.eval (.tmp 7))).eval (.tmp 0)) := ⟨_, rfl⟩
  rw [← ha2]
  have s2 : a2.tmps.size = 48 := by rw [ha2, tput_size, tput_size]; exact hsz
  have e31 : tv a2 31 = .slice (some ⟨k, 0, none⟩) n cap := by rw [ha2, tv_other (by decide), tv_same (by rw [hsz]; decide)]; exact t7
  have e32 : tv a2 32 = .slice (some ax) 1 capx := by
    rw [ha2, tv_same (by rw [tput_size, hsz]; decide)]
    exact (tv_other (by decide)).trans t0
  have hd2 : a2.defers = [] := by rw [ha2]; exact hd
  have t72 : tv a2 7 = .slice (some ⟨k, 0, none⟩) n cap := by rw [ha2, tv_other (by decide), tv_other (by decide)]; exact t7
  have hmin : Nat.min 1 n = 1 := Nat.min_eq_left hn
  have hcopy : (execOp a2.eval o2).run P w = .ok (.value (.int .i64 1)) (rowSet w k (writeAt vals.toList 0 cs) vty fz) := by
    have e1 : a2.eval (.tmp 31) = .slice (some ⟨k, 0, none⟩) n cap := e31
    have e2 : a2.eval (.tmp 32) = .slice (some ax) 1 capx := e32
    have := run_copy (sT := tS) (ty := o2.type) (dCap := cap) (sCap := capx) hu hte hmin hk hfz (o := 0) (a := ax) (by rw [Nat.one_mul]; exact hcs) hsrc hone (by rw [hvs, hcs]; omega)
    unfold execOp
    simp only [p2, copy_of]
    simp [resolve, invoke, builtin, e1, e2, this, goInt]
  refine seq_step q2 g2 d2 hcopy (seq_step q3 g3 d3 (run_move (Or.inr p3)) ?_)
  have ec : (a2.put (some 33) (.int .i64 1)).eval (.tmp 33) = .int .i64 1 := tv_same (by rw [s2]; decide)
  rw [ec]
  obtain ⟨a4, ha4⟩ : ∃ a4, a4 = (a2.put (some 33) (.int .i64 1)).put (some 8) (.int .i64 1) := ⟨_, rfl⟩
  rw [← ha4]
  have s4 : a4.tmps.size = 48 := by rw [ha4, tput_size, tput_size]; exact s2
  have e8 : tv a4 8 = .int .i64 ((1 : Nat) : Int) := by rw [ha4, tv_same (by rw [tput_size, s2]; decide)]; rfl
  have e7 : tv a4 7 = .slice (some ⟨k, 0, none⟩) n cap := by rw [ha4, tv_other (by decide), tv_other (by decide)]; exact t72
  have hd4 : a4.defers = [] := by rw [ha4]; exact hd2
  have hR1 : RepAt w k vty fz (cap * e.size) e.size 1 cs (rowSet w k (writeAt vals.toList 0 cs) vty fz) (writeAt vals.toList 0 cs).toArray := by
    refine ⟨rfl, rfl, rfl, rowSet_size, fun j hj => rowSet_other hj, rowSet_same hkl, by simp [writeAt_length, hvs], fun j hj => ?_⟩
    simp only [List.toList_toArray]
    have := writeAt_get_in cs vals.toList 0 j (by rw [hcs, Array.length_toList, hvs]; omega) (by omega)
    rw [Nat.zero_add] at this
    rw [this, Nat.mod_eq_of_lt (by omega)]
  show Exit.then _ _ .normal a4 _
  -- the loop
  obtain ⟨QL, hQL⟩ : ∃ QL : Exit → Act → World → Prop, QL = fun ex a' w' => ex = .exit 0 ∧ a'.defers = [] ∧ a'.tmps.size = 48 ∧ tv a' 7 = .slice (some ⟨k, 0, none⟩) n cap ∧ ∃ V, RepAt w k vty fz (cap * e.size) e.size n cs w' V := ⟨_, rfl⟩
  have loop : ∀ (d m : Nat) (a : Act) (w1 : World) (V : Array Value), n - m = d → 1 ≤ m → m ≤ n → a.defers = [] → a.tmps.size = 48 → tv a 7 = .slice (some ⟨k, 0, none⟩) n cap → tv a 8 = .int .i64 (m : Nat) → RepAt w k vty fz (cap * e.size) e.size m cs w1 V →
      LoopAt P (.seq (.seq (.region i8 ops8 false) (.cond (.tmp 37) .skip (.exit 0))) (.block 1 (.region i9 ops9 true))) QL a w1 := by
    intro d
    induction d using Nat.strongRecOn with
    | _ d ih =>
    intro m a w1 V hdm hm1 hmn hd hsz h7' h8' hR
    refine loop_unroll ?_
    obtain ⟨o0, q0, d0, p0, g0⟩ := op_get h8 (i := 0) rfl
    obtain ⟨o1, q1, d1, p1, g1⟩ := op_get h8 (i := 1) rfl
    obtain ⟨o2, q2, d2, p2, g2⟩ := op_get h8 (i := 2) rfl
    obtain ⟨o3, q3, d3, p3, g3⟩ := op_get h8 (i := 3) rfl
    refine wp_seq (wp_seq (op4 h8 (seq_step q0 g0 d0 (run_move (Or.inl p0)) (seq_step q1 g1 d1 (run_move (Or.inl p1)) ?_))))
    obtain ⟨a2, ha2⟩ : ∃ a2, a2 = (a.put (some 34) (a.eval (.tmp 8))).put (some 35) ((a.put (some 34) (a.eval (.tmp 8))).eval (.tmp 7)) := ⟨_, rfl⟩
    rw [← ha2]
    have s2 : a2.tmps.size = 48 := by rw [ha2, tput_size, tput_size]; exact hsz
    have e34 : tv a2 34 = .int .i64 (m : Nat) := by rw [ha2, tv_other (by decide), tv_same (by rw [hsz]; decide)]; exact h8'
    have e35 : tv a2 35 = .slice (some ⟨k, 0, none⟩) n cap := by
      rw [ha2, tv_same (by rw [tput_size, hsz]; decide)]
      exact (tv_other (by decide)).trans h7'
    have hd2 : a2.defers = [] := by rw [ha2]; exact hd
    have e72 : tv a2 7 = .slice (some ⟨k, 0, none⟩) n cap := by rw [ha2, tv_other (by decide), tv_other (by decide)]; exact h7'
    have e82 : tv a2 8 = .int .i64 (m : Nat) := by rw [ha2, tv_other (by decide), tv_other (by decide)]; exact h8'
    refine seq_step q2 g2 d2 (run_len p2 hu e35) ?_
    obtain ⟨a3, ha3⟩ : ∃ a3, a3 = a2.put (some 36) (.int .i64 n) := ⟨_, rfl⟩
    rw [← ha3]
    have s3 : a3.tmps.size = 48 := by rw [ha3, tput_size]; exact s2
    have e36 : a3.eval (.tmp 36) = .int .i64 (n : Nat) := by rw [ha3]; exact tv_same (by rw [s2]; decide)
    have e343 : a3.eval (.tmp 34) = .int .i64 (m : Nat) := by rw [ha3]; exact (tv_other (by decide)).trans e34
    refine seq_step q3 g3 d3 (run_bin p3 e343 e36 (v := .bool (decide ((m : Int) < (n : Int)))) (by simp [binOp, Op.intCmp])) ?_
    obtain ⟨a5, ha5⟩ : ∃ a5, a5 = a3.put (some 37) (.bool (decide ((m : Int) < (n : Int)))) := ⟨_, rfl⟩
    rw [← ha5]
    have s5 : a5.tmps.size = 48 := by rw [ha5, tput_size]; exact s3
    have e37 : a5.eval (.tmp 37) = .bool (decide ((m : Int) < (n : Int))) := by rw [ha5]; exact tv_same (by rw [s3]; decide)
    have hd5 : a5.defers = [] := by rw [ha5, ha3]; exact hd2
    have e75 : tv a5 7 = .slice (some ⟨k, 0, none⟩) n cap := by rw [ha5, ha3, tv_other (by decide), tv_other (by decide)]; exact e72
    have e85 : tv a5 8 = .int .i64 (m : Nat) := by rw [ha5, ha3, tv_other (by decide), tv_other (by decide)]; exact e82
    show Exit.then _ _ .normal a5 _
    by_cases hlt : m < n
    · rw [show decide ((m : Int) < (n : Int)) = true from decide_eq_true (by omega)] at e37
      refine wp_cond_true e37 (wp_skip ?_)
      show Exit.then _ _ .normal a5 _
      refine wp_block (wp_mono (rep_round hcx hu hte hcx.mixed h9 h9e hkl hunf hcap rfl hcs hone hn2 hm1 hlt hd5 s5 e75 e85 hR) ?_)
      rintro ex a6 w6 ⟨rfl, x1, x2, x3, m', x4, x5, x6, V', x7⟩
      exact ih (n - m') (by omega) m' a6 w6 V' rfl (by omega) x5 x1 x2 x3 x6 x7
    · obtain rfl : m = n := by omega
      rw [show decide ((m : Int) < (m : Int)) = false from decide_eq_false (by omega)] at e37
      refine wp_cond_false e37 (wp_exit ?_)
      rw [hQL]
      exact ⟨rfl, hd5, s5, e75, V, hR⟩
  refine wp_seq (wp_block (wp_mono (wp_loop_at (loop _ 1 a4 _ _ rfl (Nat.le_refl _) hn hd4 s4 e7 e8 hR1)) ?_))
  rintro ex a7 w7 hq
  rw [hQL] at hq
  obtain ⟨rfl, x1, x2, x3, V, x4⟩ := hq
  simp only [Exit.inBlock]
  rw [if_pos trivial]
  obtain ⟨o0, q0, d0, p0, g0⟩ := op_get h10 (i := 0) rfl
  obtain ⟨o1, q1, d1, p1, g1⟩ := op_get h10 (i := 1) rfl
  refine wp_seq (op2 h10 (seq_step q0 g0 d0 (run_move (Or.inl p0)) (seq_step q1 g1 d1 (run_move (Or.inr p1)) ?_)))
  refine wp_ret ⟨rfl, x1, ?_, V, x4⟩
  rw [tv_same (by rw [tput_size, x2]; decide)]
  show tv (a7.put (some 47) (a7.eval (.tmp 7))) 47 = _
  rw [tv_same (by rw [x2]; decide)]
  exact x3
end
end Go.Proofs.YtigbabjhcihmaaaGreatDoor.Ev

set_option linter.unusedVariables false
set_option linter.unusedSimpArgs false
set_option maxRecDepth 100000
namespace Go.Proofs.YtigbabjhcihmaaaGreatDoor.Ev
open Go Go.RowKit Go.Proofs

def semRepeat (e : Ty) (l : List e.den) (n : Int) : Option (List e.den) := bif decide (l.length = 1) && (decide (1 ≤ n) && decide (n ≤ 1000)) then some (List.replicate n.toNat (l.getD 0 e.zero)) else none
def repSpec (e : Ty) : CSpec := { params := [.slice e, .int .i64], res := [(.slice e, false)], fresh := false, sem := fun x => semRepeat e x.1 x.2.1 }

noncomputable def evRep (cx : Cx) (inl : Inl (V × V × List Blk)) (c0 c1 c2 c3 c4 : Code) (st : St) : Option (V × V × List Blk) :=
  evCode cx inl [] c0 st (onN fun st => evCode cx inl [] c1 st (onN fun st => evCode cx inl [] c2 st (onN fun st => evCode cx inl [] c3 st (onN fun st => evCode cx inl [] c4 st (onN fun st => some (st.tmps.getD 7 V.undef, st.tmps.getD 0 V.undef, st.bl))))))

structure RepCode where
  c0 : Code
  c1 : Code
  c2 : Code
  c3 : Code
  c4 : Code
  i7 : Nat
  ops7 : Array Oper
  i8 : Nat
  ops8 : Array Oper
  i9 : Nat
  ops9 : Array Oper
  i10 : Nat
  ops10 : Array Oper

def RepCode.code (c : RepCode) : Code := .seq c.c0 (.seq c.c1 (.seq c.c2 (.seq c.c3 (.seq c.c4 (.seq (.region c.i7 c.ops7 false) (.seq (.block 0 (.loop (.seq (.seq (.region c.i8 c.ops8 false) (.cond (.tmp 37) .skip (.exit 0))) (.block 1 (.region c.i9 c.ops9 true))))) (.seq (.region c.i10 c.ops10 false) .ret)))))))

/-- the parts of such code -/
def repCode : Code → RepCode
  | .seq c0 (.seq c1 (.seq c2 (.seq c3 (.seq c4 (.seq (.region i7 ops7 _) (.seq (.block _ (.loop (.seq (.seq (.region i8 ops8 _) _) (.block _ (.region i9 ops9 _))))) (.seq (.region i10 ops10 _) _))))))) => ⟨c0, c1, c2, c3, c4, i7, ops7, i8, ops8, i9, ops9, i10, ops10⟩
  | _ => ⟨.skip, .skip, .skip, .skip, .skip, 0, #[], 0, #[], 0, #[], 0, #[]⟩

theorem rep_ok {P : Program} {cx : Cx} {G : World → Prop} (hcx : cx.good P G) (d : Nat) {f : FuncId} {fn : Func} (hf : cx.body f = some fn) {e : Ty} {tS tI : TypeId} (hS : cx.ty tS = some (.slice e)) {c : RepCode} (hc : fn.body = some c.code) (hr : fn.results = #[.tmp 4]) (hn : fn.ntmps = 48)
    (h7 : c.ops7.toList.map opOf = rep7 tS) (h8 : c.ops8.toList.map opOf = rep8 tS tI) (h9 : c.ops9.toList.map opOf = rep9 tS tI) (h9e : c.ops9.toList.map edges = rep9e) (h10 : c.ops10.toList.map opOf = rep10)
    (hpre : ∀ (l : List e.den) (n : Int), l.length = 1 → 1 ≤ n → n ≤ 1000 → evRep cx (evInl cx d) c.c0 c.c1 c.c2 c.c3 c.c4 { tmps := enter 48 (giveArgs [.slice e, .int .i64] (l, n, ())), bl := [], lock := [] } = some (.at (.os 1 0), .at (.sl false e l), [.arr 0 true true e [], .arr 0 true true e (List.replicate n.toNat e.zero)])) :
    (repSpec e).ok P G f := by
  obtain ⟨p1, p2, p3⟩ := hcx.ok.body f fn hf
  obtain ⟨⟨elem, hu, hte⟩, _⟩ := hcx.ok.ty tS _ hS
  refine ⟨⟨fn, p1, p2, p3⟩, fun w hG S args x r hargs hsem => ?_⟩
  refine calls_of_wp p1 hc ?_
  have hX := giveArgs_sound (B := w.heap.size) (G := G) _ _ _ hargs
  have hlen := hX.length
  have hm0 : Mem (Env.of w.heap.size S G) w w (fun _ => none) [] := ⟨fun w' hb => hcx.goes w w' hG (Env.Apart.of hb), Env.Apart.refl _ w, Nat.le_refl _, fun b blk hb => by simp at hb, fun b b' k c c' h1 => by cases h1⟩
  have hR : Rel (Env.of w.heap.size S G) w (fun _ => none) { tmps := enter fn.ntmps (giveArgs [.slice e, .int .i64] x), bl := [], lock := [] } { tmps := args.toArray ++ Array.replicate (fn.ntmps - args.toArray.size) undef, defers := [] } w := by
    refine ⟨hm0, ?_, rfl, Trees.nil⟩
    simp only [enter, Array.toList_append, Array.toList_replicate, List.size_toArray]
    have hlen' : (giveArgs [.slice e, .int .i64] x).length = args.length := hlen
    rw [hlen']
    refine All2.append (as := giveArgs [.slice e, .int .i64] x) hX ?_
    generalize fn.ntmps - args.length = m
    induction m with
    | zero => trivial
    | succ m ih => exact ⟨RepV.undef, ih⟩
  rw [hn] at hR ⊢
  obtain ⟨l, n, ⟨⟩⟩ := x
  have hsem : semRepeat e l n = some r := hsem
  unfold semRepeat at hsem
  have hg := (cond_none hsem).1
  replace hsem := (cond_none hsem).2
  simp only [Bool.and_eq_true, decide_eq_true_eq] at hg
  obtain ⟨g1, g2, g3⟩ := hg
  have hk := hpre l n g1 g2 g3
  unfold evRep at hk
  have hcxE : cx.good P (Env.of w.heap.size S G).G := hcx
  unfold RepCode.code
  refine wp_seq (wp_mono (run_n hcxE (evInl_sound hcxE d) hR hk) ?_)
  rintro ex a1 w1 ⟨rfl, st1, μ1, hk1, hR1, kp1, _⟩
  refine wp_seq (wp_mono (run_n hcxE (evInl_sound hcxE d) hR1 hk1) ?_)
  rintro ex a2 w2 ⟨rfl, st2, μ2, hk2, hR2, kp2, _⟩
  refine wp_seq (wp_mono (run_n hcxE (evInl_sound hcxE d) hR2 hk2) ?_)
  rintro ex a3 w3 ⟨rfl, st3, μ3, hk3, hR3, kp3, _⟩
  refine wp_seq (wp_mono (run_n hcxE (evInl_sound hcxE d) hR3 hk3) ?_)
  rintro ex a4 w4 ⟨rfl, st4, μ4, hk4, hR4, kp4, _⟩
  refine wp_seq (wp_mono (run_n hcxE (evInl_sound hcxE d) hR4 hk4) ?_)
  rintro ex a5 w5 ⟨rfl, st5, μ5, hk5, hR5, kp5, _⟩
  simp only [Option.some.injEq, Prod.mk.injEq] at hk5
  obtain ⟨s7, s0, sb⟩ := hk5
  have t7 := hR5.tmp 7
  rw [s7] at t7
  have hb0 : st5.bl[(1 : Nat)]? = some (.arr 0 true true e (List.replicate n.toNat e.zero)) := by rw [sb]; rfl
  have hrow := (t7.2 _ _ _ _ _ hb0).2 rfl
  rw [List.length_replicate] at hrow
  rcases hR5.mem.blocks 1 _ hb0 with ⟨_, hnil⟩ | ⟨k, cap, vals, vty, fz, hμ, hNk, hheap, hunf, hle, hvs, _⟩
  · have := congrArg List.length hnil
    simp at this; omega
  rw [hμ] at hrow
  have hrow : tv a5 7 = .slice (some ⟨k, 0, none⟩) n.toNat cap := hrow
  rw [List.length_replicate] at hle
  have t0 := hR5.tmp 0
  rw [s0] at t0
  have t0 : Holds w5 (Env.D (Env.of w.heap.size S G) μ5 st5.bl false) (.slice e) l [tv a5 0] := t0
  simp only [Holds] at t0
  obtain ⟨ad, capx, ev0, hcapx, hel⟩ := t0
  simp only [List.cons.injEq, and_true] at ev0
  obtain ⟨blk, off, cs, rfl, hDb, hH, hcell⟩ := hel 0 (by omega)
  rw [g1] at ev0
  have hsz5 : a5.tmps.size = 48 := by
    have h1 := hR5.slots.length
    rw [Array.length_toList] at h1
    rw [← h1, kp5.len, kp4.len, kp3.len, kp2.len, kp1.len]
    simp [enter, giveArgs]
  have hown : Own μ5 st5.bl k := ⟨1, cap, hμ, by unfold mine; rw [hb0]⟩
  refine wp_mono (rep_tail (cs := cs) hcx.ok hu hte h7 h8 h9 h9e h10 hR5.defers hsz5 hrow ev0 hheap hunf (by omega) (by omega) hle hvs hH.length hH.one fun j u hj => ?_) ?_
  · have := hcell j u hj
    rw [Nat.zero_mul, Nat.add_zero] at this
    rw [add_none]; exact this
  rintro ex a6 w6 ⟨rfl, hd6, h46, V, hV⟩
  refine ⟨hd6, .slice (some ⟨k, 0, none⟩) n.toNat cap, ?_, ?_⟩
  · have h46' : a6.tmps.getD 4 undef = .slice (some ⟨k, 0, none⟩) n.toNat cap := h46
    rw [Array.getD_eq_getD_getElem?] at h46'
    unfold results
    simp [hr, h46']
  · have hNk' : w.heap.size ≤ k := hNk
    have hbel := Env.Apart.of hR5.mem.below
    refine ⟨⟨hV.os.trans hbel.os, hV.tape.trans hbel.tape, hV.output.trans hbel.output, by rw [hV.hsz]; exact hbel.size, fun j hj => by rw [hV.other j (by omega)]; exact hbel.block j hj⟩,
      [.slice (some ⟨k, 0, none⟩) n.toNat cap], [], rfl, ⟨fun k c hm => by simp at hm, fun i j k c c' hi => by simp at hi⟩, ?_, [], ⟨fun i g t l hi => by simp [giveRes, oneRes, repSpec] at hi, fun k hk => by simp at hk, List.nodup_nil⟩⟩
    cases hsem
    refine ⟨rfl, ?_⟩
    show Holds w6 _ (.slice e) (List.replicate n.toNat (l.getD 0 e.zero)) [_]
    simp only [Holds]
    refine ⟨some ⟨k, 0, none⟩, cap, by rw [List.length_replicate], by rw [List.length_replicate]; exact hle, fun i hi => ⟨k, 0, cs, rfl, ⟨Or.inl hNk', fun c hc => by simp at hc⟩, ?_, fun j u hj => ?_⟩⟩
    · have e0 : (List.replicate n.toNat (l.getD 0 e.zero))[i] = l[0]'(by omega) := by
        rw [List.getElem_replicate, List.getD_eq_getElem?_getD, List.getElem?_eq_getElem (by omega)]; rfl
      rw [e0]
      refine hH.mono fun j hj hlt => ⟨⟨?_, fun c hc => by simp at hc⟩, hV.other j fun q => hj.2 (q ▸ hown)⟩
      exact hj.1.imp id fun q => ⟨rfl, q.2⟩
    · have hlj : j < e.size := by rw [← hH.length]; exact lt_get hj
      have hlt : i * e.size + j < n.toNat * e.size := by
        have h1 : (i + 1) * e.size ≤ n.toNat * e.size := Nat.mul_le_mul_right _ (by rw [List.length_replicate] at hi; omega)
        rw [Nat.add_mul] at h1; omega
      have := hV.cells (i * e.size + j) hlt
      rw [cell_row hV.row, Nat.zero_add, this, Nat.add_comm, Nat.add_mul_mod_self_right, Nat.mod_eq_of_lt hlj, hj]
end Go.Proofs.YtigbabjhcihmaaaGreatDoor.Ev

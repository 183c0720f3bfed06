/- strings.Contains, IndexAny, TrimLeft and Split, as contracts that the evaluator takes. No program is named. -/
import Derived.Test.YtnohkcklakipoaaGreatDoorEvLm
import Derived.Shelf.Strings.IndexAnyAll
import Derived.Shelf.Strings.SplitShaped
namespace Go.Proofs.YtnohkcklakipoaaGreatDoor.Ev
open Go Go.RowKit
set_option linter.unusedVariables false
set_option linter.unusedSimpArgs false
section
variable {P : Program} {G : World → Prop} {f : FuncId} {fn : Func}
theorem ok_bool (hf : P.funcs[f]? = some fn) (hn : decide (fn.name = "runtime.NumGoroutine") = false) (hb : fn.body.isSome = true) {ps : List Ty} {sem : denL ps → Option Bool}
    (h : ∀ w, G w → ∀ (S : Nat → Prop) (args : List Value) x r, ArgsHold w S ps x args → sem x = some r → Calls P f args.toArray w fun e w' => e = .returned (.bool r) ∧ Below w.heap.size w w') :
    CSpec.ok P G f { params := ps, res := [(.bool, false)], fresh := true, sem := sem } := by
  refine ⟨⟨fn, hf, of_decide_eq_false hn, hb⟩, fun w hG S args x r ha hs => (h w hG S args x r ha hs).mono ?_⟩
  rintro e w' ⟨rfl, hb⟩
  exact ⟨hb, [.bool r], [], rfl, ⟨fun k c hc => by simp at hc, fun i j k c c' hi => by simp at hi⟩, ⟨rfl, rfl⟩, NewTrees.plain rfl⟩
def semContains (s t : ByteArray) : Option Bool := bif decide (s.size < 4294967281) then some (Lib.contains s.data.toList t.data.toList) else none
theorem ok_Contains (hf : P.funcs[f]? = some fn) (hn : decide (fn.name = "runtime.NumGoroutine") = false) (hb : fn.body.isSome = true) {g : Nat} (hM : Maxs g G)
    (h : ∀ (s t : ByteArray) (m : Int) (w : World), s.size < 4294967281 → w.cell? ⟨g, 0, none⟩ = some (.int .i64 m) →
      Calls P f #[.string s, .string t] w fun e w' => e = .returned (.bool (Lib.contains s.data.toList t.data.toList)) ∧ w' = w) :
    CSpec.ok P G f { params := [.str, .str], res := [(.bool, false)], fresh := true, sem := fun x => semContains x.1 x.2.1 } := by
  refine ok_bool hf hn hb fun w hw S args x r ha hs => ?_
  cases args_two ha
  have hs : semContains x.1 x.2.1 = some r := hs
  unfold semContains at hs
  obtain ⟨h1, hs⟩ := cond_none hs
  cases hs
  obtain ⟨m, hm⟩ := hM w hw
  refine (h x.1 x.2.1 m w (of_decide_eq_true h1) hm).mono ?_
  rintro e w' ⟨rfl, rfl⟩
  exact ⟨rfl, Below.refl _ _⟩
def semIndexAny (s t : ByteArray) : Option Int :=
  bif decide (8 < s.size ∧ s.size < 4294967281 ∧ 2 ≤ t.size ∧ t.size < 4294967281) && t.data.toList.all (fun b => decide (b.toNat < 128)) then some (Lib.indexAny s.data.toList t.data.toList) else none
def semTrimLeft (s t : ByteArray) : Option ByteArray :=
  match t.data.toList with
  | [c] => bif decide (c.toNat < 128) then some ⟨(Lib.trimLeftB s.data.toList c).toArray⟩ else none
  | _ => none
theorem ok_TrimLeft (hf : P.funcs[f]? = some fn) (hn : decide (fn.name = "runtime.NumGoroutine") = false) (hb : fn.body.isSome = true)
    (h : ∀ (s : ByteArray) (c : UInt8), c.toNat < 128 → ∀ w : World, Calls P f #[.string s, .string ⟨#[c]⟩] w fun e w' => e = .returned (.string ⟨(Lib.trimLeftB s.data.toList c).toArray⟩) ∧ w' = w) :
    CSpec.ok P G f { params := [.str, .str], res := [(.str, false)], fresh := true, sem := fun x => semTrimLeft x.1 x.2.1 } := by
  refine ok_str hf hn hb fun w hw S args x r ha hs => ?_
  cases args_two ha
  have hs : semTrimLeft x.1 x.2.1 = some r := hs
  unfold semTrimLeft at hs
  split at hs
  · next c hc =>
    obtain ⟨h1, hs⟩ := cond_none hs
    cases hs
    have e : x.2.1 = ⟨#[c]⟩ := by
      have : x.2.1.data = #[c] := Array.toList_inj.mp hc
      rw [← this]
    rw [e]
    refine (h x.1 c (of_decide_eq_true h1) w).mono ?_
    rintro y w' ⟨rfl, rfl⟩
    exact ⟨rfl, Below.refl _ _⟩
  · cases hs
end
end Go.Proofs.YtnohkcklakipoaaGreatDoor.Ev

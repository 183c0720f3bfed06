/- strings.Contains, IndexAny, TrimLeft and Split, as contracts that the evaluator takes. No program is named. -/
import Derived.Test.YtnohkcklakipoaaGreatDoorEvLm
import Derived.Shelf.Strings.IndexAnyAll
import Derived.Shelf.Strings.SplitShaped
namespace Go.Proofs.YtnohkcklakipoaaGreatDoor.Ev
open Go Go.RowKit
set_option linter.unusedVariables false
set_option linter.unusedSimpArgs false
section
variable {P:Program} {G:World→Prop} {f:FuncId} {fn:Func}
theorem ok_bool (hf:P.funcs[f]? = some fn) (hn:decide (fn.name = "runtime.NumGoroutine")=false) (hb:fn.body.isSome=true) {ps:List Ty} {sem:denL ps→Option Bool}
    (h:∀ w,G w→∀ (S:Nat→Prop) (args:List Value) x r,ArgsHold w S ps x args→sem x=some r→Calls P f args.toArray w fun e w'=>e = .returned (.bool r)∧Below w.heap.size w w') :
    CSpec.ok P G f { params:=ps,res:=[(.bool,false)],fresh:=true,sem:=sem }:=by
  refine ⟨⟨fn,hf,of_decide_eq_false hn,hb⟩,fun w hG S args x r ha hs=>(h w hG S args x r ha hs).mono ?_⟩
  rintro e w' ⟨rfl,hb⟩
  exact ⟨hb,[.bool r],[],rfl,⟨fun k c hc=>by simp at hc,fun i j k c c' hi=>by simp at hi⟩,⟨rfl,rfl⟩,NewTrees.plain rfl⟩
def semContains (s t:ByteArray):Option Bool:=bif decide (s.size<4294967281) then some (Lib.contains s.data.toList t.data.toList) else none
theorem ok_Contains (hf:P.funcs[f]? = some fn) (hn:decide (fn.name = "runtime.NumGoroutine")=false) (hb:fn.body.isSome=true) {g:Nat} (hM:Maxs g G)
    (h:∀ (s t:ByteArray) (m:Int) (w:World),s.size<4294967281→w.cell? ⟨g,0,none⟩=some (.int .i64 m) →
      Calls P f #[.string s,.string t] w fun e w'=>e = .returned (.bool (Lib.contains s.data.toList t.data.toList))∧w'=w) :
    CSpec.ok P G f { params:=[.str,.str],res:=[(.bool,false)],fresh:=true,sem:=fun x=>semContains x.1 x.2.1 }:=by
  refine ok_bool hf hn hb fun w hw S args x r ha hs=>?_
  cases args_two ha
  have hs:semContains x.1 x.2.1=some r:=hs
  unfold semContains at hs
  obtain ⟨h1,hs⟩:=cond_none hs
  cases hs
  obtain ⟨m,hm⟩:=hM w hw
  refine (h x.1 x.2.1 m w (of_decide_eq_true h1) hm).mono ?_
  rintro e w' ⟨rfl,rfl⟩
  exact ⟨rfl,Below.refl _ _⟩
def semIndexAny (s t:ByteArray):Option Int :=
  bif decide (8<s.size∧s.size<4294967281∧2≤t.size∧t.size<4294967281)&&t.data.toList.all (fun b=>decide (b.toNat<128)) then some (Lib.indexAny s.data.toList t.data.toList) else none
def semTrimLeft (s t:ByteArray):Option ByteArray :=
  match t.data.toList with
  | [c]=>bif decide (c.toNat<128) then some ⟨(Lib.trimLeftB s.data.toList c).toArray⟩ else none
  | _=>none
theorem ok_TrimLeft (hf:P.funcs[f]? = some fn) (hn:decide (fn.name = "runtime.NumGoroutine")=false) (hb:fn.body.isSome=true)
    (h:∀ (s:ByteArray) (c:UInt8),c.toNat<128→∀ w:World,Calls P f #[.string s,.string ⟨#[c]⟩] w fun e w'=>e = .returned (.string ⟨(Lib.trimLeftB s.data.toList c).toArray⟩)∧w'=w) :
    CSpec.ok P G f { params:=[.str,.str],res:=[(.str,false)],fresh:=true,sem:=fun x=>semTrimLeft x.1 x.2.1 }:=by
  refine ok_str hf hn hb fun w hw S args x r ha hs=>?_
  cases args_two ha
  have hs:semTrimLeft x.1 x.2.1=some r:=hs
  unfold semTrimLeft at hs
  split at hs
  · next c hc =>
    obtain ⟨h1,hs⟩:=cond_none hs
    cases hs
    have e:x.2.1=⟨#[c]⟩:=by
      have:x.2.1.data=#[c]:=Array.toList_inj.mp hc
      rw [← this]
    rw [e]
    refine (h x.1 c (of_decide_eq_true h1) w).mono ?_
    rintro y w' ⟨rfl,rfl⟩
    exact ⟨rfl,Below.refl _ _⟩
  · cases hs
theorem holds_strs (w:World) (ty:TypeId) (l:List ByteArray) {ms:List (Option (Nat × Nat))} {p:Nat→Prop} (h:∀ c,some (w.heap.size,c) ∉ ms) :
    Holds (w.alloc (.cells (l.map Value.string).toArray ty)) (fun k=>(w.heap.size≤k∨p k)∧∀ c,some (k,c) ∉ ms) (.slice .str) l [.slice (some ⟨w.heap.size,0,none⟩) l.length l.length]:=by
  have hc:(w.alloc (.cells (l.map Value.string).toArray ty)).heap[w.heap.size]? = some (.cells (l.map Value.string).toArray ty (0,0)):=by
    show (w.heap.push _)[w.heap.size]? = _
    exact Array.getElem?_push_size
  simp only [Holds]
  refine ⟨some ⟨w.heap.size,0,none⟩,l.length,rfl,Nat.le_refl _,fun i hi=>⟨w.heap.size,0,[.string l[i]],rfl,⟨Or.inl (Nat.le_refl _),h⟩,rfl,fun j c hj=>?_⟩⟩
  cases j with
  | succ j=>simp at hj
  | zero =>
    simp only [List.getElem?_cons_zero,Option.some.injEq] at hj
    subst hj
    rw [cell_row hc]
    have e:0+i*Ty.str.size+0=i:=by show 0+i*1+0=i;omega
    rw [e]
    show (l.map Value.string)[i]? = _
    rw [List.getElem?_map,List.getElem?_eq_getElem hi];rfl
def semSplit (s t:ByteArray):Option (List ByteArray) :=
  bif decide (s.size<4294967281∧1≤t.size) then some (Lib.splitB t 0 (Lib.countB s t) s) else none
theorem ok_Split (hf:P.funcs[f]? = some fn) (hn:decide (fn.name = "runtime.NumGoroutine")=false) (hb:fn.body.isSome=true) {g:Nat} (hM:Maxs g G) {ty:TypeId}
    (h:∀ (s t:ByteArray) (m:Int) (w:World),s.size<4294967281→w.cell? ⟨g,0,none⟩=some (.int .i64 m)→1≤t.size →
      Calls P f #[.string s,.string t] w fun e w'=>e = .returned (.slice (some ⟨w.heap.size,0,none⟩) (Lib.countB s t+1) (Lib.countB s t+1))∧w'=w.alloc (.cells ((Lib.splitB t 0 (Lib.countB s t) s).map Value.string).toArray ty)) :
    CSpec.ok P G f { params:=[.str,.str],res:=[(.slice .str,false)],fresh:=true,sem:=fun x=>semSplit x.1 x.2.1 }:=by
  refine ⟨⟨fn,hf,of_decide_eq_false hn,hb⟩,fun w hG S args x r ha hs=>?_⟩
  cases args_two ha
  have hs:semSplit x.1 x.2.1=some r:=hs
  unfold semSplit at hs
  obtain ⟨h1,hs⟩:=cond_none hs
  have h1:=of_decide_eq_true h1
  cases hs
  obtain ⟨m,hm⟩:=hM w hG
  refine (h x.1 x.2.1 m w h1.1 hm h1.2).mono ?_
  rintro e w' ⟨rfl,rfl⟩
  have hl:=Lib.splitB_all x.2.1 h1.2 0 _ x.1 rfl
  refine ⟨(Below.refl _ _).alloc (Nat.le_refl _) _,[_],[],rfl,⟨fun k c hc=>by simp at hc,fun i j k c c' hi=>by simp at hi⟩,⟨rfl,?_⟩,NewTrees.plain rfl⟩
  rw [← hl]
  exact holds_strs w ty _ fun c hc=>by simp at hc
end
end Go.Proofs.YtnohkcklakipoaaGreatDoor.Ev

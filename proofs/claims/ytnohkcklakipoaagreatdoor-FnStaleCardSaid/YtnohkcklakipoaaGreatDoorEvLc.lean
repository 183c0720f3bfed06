/- Contracts of Go's package strings (bytes, trims, orders), as contracts that the evaluator takes. No program is named. -/
import Derived.Test.YtnohkcklakipoaaGreatDoorEvLb
import Derived.Shelf.Small.Strs
import Derived.Shelf.Strings.SlTrimAscii
namespace Go.Proofs.YtnohkcklakipoaaGreatDoor.Ev
open Go Go.RowKit
set_option linter.unusedVariables false
set_option linter.unusedSimpArgs false
section
variable {P:Program} {G:World→Prop} {f:FuncId} {fn:Func}
theorem ok_int (hf:P.funcs[f]? = some fn) (hn:decide (fn.name = "runtime.NumGoroutine")=false) (hb:fn.body.isSome=true) {ps:List Ty} {sem:denL ps→Option Int}
    (h:∀ w,G w→∀ (S:Nat→Prop) (args:List Value) x r,ArgsHold w S ps x args→sem x=some r→Calls P f args.toArray w fun e w'=>e = .returned (.int .i64 r)∧Below w.heap.size w w') :
    CSpec.ok P G f { params:=ps,res:=[(.int .i64,false)],fresh:=true,sem:=sem }:=by
  refine ⟨⟨fn,hf,of_decide_eq_false hn,hb⟩,fun w hG S args x r ha hs=>(h w hG S args x r ha hs).mono ?_⟩
  rintro e w' ⟨rfl,hb⟩
  exact ⟨hb,[.int .i64 r],[],rfl,⟨fun k c hc=>by simp at hc,fun i j k c c' hi=>by simp at hi⟩,⟨rfl,rfl⟩,NewTrees.plain rfl⟩
theorem args_two {w:World} {S:Nat→Prop} {x:denL [.str,.str]} {args:List Value} (ha:ArgsHold w S [.str,.str] x args):args=[.string x.1,.string x.2.1]:=by
  match args,ha with
  | [v,u],ha =>
    have hv:[v]=[Value.string x.1]:=ha.1
    have hu:[u]=[Value.string x.2.1]:=ha.2.1
    cases hv;cases hu;rfl
def semIndexByte (s:ByteArray) (c:Int):Option Int:=some (Lib.indexByte s.data.toList c.toNat.toUInt8)
theorem ok_IndexByte (hf:P.funcs[f]? = some fn) (hn:decide (fn.name = "runtime.NumGoroutine")=false) (hb:fn.body.isSome=true)
    (h:∀ (s:ByteArray) (c:Int) (w:World),Calls P f #[.string s,.int .u8 c] w fun e w'=>e = .returned (.int .i64 (Lib.indexByte s.data.toList c.toNat.toUInt8))∧w'=w) :
    CSpec.ok P G f { params:=[.str,.int .u8],res:=[(.int .i64,false)],fresh:=true,sem:=fun x=>semIndexByte x.1 x.2.1 }:=by
  refine ok_int hf hn hb fun w hw S args x r ha hs=>?_
  match args,ha with
  | [v,u],ha =>
    have hv:[v]=[Value.string x.1]:=ha.1
    have hu:[u]=[Value.int .u8 x.2.1]:=ha.2.1
    cases hv;cases hu
    cases hs
    refine (h x.1 x.2.1 w).mono ?_
    rintro e w' ⟨rfl,rfl⟩
    exact ⟨rfl,Below.refl _ _⟩
def semTrim (s cs:ByteArray):Option ByteArray :=
  bif decide (s.size≤9223372036854775807∧cs.size<4294967281)&&cs.data.toList.all (fun b=>decide (b.toNat<128)) then some ⟨(Lib.trimS s.data.toList cs.data.toList).toArray⟩ else none
theorem ok_Trim (hf:P.funcs[f]? = some fn) (hn:decide (fn.name = "runtime.NumGoroutine")=false) (hb:fn.body.isSome=true)
    (h:∀ (s cs:ByteArray) (w:World),s.size≤9223372036854775807→cs.size<4294967281→(∀ (j:Nat) b,cs.data.toList[j]? = some b→b.toNat<128) →
      Calls P f #[.string s,.string cs] w fun e w'=>e = .returned (.string ⟨(Lib.trimS s.data.toList cs.data.toList).toArray⟩)∧Below w.heap.size w w') :
    CSpec.ok P G f { params:=[.str,.str],res:=[(.str,false)],fresh:=true,sem:=fun x=>semTrim x.1 x.2.1 }:=by
  refine ok_str hf hn hb fun w hw S args x r ha hs=>?_
  cases args_two ha
  have hs:semTrim x.1 x.2.1=some r:=hs
  unfold semTrim at hs
  obtain ⟨h1,hs⟩:=cond_none hs
  rw [Bool.and_eq_true] at h1
  have h2:=of_decide_eq_true h1.1
  cases hs
  exact h x.1 x.2.1 w h2.1 h2.2 fun j b hb=>of_decide_eq_true (List.all_eq_true.mp h1.2 b (List.mem_of_getElem? hb))
end
end Go.Proofs.YtnohkcklakipoaaGreatDoor.Ev

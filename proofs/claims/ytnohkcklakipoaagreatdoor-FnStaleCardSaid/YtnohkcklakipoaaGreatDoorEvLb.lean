/- Contracts of Go's library, as contracts that the evaluator takes. No program is named. -/
import Derived.Test.YtnohkcklakipoaaGreatDoorEv6
import Derived.Shelf.Strings.OnBuilder
import Derived.Shelf.Strconv.Itoa3
import Derived.Lib.AtoiAll
import Derived.Lib.AtoiErrMem
import Derived.Lib.ItoaLen
import Derived.Stop.LaidErr
namespace Go.Proofs.YtnohkcklakipoaaGreatDoor.Ev
open Go Go.RowKit
set_option linter.unusedVariables false
set_option linter.unusedSimpArgs false
structure GoodW (P:Program) (G:World→Prop):Prop where
  lasts:Lasts G
  pow:∀ w,G w→Lib.TabIs P w "internal/strconv.uint64pow10" .u64 Lib.pow10Tab
theorem tab_below {P:Program} {n:String} {g:Nat} {k:IntKind} {zs:List Int} {w w':World} (hg:P.globalNamed n=some g) (h:Lib.TabIs P w n k zs) (hb:Below w.heap.size w w'):Lib.TabIs P w' n k zs:=by
  unfold Lib.TabIs World.var? at h ⊢
  rw [hg] at h ⊢
  simp only [Option.bind_some] at h ⊢
  have hlt:g<w.heap.size:=by
    rcases Nat.lt_or_ge g w.heap.size with h' | h'
    · exact h'
    · rw [Array.getElem?_eq_none h'] at h;cases h
  rw [hb.block g hlt]
  exact h
theorem below_grow (w:World) (k:Nat) (os:Array Obj):Below w.heap.size w (Sort.grow (w.drewN k) os):=by
  refine ⟨rfl,rfl,rfl,?_,fun i hi=>?_⟩
  · show w.heap.size≤(w.heap++os).size
    rw [Array.size_append];omega
  · show (w.heap++os)[i]? = w.heap[i]?
    rw [Array.getElem?_append_left hi]
section
variable {P:Program} {G:World→Prop} {f:FuncId} {fn:Func}
theorem ok_str (hf:P.funcs[f]? = some fn) (hn:decide (fn.name = "runtime.NumGoroutine")=false) (hb:fn.body.isSome=true) {ps:List Ty} {sem:denL ps→Option ByteArray}
    (h:∀ w,G w→∀ (S:Nat→Prop) (args:List Value) x r,ArgsHold w S ps x args→sem x=some r→Calls P f args.toArray w fun e w'=>e = .returned (.string r)∧Below w.heap.size w w') :
    CSpec.ok P G f { params:=ps,res:=[(.str,false)],fresh:=true,sem:=sem }:=by
  refine ⟨⟨fn,hf,of_decide_eq_false hn,hb⟩,fun w hG S args x r ha hs=>(h w hG S args x r ha hs).mono ?_⟩
  rintro e w' ⟨rfl,hb⟩
  exact ⟨hb,[.string r],[],rfl,⟨fun k c hc=>by simp at hc,fun i j k c c' hi=>by simp at hi⟩,⟨rfl,rfl⟩,NewTrees.plain rfl⟩
def semItoa (n:Int):Option ByteArray:=bif decide (-9223372036854775808≤n∧n≤9223372036854775807) then some ⟨(Lib.itoa n).toArray⟩ else none
theorem ok_Itoa (hf:P.funcs[f]? = some fn) (hn:decide (fn.name = "runtime.NumGoroutine")=false) (hb:fn.body.isSome=true) (hG:GoodW P G)
    (h:∀ (n:Int),-9223372036854775808≤n→n≤9223372036854775807→∀ w:World,Lib.TabIs P w "internal/strconv.uint64pow10" .u64 Lib.pow10Tab→Calls P f #[.int .i64 n] w fun e w'=>e = .returned (.string ⟨(Lib.itoa n).toArray⟩)∧∃ k os,w'=Sort.grow (w.drewN k) os) :
    CSpec.ok P G f { params:=[.int .i64],res:=[(.str,false)],fresh:=true,sem:=fun x=>semItoa x.1 }:=by
  refine ok_str hf hn hb fun w hw S args x r ha hs=>?_
  match args,ha with
  | [v],ha =>
    have hv:[v]=[Value.int .i64 x.1]:=ha.1
    cases hv
    unfold semItoa at hs
    have h1:=cond_none hs
    obtain ⟨h1,h2⟩:=h1
    have h1:=of_decide_eq_true h1
    cases h2
    refine (h x.1 h1.1 h1.2 w (hG.pow w hw)).mono ?_
    rintro e w' ⟨rfl,k,os,rfl⟩
    exact ⟨rfl,below_grow _ _ _⟩
def semJoin (l:List ByteArray) (sep:ByteArray):Option ByteArray :=
  bif decide (l.length≤140737488355328∧(Lib.join (l.map (·.data.toList)) sep.data.toList).length≤140737488355328) then some ⟨(Lib.join (l.map (·.data.toList)) sep.data.toList).toArray⟩ else none
theorem ok_Join (hf:P.funcs[f]? = some fn) (hn:decide (fn.name = "runtime.NumGoroutine")=false) (hb:fn.body.isSome=true)
    (h0:∀ (a:Option Addr) (c:Nat) (sep:ByteArray) (w:World),Calls P f #[.slice a 0 c,.string sep] w fun e w'=>e = .returned (.string ⟨#[]⟩)∧w'=w)
    (h:∀ (bk o c:Nat) (xs:List ByteArray) (sep:ByteArray) (w:World),(∀ (j:Nat) x,xs[j]? = some x→w.cell? ⟨bk,o+j,none⟩=some (.string x))→bk<w.heap.size→xs.length≤140737488355328→xs.length≤c →
      (Lib.join (xs.map (·.data.toList)) sep.data.toList).length≤140737488355328 →
      Calls P f #[.slice (some ⟨bk,o,none⟩) xs.length c,.string sep] w fun e w'=>e = .returned (.string ⟨(Lib.join (xs.map (·.data.toList)) sep.data.toList).toArray⟩)∧Below w.heap.size w w') :
    CSpec.ok P G f { params:=[.slice .str,.str],res:=[(.str,false)],fresh:=true,sem:=fun x=>semJoin x.1 x.2.1 }:=by
  refine ok_str hf hn hb fun w hw S args x r ha hs=>?_
  match args,ha with
  | [v,u],ha =>
    obtain ⟨l,sep,_⟩:=x
    have hu:[u]=[Value.string sep]:=ha.2.1
    cases hu
    have hv:Holds w S (.slice .str) l [v]:=ha.1
    simp only [Holds] at hv
    obtain ⟨a,cap,hv,hcap,hel⟩:=hv
    simp only [List.cons.injEq,and_true] at hv
    subst hv
    unfold semJoin at hs
    obtain ⟨h1,h2⟩:=cond_none hs
    have h1:=of_decide_eq_true h1
    cases h2
    cases l with
    | nil =>
      refine (h0 a cap sep w).mono ?_
      rintro e w' ⟨rfl,rfl⟩
      exact ⟨rfl,Below.refl _ _⟩
    | cons x l =>
      obtain ⟨blk,off,cs,rfl,hS,hcs,hcell⟩:=hel 0 (by simp)
      subst hcs
      have hc:∀ (j:Nat) y,(x :: l)[j]? = some y→w.cell? ⟨blk,off+j,none⟩=some (.string y):=by
        intro j y hj
        have hlt:j<(x :: l).length:=(List.getElem?_eq_some_iff.mp hj).1
        obtain ⟨blk',off',cs',e,_,hcs',hcell'⟩:=hel j hlt
        cases e
        subst hcs'
        have:=hcell' 0 _ rfl
        rw [List.getElem?_eq_getElem hlt] at hj
        cases hj
        simpa [Ty.size] using this
      exact h blk off cap (x :: l) sep w hc (cell_block (hcell 0 _ rfl)) h1.1 hcap h1.2
structure Errs (gs gr:Nat) (G:World→Prop):Prop where
  syn:∀ w,G w→∃ ev,w.cell? ⟨gs,0,none⟩=some ev∧(ev = .nilIface∨∃ te pe,ev = .iface te pe)
  rng:∀ w,G w→∃ ev,w.cell? ⟨gr,0,none⟩=some ev∧(ev = .nilIface∨∃ te pe,ev = .iface te pe)
theorem cell_lasts {w w':World} {g:Nat} {ev:Value} (h:w.cell? ⟨g,0,none⟩=some ev) (hb:Below w.heap.size w w'):w'.cell? ⟨g,0,none⟩=some ev:=by
  rw [cell_same (hb.block g (cell_block h)) 0];exact h
theorem err_of_laid {P:Program} {n nm:String} {d:DataW Unit} {r:List (String × DataW Unit)} {W:World} {g:Nat} {ti:TypeId} {ms:Array (String × TypeId)}
    (h:laidMet P ((n,.iface nm d) :: r) W) (hg:P.globalNamed n=some g) (ht:(P.globals[g]?).map (·.type)=some ti) (hi:P.underlying ti=some (.interface ms)) :
    ∃ ev,W.cell? ⟨g,0,none⟩=some ev∧(ev = .nilIface∨∃ te pe,ev = .iface te pe):=by
  obtain ⟨ps,⟨g0,t0,cs0,f0,p0,q0,hg0,ht0,hv0,hd0,_,e0⟩,_,hrows⟩:=h
  obtain rfl:=Option.some.inj (hg.symm.trans hg0)
  obtain rfl:=Option.some.inj (ht.symm.trans ht0)
  obtain ⟨l0⟩:=cs0
  obtain ⟨f1,u,v,rfl,_⟩:=iface_of_trod hi hd0
  exact ⟨.iface u v,by simpa using World.var?_cell hg0 hv0 0,Or.inr ⟨u,v,rfl⟩⟩
def semAtoi (s:ByteArray):Option (Int × Bool) :=
  bif decide (s.size≤281474976710656) then (match Lib.atoiAll s.data.toList with
    | .ok v=>some (v,false)
    | .range=>some (Lib.atoiSat s.data.toList,true)
    | _=>some (0,true)) else none
theorem ok_Atoi (hf:P.funcs[f]? = some fn) (hn:decide (fn.name = "runtime.NumGoroutine")=false) (hb:fn.body.isSome=true) {gs gr:Nat} (hA:Errs gs gr G) {bt:TypeId}
    (h1:∀ (s:ByteArray),s.size≤9223372036854775806→∀ v:Int,Lib.atoiAll s.data.toList = .ok v→∀ w:World,Calls P f #[.string s] w fun e w'=>e = .returned (.tuple #[.int .i64 v,.nilIface])∧(w'=w∨∃ t,w'=Lib.bytesWorld w bt t))
    (h2:∀ (s:ByteArray),s.size≤281474976710656→Lib.atoiAll s.data.toList = .range→∀ (ev:Value) (w:World),w.cell? ⟨gr,0,none⟩=some ev→(ev = .nilIface∨∃ te pe,ev = .iface te pe) →
      Calls P f #[.string s] w fun e w'=>∃ t p,e = .returned (.tuple #[.int .i64 (Lib.atoiSat s.data.toList),.iface t p])∧Below w.heap.size w w')
    (h3:∀ (s:ByteArray),s.size≤281474976710656→(∀ v,Lib.atoiAll s.data.toList ≠ .ok v)→Lib.atoiAll s.data.toList ≠ .range→∀ (ev:Value) (w:World),w.cell? ⟨gs,0,none⟩=some ev→(ev = .nilIface∨∃ te pe,ev = .iface te pe) →
      Calls P f #[.string s] w fun e w'=>∃ t p,e = .returned (.tuple #[.int .i64 0,.iface t p])∧Below w.heap.size w w') :
    CSpec.ok P G f { params:=[.str],res:=[(.int .i64,false),(.err,false)],fresh:=true,sem:=fun x=>semAtoi x.1 }:=by
  refine ⟨⟨fn,hf,of_decide_eq_false hn,hb⟩,fun w hG S args x r ha hs=>?_⟩
  have bad:∀ (n:Int) (t:TypeId) (p:Value) (w':World),Below w.heap.size w w'→CSpec.post { params:=[.str],res:=[(.int .i64,false),(.err,false)],fresh:=true,sem:=fun x=>semAtoi x.1 } w S (n,true) (.tuple #[.int .i64 n,.iface t p]) w' :=
    fun n t p w' hb=>⟨hb,[.int .i64 n,.iface t p],[],rfl,⟨fun k c hc=>by simp at hc,fun i j k c c' hi=>by simp at hi⟩,⟨[],[],rfl,⟨rfl,rfl⟩,rfl,⟨_,rfl,t,p,rfl⟩⟩,NewTrees.plain rfl⟩
  match args,ha with
  | [v],ha =>
    have hv:[v]=[Value.string x.1]:=ha.1
    cases hv
    have hs:semAtoi x.1=some r:=hs
    unfold semAtoi at hs
    obtain ⟨hsz,hs⟩:=cond_none hs
    have hsz:=of_decide_eq_true hsz
    obtain ⟨es,c1,c2⟩:=hA.syn w hG
    obtain ⟨er,d1,d2⟩:=hA.rng w hG
    split at hs
    · next n hn' =>
      cases hs
      refine (h1 x.1 (by omega) n hn' w).mono ?_
      rintro e w' ⟨rfl,hw⟩
      have hbel:Below w.heap.size w w':=by
        rcases hw with rfl | ⟨t,rfl⟩
        · exact Below.refl _ _
        · exact Lib.bytesWorld_below _ _ _
      exact ⟨hbel,[.int .i64 n,.nilIface],[],rfl,⟨fun k c hc=>by simp at hc,fun i j k c c' hi=>by simp at hi⟩,⟨[],[],rfl,⟨rfl,rfl⟩,rfl,⟨_,rfl,rfl⟩⟩,NewTrees.plain rfl⟩
    · next hn' =>
      cases hs
      refine (h2 x.1 hsz hn' er w d1 d2).mono ?_
      rintro e w' ⟨t,p,rfl,hbel⟩
      exact bad _ t p w' hbel
    · next g1 g2 =>
      cases hs
      refine (h3 x.1 hsz g1 g2 es w c1 c2).mono ?_
      rintro e w' ⟨t,p,rfl,hbel⟩
      exact bad _ t p w' hbel
end
end Go.Proofs.YtnohkcklakipoaaGreatDoor.Ev

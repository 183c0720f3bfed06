/- The functions that mark; the laws with marks. -/
import Derived.Test.YtigbabjhcihmaaaGreatDoorFns
import Derived.Test.YtigbabjhcihmaaaGreatDoorEv8
namespace Go.Proofs.YtigbabjhcihmaaaGreatDoor.Fns
open Go Go.RowKit Go.Proofs Go.Proofs.YtigbabjhcihmaaaGreatDoor.Ev
set_option maxRecDepth 1000000
set_option linter.unusedVariables false
def mo54 (k:Nat) (l:List D0) (n:Int):Option (List D0 × Int):=markAll (mkStep (txtF k) U0) l n
abbrev ms54 (k:Nat):MSpec:=⟨.slice U0,fun l n=>markAll (mkStep (txtF k) U0) l n⟩
theorem mp54:(fun k=>preRun ⟨(T (fun _ _=>⟨[],[],[],false⟩) k).cx [(53,S53 k)],Ev.look [],U0⟩ 29 5 (pre0Of Tryz.f54) (pre1Of Tryz.f54))=fun k n=>some n:=by kernel_rfl
theorem mr54:(fun k=>roundRun ⟨(T (fun _ _=>⟨[],[],[],false⟩) k).cx [(53,S53 k)],Ev.look [],U0⟩ 29 5 (roundOf Tryz.f54))=fun k=>mkStep (txtF k) U0:=by kernel_rfl
theorem mt54:(fun k=>stopRun ⟨(T (fun _ _=>⟨[],[],[],false⟩) k).cx [(53,S53 k)],Ev.look [],U0⟩ 29 5 (blkOf Tryz.f54) (roundOf Tryz.f54))=fun k n=>some n:=by kernel_rfl
theorem me54:(fun k=>postRun ⟨(T (fun _ _=>⟨[],[],[],false⟩) k).cx [(53,S53 k)],Ev.look [],U0⟩ 29 4 (postOf Tryz.f54))=fun k n=>some n:=by kernel_rfl
theorem mok54 (k:Nat):(ms54 k).ok Tryz.prog 54 :=
  mrows_ok (T_ok (fun _ _=>⟨[],[],[],false⟩) k) (calls:=[(53,S53 k)]) ⟨ok53 trueLasts k,trivial⟩ (marks:=[]) trivial Tryz.func54 (by kernel_rfl) (e:=U0) (step:=mkStep (txtF k) U0) (nt:=29) (is:=5) (rs:=4) (by kernel_rfl) (by kernel_rfl) (by kernel_rfl) (by decide) (by decide) (congrFun mp54 k) (congrFun mr54 k) (congrFun mt54 k) (congrFun me54 k)
def mo67 (k:Nat) (x:D1) (n:Int):Option (D1 × Int):=moC (txtF k) (Ty.inner U1) x n fun y n=>some (y,n)
abbrev ms67 (k:Nat):MSpec:=⟨U1,mo67 k⟩
theorem mw67:(fun k=>wholeRun ⟨(T (fun _ _=>⟨[],[],[],false⟩) k).cx [],Ev.look [(54,ms54 k)]⟩ 10 4 (bodyOf Tryz.f67) U1)=fun k=>mo67 k:=by kernel_rfl
theorem mok67 (k:Nat):(ms67 k).ok Tryz.prog 67 :=
  mwhole_ok (T_ok (fun _ _=>⟨[],[],[],false⟩) k) (calls:=[]) trivial (marks:=[(54,ms54 k)]) ⟨mok54 k,trivial⟩ Tryz.func67 (by kernel_rfl) (t:=U1) (nt:=10) (rs:=4) (sem:=mo67 k) (by kernel_rfl) (by kernel_rfl) (by kernel_rfl) (by decide) (by kernel_rfl) (by kernel_rfl) (congrFun mw67 k)
def mo21 (k:Nat) (x:D2) (n:Int):Option (D2 × Int):=moC (txtF k) (Ty.inner U2) x n fun y n=>some (y,n)
abbrev ms21 (k:Nat):MSpec:=⟨U2,mo21 k⟩
theorem mw21e:(fun k=>wholeRun ⟨(T (fun _ _=>⟨[],[],[],false⟩) k).cx [],Ev.look [(54,ms54 k),(67,ms67 k)]⟩ 14 4 (bodyOf Tryz.f21) U2)=fun k (x:D2) (n:Int)=>(mo54 k x.2.1 n).bind fun v=>(mo67 k x.2.2.1 v.2).bind fun r=>some ((((x.1,v.1,(x.2.2.1.1,r.1.2.1,x.2.2.1.2.2),x.2.2.2.1,x.2.2.2.2):D2)),r.2):=by kernel_rfl
theorem mo67e:(fun k (x:D1) (n:Int)=>mo67 k x n)=fun k x n=>(mo54 k x.2.1 n).bind fun v=>some (((x.1,v.1,x.2.2):D1),v.2):=by kernel_rfl
theorem mo21e:(fun k (x:D2) (n:Int)=>mo21 k x n)=fun k x n=>(mo54 k x.2.1 n).bind fun v=>(mo67 k x.2.2.1 v.2).bind fun r=>some (((x.1,v.1,r.1,x.2.2.2.1,x.2.2.2.2):D2),r.2):=by kernel_rfl
theorem mw21:(fun k=>wholeRun ⟨(T (fun _ _=>⟨[],[],[],false⟩) k).cx [],Ev.look [(54,ms54 k),(67,ms67 k)]⟩ 14 4 (bodyOf Tryz.f21) U2)=fun k=>mo21 k:=by
  rw [mw21e]
  funext k x n
  have h1:=congrFun (congrFun (congrFun mo21e k) x) n
  have h2:∀ y m,mo67 k y m=(mo54 k y.2.1 m).bind fun v=>some (((y.1,v.1,y.2.2):D1),v.2):=fun y m=>congrFun (congrFun (congrFun mo67e k) y) m
  rw [h1]
  cases mo54 k x.2.1 n with
  | none=>rfl
  | some v =>
    rw [Option.bind_some,Option.bind_some,h2]
    cases mo54 k x.2.2.1.2.1 v.2 with
    | none=>rfl
    | some q=>rfl
theorem mok21 (k:Nat):(ms21 k).ok Tryz.prog 21 :=
  mwhole_ok (T_ok (fun _ _=>⟨[],[],[],false⟩) k) (calls:=[]) trivial (marks:=[(54,ms54 k),(67,ms67 k)]) ⟨mok54 k,mok67 k,trivial⟩ Tryz.func21 (by kernel_rfl) (t:=U2) (nt:=14) (rs:=4) (sem:=mo21 k) (by kernel_rfl) (by kernel_rfl) (by kernel_rfl) (by decide) (by kernel_rfl) (by kernel_rfl) (congrFun mw21 k)
theorem hd22:F22=fun k (x:D2) n=>hoC k (txtF k) (Ty.inner U2) x n fun n=>some n:=by kernel_rfl
def F4 (k:Nat) (a0:ByteArray):Option (Bool) :=
  (bif (decide ((1048576:Int)<(a0.size:Int))) then some true else ((F18 k a0).bind fun r1=>((F19 k a0).bind fun r2=>((F20 k r2.1 r1.1).bind fun r3=>(bif (!r3) then some false else (bif (!(r2.2 == r1.2)) then some false else ((mo21 k r2.1 (1:Int)).bind fun r4=>((F22 k (r2.1.1,r4.1.2.1,(r2.1.2.2.1.1,r4.1.2.2.1.2.1,r2.1.2.2.1.2.2),r2.1.2.2.2.1,r2.1.2.2.2.2) (1:Int)).bind fun r5=>(bif (decide (r5<(0:Int))) then some false else (bif (!decide (r5=r4.2)) then some false else ((F19 k a0).bind fun r6=>((F20 k r6.1 r1.1).bind fun r7=>(bif (!r7) then some false else (bif (!(r6.2 == r1.2)) then some false else ((F22 k (r2.1.1,r4.1.2.1,(r2.1.2.2.1.1,r4.1.2.2.1.2.1,r2.1.2.2.1.2.2),r2.1.2.2.2.1,r2.1.2.2.2.2) (1:Int)).bind fun r8=>(bif (decide (r8<(0:Int))) then some false else (bif (!decide (r8=r4.2)) then some false else some true)))))))))))))))))
def S4 (k:Nat):CSpec:={ params:=[.str],res:=[(.bool,false)],fresh:=true,sem:=fun x=>F4 k x.1 }
theorem e4:(fun k x=>lawRun ⟨(T (fun _ _=>⟨[],[],[],false⟩) k).cx [(18,S18 k),(19,S19 k),(20,S20 k),(22,S22 k)],Ev.look [(21,ms21 k)]⟩ 66 2 (bodyOf Tryz.f4) [.str] (giveOlds [.str] x))=fun k=>(S4 k).sem:=by kernel_rfl
theorem ok4 {G:World→Prop} (hG:GoodW Tryz.prog G) (hA:Errs 1 2 G) (hM:Maxs 0 G) (k:Nat):(S4 k).ok Tryz.prog G 4:=mlaw_ok (T_ok (fun _ _=>⟨[],[],[],false⟩) k) hG.lasts (calls:=[(18,S18 k),(19,S19 k),(20,S20 k),(22,S22 k)]) ⟨ok18 hG.lasts k,ok19 hG hA hM k,ok20 hG.lasts k,ok22 hG.lasts k,trivial⟩ (marks:=[(21,ms21 k)]) ⟨mok21 k,trivial⟩ Tryz.func4 (by kernel_rfl) (nt:=66) (rs:=2) (by kernel_rfl) (by kernel_rfl) (by kernel_rfl) (congrFun e4 k)
end Go.Proofs.YtigbabjhcihmaaaGreatDoor.Fns

/- The functions that mark; the laws with marks. -/
import Derived.Test.YteliolfafmmhlaaFns
import Derived.Test.YteliolfafmmhlaaEv8
namespace Go.Proofs.Yteliolfafmmhlaa.Fns
open Go Go.RowKit Go.Proofs Go.Proofs.Yteliolfafmmhlaa.Ev
set_option maxRecDepth 1000000
set_option linter.unusedVariables false
theorem tx37 : F37 = txtF := by kernel_rfl

/-- loop.example/g01402/laws.markFieldS -/
def mo36 (k : Nat) (l : List D0) (n : Int) : Option (List D0 × Int) := markAll (mkStep (txtF k) U0) l n
abbrev ms36 (k : Nat) : MSpec := ⟨.slice U0, fun l n => markAll (mkStep (txtF k) U0) l n⟩
theorem mp36 : (fun k => preRun ⟨(T (fun _ _ => ⟨[], [], [], false⟩) k).cx [(37, S37 k)], Ev.look [], U0⟩ 29 5 (pre0Of Try.f36) (pre1Of Try.f36)) = fun k n => some n := by kernel_rfl
theorem mr36 : (fun k => roundRun ⟨(T (fun _ _ => ⟨[], [], [], false⟩) k).cx [(37, S37 k)], Ev.look [], U0⟩ 29 5 (roundOf Try.f36)) = fun k => mkStep (txtF k) U0 := by kernel_rfl
theorem mt36 : (fun k => stopRun ⟨(T (fun _ _ => ⟨[], [], [], false⟩) k).cx [(37, S37 k)], Ev.look [], U0⟩ 29 5 (blkOf Try.f36) (roundOf Try.f36)) = fun k n => some n := by kernel_rfl
theorem me36 : (fun k => postRun ⟨(T (fun _ _ => ⟨[], [], [], false⟩) k).cx [(37, S37 k)], Ev.look [], U0⟩ 29 4 (postOf Try.f36)) = fun k n => some n := by kernel_rfl
theorem mok36 (k : Nat) : (ms36 k).ok Try.prog 36 :=
  mrows_ok (T_ok (fun _ _ => ⟨[], [], [], false⟩) k) (calls := [(37, S37 k)]) ⟨ok37 trueLasts k, trivial⟩ (marks := []) trivial Try.func36 (by kernel_rfl) (e := U0) (step := mkStep (txtF k) U0) (nt := 29) (is := 5) (rs := 4) (by kernel_rfl) (by kernel_rfl) (by kernel_rfl) (by decide) (congrFun mp36 k) (congrFun mr36 k) (congrFun mt36 k) (congrFun me36 k)

/-- loop.example/g01402/laws.markToldS -/
def mo11 (k : Nat) (l : List D4) (n : Int) : Option (List D4 × Int) := markAll (mkStep (txtF k) U4) l n
abbrev ms11 (k : Nat) : MSpec := ⟨.slice U4, fun l n => markAll (mkStep (txtF k) U4) l n⟩
theorem mp11 : (fun k => preRun ⟨(T (fun _ _ => ⟨[], [], [], false⟩) k).cx [(37, S37 k)], Ev.look [(36, ms36 k)], U4⟩ 45 5 (pre0Of Try.f11) (pre1Of Try.f11)) = fun k n => some n := by kernel_rfl
theorem mr11 : (fun k => roundRun ⟨(T (fun _ _ => ⟨[], [], [], false⟩) k).cx [(37, S37 k)], Ev.look [(36, ms36 k)], U4⟩ 45 5 (roundOf Try.f11)) = fun k => mkStep (txtF k) U4 := by kernel_rfl
theorem mt11 : (fun k => stopRun ⟨(T (fun _ _ => ⟨[], [], [], false⟩) k).cx [(37, S37 k)], Ev.look [(36, ms36 k)], U4⟩ 45 5 (blkOf Try.f11) (roundOf Try.f11)) = fun k n => some n := by kernel_rfl
theorem me11 : (fun k => postRun ⟨(T (fun _ _ => ⟨[], [], [], false⟩) k).cx [(37, S37 k)], Ev.look [(36, ms36 k)], U4⟩ 45 4 (postOf Try.f11)) = fun k n => some n := by kernel_rfl
theorem mok11 (k : Nat) : (ms11 k).ok Try.prog 11 :=
  mrows_ok (T_ok (fun _ _ => ⟨[], [], [], false⟩) k) (calls := [(37, S37 k)]) ⟨ok37 trueLasts k, trivial⟩ (marks := [(36, ms36 k)]) ⟨mok36 k, trivial⟩ Try.func11 (by kernel_rfl) (e := U4) (step := mkStep (txtF k) U4) (nt := 45) (is := 5) (rs := 4) (by kernel_rfl) (by kernel_rfl) (by kernel_rfl) (by decide) (congrFun mp11 k) (congrFun mr11 k) (congrFun mt11 k) (congrFun me11 k)

/-- loop.example/g01402/laws.markConnS -/
def mo31 (k : Nat) (l : List D5) (n : Int) : Option (List D5 × Int) := markAll (mkStep (txtF k) U5) l n
abbrev ms31 (k : Nat) : MSpec := ⟨.slice U5, fun l n => markAll (mkStep (txtF k) U5) l n⟩
theorem mp31 : (fun k => preRun ⟨(T (fun _ _ => ⟨[], [], [], false⟩) k).cx [(37, S37 k)], Ev.look [(11, ms11 k), (36, ms36 k)], U5⟩ 244 5 (pre0Of Try.f31) (pre1Of Try.f31)) = fun k n => some n := by kernel_rfl
theorem mr31 : (fun k => roundRun ⟨(T (fun _ _ => ⟨[], [], [], false⟩) k).cx [(37, S37 k)], Ev.look [(11, ms11 k), (36, ms36 k)], U5⟩ 244 5 (roundOf Try.f31)) = fun k => mkStep (txtF k) U5 := by kernel_rfl
theorem mt31 : (fun k => stopRun ⟨(T (fun _ _ => ⟨[], [], [], false⟩) k).cx [(37, S37 k)], Ev.look [(11, ms11 k), (36, ms36 k)], U5⟩ 244 5 (blkOf Try.f31) (roundOf Try.f31)) = fun k n => some n := by kernel_rfl
theorem me31 : (fun k => postRun ⟨(T (fun _ _ => ⟨[], [], [], false⟩) k).cx [(37, S37 k)], Ev.look [(11, ms11 k), (36, ms36 k)], U5⟩ 244 4 (postOf Try.f31)) = fun k n => some n := by kernel_rfl
theorem mok31 (k : Nat) : (ms31 k).ok Try.prog 31 :=
  mrows_ok (T_ok (fun _ _ => ⟨[], [], [], false⟩) k) (calls := [(37, S37 k)]) ⟨ok37 trueLasts k, trivial⟩ (marks := [(11, ms11 k), (36, ms36 k)]) ⟨mok11 k, mok36 k, trivial⟩ Try.func31 (by kernel_rfl) (e := U5) (step := mkStep (txtF k) U5) (nt := 244) (is := 5) (rs := 4) (by kernel_rfl) (by kernel_rfl) (by kernel_rfl) (by decide) (congrFun mp31 k) (congrFun mr31 k) (congrFun mt31 k) (congrFun me31 k)

/-- loop.example/g01402/laws.markSlotS -/
def mo84 (k : Nat) (l : List D6) (n : Int) : Option (List D6 × Int) := markAll (mkStep (txtF k) U6) l n
abbrev ms84 (k : Nat) : MSpec := ⟨.slice U6, fun l n => markAll (mkStep (txtF k) U6) l n⟩
theorem mp84 : (fun k => preRun ⟨(T (fun _ _ => ⟨[], [], [], false⟩) k).cx [(37, S37 k)], Ev.look [(36, ms36 k)], U6⟩ 83 5 (pre0Of Try.f84) (pre1Of Try.f84)) = fun k n => some n := by kernel_rfl
theorem mr84 : (fun k => roundRun ⟨(T (fun _ _ => ⟨[], [], [], false⟩) k).cx [(37, S37 k)], Ev.look [(36, ms36 k)], U6⟩ 83 5 (roundOf Try.f84)) = fun k => mkStep (txtF k) U6 := by kernel_rfl
theorem mt84 : (fun k => stopRun ⟨(T (fun _ _ => ⟨[], [], [], false⟩) k).cx [(37, S37 k)], Ev.look [(36, ms36 k)], U6⟩ 83 5 (blkOf Try.f84) (roundOf Try.f84)) = fun k n => some n := by kernel_rfl
theorem me84 : (fun k => postRun ⟨(T (fun _ _ => ⟨[], [], [], false⟩) k).cx [(37, S37 k)], Ev.look [(36, ms36 k)], U6⟩ 83 4 (postOf Try.f84)) = fun k n => some n := by kernel_rfl
theorem mok84 (k : Nat) : (ms84 k).ok Try.prog 84 :=
  mrows_ok (T_ok (fun _ _ => ⟨[], [], [], false⟩) k) (calls := [(37, S37 k)]) ⟨ok37 trueLasts k, trivial⟩ (marks := [(36, ms36 k)]) ⟨mok36 k, trivial⟩ Try.func84 (by kernel_rfl) (e := U6) (step := mkStep (txtF k) U6) (nt := 83) (is := 5) (rs := 4) (by kernel_rfl) (by kernel_rfl) (by kernel_rfl) (by decide) (congrFun mp84 k) (congrFun mr84 k) (congrFun mt84 k) (congrFun me84 k)

/-- loop.example/g01402/laws.markShardS -/
def mo60 (k : Nat) (l : List D7) (n : Int) : Option (List D7 × Int) := markAll (mkStep (txtF k) U7) l n
abbrev ms60 (k : Nat) : MSpec := ⟨.slice U7, fun l n => markAll (mkStep (txtF k) U7) l n⟩
theorem mp60 : (fun k => preRun ⟨(T (fun _ _ => ⟨[], [], [], false⟩) k).cx [], Ev.look [(84, ms84 k)], U7⟩ 41 5 (pre0Of Try.f60) (pre1Of Try.f60)) = fun k n => some n := by kernel_rfl
theorem mr60 : (fun k => roundRun ⟨(T (fun _ _ => ⟨[], [], [], false⟩) k).cx [], Ev.look [(84, ms84 k)], U7⟩ 41 5 (roundOf Try.f60)) = fun k => mkStep (txtF k) U7 := by kernel_rfl
theorem mt60 : (fun k => stopRun ⟨(T (fun _ _ => ⟨[], [], [], false⟩) k).cx [], Ev.look [(84, ms84 k)], U7⟩ 41 5 (blkOf Try.f60) (roundOf Try.f60)) = fun k n => some n := by kernel_rfl
theorem me60 : (fun k => postRun ⟨(T (fun _ _ => ⟨[], [], [], false⟩) k).cx [], Ev.look [(84, ms84 k)], U7⟩ 41 4 (postOf Try.f60)) = fun k n => some n := by kernel_rfl
theorem mok60 (k : Nat) : (ms60 k).ok Try.prog 60 :=
  mrows_ok (T_ok (fun _ _ => ⟨[], [], [], false⟩) k) (calls := []) trivial (marks := [(84, ms84 k)]) ⟨mok84 k, trivial⟩ Try.func60 (by kernel_rfl) (e := U7) (step := mkStep (txtF k) U7) (nt := 41) (is := 5) (rs := 4) (by kernel_rfl) (by kernel_rfl) (by kernel_rfl) (by decide) (congrFun mp60 k) (congrFun mr60 k) (congrFun mt60 k) (congrFun me60 k)

/-- loop.example/g01402/laws.markGenRowS -/
def mo61 (k : Nat) (l : List D8) (n : Int) : Option (List D8 × Int) := markAll (mkStep (txtF k) U8) l n
abbrev ms61 (k : Nat) : MSpec := ⟨.slice U8, fun l n => markAll (mkStep (txtF k) U8) l n⟩
theorem mp61 : (fun k => preRun ⟨(T (fun _ _ => ⟨[], [], [], false⟩) k).cx [(37, S37 k)], Ev.look [], U8⟩ 28 5 (pre0Of Try.f61) (pre1Of Try.f61)) = fun k n => some n := by kernel_rfl
theorem mr61 : (fun k => roundRun ⟨(T (fun _ _ => ⟨[], [], [], false⟩) k).cx [(37, S37 k)], Ev.look [], U8⟩ 28 5 (roundOf Try.f61)) = fun k => mkStep (txtF k) U8 := by kernel_rfl
theorem mt61 : (fun k => stopRun ⟨(T (fun _ _ => ⟨[], [], [], false⟩) k).cx [(37, S37 k)], Ev.look [], U8⟩ 28 5 (blkOf Try.f61) (roundOf Try.f61)) = fun k n => some n := by kernel_rfl
theorem me61 : (fun k => postRun ⟨(T (fun _ _ => ⟨[], [], [], false⟩) k).cx [(37, S37 k)], Ev.look [], U8⟩ 28 4 (postOf Try.f61)) = fun k n => some n := by kernel_rfl
theorem mok61 (k : Nat) : (ms61 k).ok Try.prog 61 :=
  mrows_ok (T_ok (fun _ _ => ⟨[], [], [], false⟩) k) (calls := [(37, S37 k)]) ⟨ok37 trueLasts k, trivial⟩ (marks := []) trivial Try.func61 (by kernel_rfl) (e := U8) (step := mkStep (txtF k) U8) (nt := 28) (is := 5) (rs := 4) (by kernel_rfl) (by kernel_rfl) (by kernel_rfl) (by decide) (congrFun mp61 k) (congrFun mr61 k) (congrFun mt61 k) (congrFun me61 k)

/-- loop.example/g01402/laws.markCache -/
def mo32 (k : Nat) (x : D9) (n : Int) : Option (D9 × Int) := moC (txtF k) (Ty.inner U9) x n fun y n => some (y, n)
abbrev ms32 (k : Nat) : MSpec := ⟨U9, mo32 k⟩
theorem mw32 : (fun k => wholeRun ⟨(T (fun _ _ => ⟨[], [], [], false⟩) k).cx [], Ev.look [(60, ms60 k), (61, ms61 k)]⟩ 14 4 (bodyOf Try.f32) U9) = fun k => mo32 k := by kernel_rfl
theorem mok32 (k : Nat) : (ms32 k).ok Try.prog 32 :=
  mwhole_ok (T_ok (fun _ _ => ⟨[], [], [], false⟩) k) (calls := []) trivial (marks := [(60, ms60 k), (61, ms61 k)]) ⟨mok60 k, mok61 k, trivial⟩ Try.func32 (by kernel_rfl) (t := U9) (nt := 14) (rs := 4) (sem := mo32 k) (by kernel_rfl) (by kernel_rfl) (by kernel_rfl) (by decide) (by kernel_rfl) (by kernel_rfl) (congrFun mw32 k)

/-- loop.example/g01402/laws.markFlightS -/
def mo33 (k : Nat) (l : List D10) (n : Int) : Option (List D10 × Int) := markAll (mkStep (txtF k) U10) l n
abbrev ms33 (k : Nat) : MSpec := ⟨.slice U10, fun l n => markAll (mkStep (txtF k) U10) l n⟩
theorem mp33 : (fun k => preRun ⟨(T (fun _ _ => ⟨[], [], [], false⟩) k).cx [(37, S37 k)], Ev.look [(36, ms36 k)], U10⟩ 129 5 (pre0Of Try.f33) (pre1Of Try.f33)) = fun k n => some n := by kernel_rfl
theorem mr33 : (fun k => roundRun ⟨(T (fun _ _ => ⟨[], [], [], false⟩) k).cx [(37, S37 k)], Ev.look [(36, ms36 k)], U10⟩ 129 5 (roundOf Try.f33)) = fun k => mkStep (txtF k) U10 := by kernel_rfl
theorem mt33 : (fun k => stopRun ⟨(T (fun _ _ => ⟨[], [], [], false⟩) k).cx [(37, S37 k)], Ev.look [(36, ms36 k)], U10⟩ 129 5 (blkOf Try.f33) (roundOf Try.f33)) = fun k n => some n := by kernel_rfl
theorem me33 : (fun k => postRun ⟨(T (fun _ _ => ⟨[], [], [], false⟩) k).cx [(37, S37 k)], Ev.look [(36, ms36 k)], U10⟩ 129 4 (postOf Try.f33)) = fun k n => some n := by kernel_rfl
theorem mok33 (k : Nat) : (ms33 k).ok Try.prog 33 :=
  mrows_ok (T_ok (fun _ _ => ⟨[], [], [], false⟩) k) (calls := [(37, S37 k)]) ⟨ok37 trueLasts k, trivial⟩ (marks := [(36, ms36 k)]) ⟨mok36 k, trivial⟩ Try.func33 (by kernel_rfl) (e := U10) (step := mkStep (txtF k) U10) (nt := 129) (is := 5) (rs := 4) (by kernel_rfl) (by kernel_rfl) (by kernel_rfl) (by decide) (congrFun mp33 k) (congrFun mr33 k) (congrFun mt33 k) (congrFun me33 k)

/-- loop.example/g01402/laws.markResS -/
def mo62 (k : Nat) (l : List D11) (n : Int) : Option (List D11 × Int) := markAll (mkStep (txtF k) U11) l n
abbrev ms62 (k : Nat) : MSpec := ⟨.slice U11, fun l n => markAll (mkStep (txtF k) U11) l n⟩
theorem mp62 : (fun k => preRun ⟨(T (fun _ _ => ⟨[], [], [], false⟩) k).cx [(37, S37 k)], Ev.look [(36, ms36 k)], U11⟩ 68 5 (pre0Of Try.f62) (pre1Of Try.f62)) = fun k n => some n := by kernel_rfl
theorem mr62 : (fun k => roundRun ⟨(T (fun _ _ => ⟨[], [], [], false⟩) k).cx [(37, S37 k)], Ev.look [(36, ms36 k)], U11⟩ 68 5 (roundOf Try.f62)) = fun k => mkStep (txtF k) U11 := by kernel_rfl
theorem mt62 : (fun k => stopRun ⟨(T (fun _ _ => ⟨[], [], [], false⟩) k).cx [(37, S37 k)], Ev.look [(36, ms36 k)], U11⟩ 68 5 (blkOf Try.f62) (roundOf Try.f62)) = fun k n => some n := by kernel_rfl
theorem me62 : (fun k => postRun ⟨(T (fun _ _ => ⟨[], [], [], false⟩) k).cx [(37, S37 k)], Ev.look [(36, ms36 k)], U11⟩ 68 4 (postOf Try.f62)) = fun k n => some n := by kernel_rfl
theorem mok62 (k : Nat) : (ms62 k).ok Try.prog 62 :=
  mrows_ok (T_ok (fun _ _ => ⟨[], [], [], false⟩) k) (calls := [(37, S37 k)]) ⟨ok37 trueLasts k, trivial⟩ (marks := [(36, ms36 k)]) ⟨mok36 k, trivial⟩ Try.func62 (by kernel_rfl) (e := U11) (step := mkStep (txtF k) U11) (nt := 68) (is := 5) (rs := 4) (by kernel_rfl) (by kernel_rfl) (by kernel_rfl) (by decide) (congrFun mp62 k) (congrFun mr62 k) (congrFun mt62 k) (congrFun me62 k)

/-- loop.example/g01402/laws.markOrigin -/
def mo34 (k : Nat) (x : D12) (n : Int) : Option (D12 × Int) := moC (txtF k) (Ty.inner U12) x n fun y n => some (y, n)
abbrev ms34 (k : Nat) : MSpec := ⟨U12, mo34 k⟩
theorem mw34 : (fun k => wholeRun ⟨(T (fun _ _ => ⟨[], [], [], false⟩) k).cx [], Ev.look [(62, ms62 k)]⟩ 10 4 (bodyOf Try.f34) U12) = fun k => mo34 k := by kernel_rfl
theorem mok34 (k : Nat) : (ms34 k).ok Try.prog 34 :=
  mwhole_ok (T_ok (fun _ _ => ⟨[], [], [], false⟩) k) (calls := []) trivial (marks := [(62, ms62 k)]) ⟨mok62 k, trivial⟩ Try.func34 (by kernel_rfl) (t := U12) (nt := 10) (rs := 4) (sem := mo34 k) (by kernel_rfl) (by kernel_rfl) (by kernel_rfl) (by decide) (by kernel_rfl) (by kernel_rfl) (congrFun mw34 k)

/-- loop.example/g01402/laws.markEventS -/
def mo35 (k : Nat) (l : List D13) (n : Int) : Option (List D13 × Int) := markAll (mkStep (txtF k) U13) l n
abbrev ms35 (k : Nat) : MSpec := ⟨.slice U13, fun l n => markAll (mkStep (txtF k) U13) l n⟩
theorem mp35 : (fun k => preRun ⟨(T (fun _ _ => ⟨[], [], [], false⟩) k).cx [(37, S37 k)], Ev.look [], U13⟩ 56 5 (pre0Of Try.f35) (pre1Of Try.f35)) = fun k n => some n := by kernel_rfl
theorem mr35 : (fun k => roundRun ⟨(T (fun _ _ => ⟨[], [], [], false⟩) k).cx [(37, S37 k)], Ev.look [], U13⟩ 56 5 (roundOf Try.f35)) = fun k => mkStep (txtF k) U13 := by kernel_rfl
theorem mt35 : (fun k => stopRun ⟨(T (fun _ _ => ⟨[], [], [], false⟩) k).cx [(37, S37 k)], Ev.look [], U13⟩ 56 5 (blkOf Try.f35) (roundOf Try.f35)) = fun k n => some n := by kernel_rfl
theorem me35 : (fun k => postRun ⟨(T (fun _ _ => ⟨[], [], [], false⟩) k).cx [(37, S37 k)], Ev.look [], U13⟩ 56 4 (postOf Try.f35)) = fun k n => some n := by kernel_rfl
theorem mok35 (k : Nat) : (ms35 k).ok Try.prog 35 :=
  mrows_ok (T_ok (fun _ _ => ⟨[], [], [], false⟩) k) (calls := [(37, S37 k)]) ⟨ok37 trueLasts k, trivial⟩ (marks := []) trivial Try.func35 (by kernel_rfl) (e := U13) (step := mkStep (txtF k) U13) (nt := 56) (is := 5) (rs := 4) (by kernel_rfl) (by kernel_rfl) (by kernel_rfl) (by decide) (congrFun mp35 k) (congrFun mr35 k) (congrFun mt35 k) (congrFun me35 k)

/-- loop.example/g01402/laws.markWorld -/
def mo10 (k : Nat) (x : D14) (n : Int) : Option (D14 × Int) := moC (txtF k) (Ty.inner U14) x n fun y n => some (y, n)
abbrev ms10 (k : Nat) : MSpec := ⟨U14, mo10 k⟩
theorem mw10 : (fun k => wholeRun ⟨(T (fun _ _ => ⟨[], [], [], false⟩) k).cx [], Ev.look [(31, ms31 k), (32, ms32 k), (33, ms33 k), (34, ms34 k), (35, ms35 k)]⟩ 26 4 (bodyOf Try.f10) U14) = fun k => mo10 k := by kernel_rfl
theorem mok10 (k : Nat) : (ms10 k).ok Try.prog 10 :=
  mwhole_ok (T_ok (fun _ _ => ⟨[], [], [], false⟩) k) (calls := []) trivial (marks := [(31, ms31 k), (32, ms32 k), (33, ms33 k), (34, ms34 k), (35, ms35 k)]) ⟨mok31 k, mok32 k, mok33 k, mok34 k, mok35 k, trivial⟩ Try.func10 (by kernel_rfl) (t := U14) (nt := 26) (rs := 4) (sem := mo10 k) (by kernel_rfl) (by kernel_rfl) (by kernel_rfl) (by decide) (by kernel_rfl) (by kernel_rfl) (congrFun mw10 k)

theorem hd12 : F12 = fun k l n => hdAll k (hdC k (txtF k) U4) (Ty.zero U4) l n := by kernel_rfl

theorem hd38 : F38 = fun k l n => hdAll k (hdC k (txtF k) U0) (Ty.zero U0) l n := by kernel_rfl

/-- loop.example/g01402/laws.FnExactAnswers -/
def F3 (k : Nat) (a0 : D14) : Option (Bool) :=
  ((F4 k a0 (1048576 : Int)).bind fun r1 => (bif (decide (r1 < (0 : Int))) then some true else ((F6 k a0).bind fun r2 => ((F5 k r2).bind fun r3 => ((F6 k a0).bind fun r4 => ((F7 k r4).bind fun r5 => ((F8 k r5 r3).bind fun r6 => (bif (!r6) then some false else ((F6 k a0).bind fun r7 => ((F9 k r4 r7).bind fun r8 => (bif (!r8) then some false else ((mo10 k r4 (1 : Int)).bind fun r9 => (bif (decide (r9.2 < (0 : Int))) then some false else ((F8 k r5 r3).bind fun r10 => (bif (!r10) then some false else ((mo11 k r5 (1 : Int)).bind fun r11 => ((F12 k r11.1 (1 : Int)).bind fun r12 => (bif (decide (r12 < (0 : Int))) then some false else (bif (!decide (r12 = r11.2)) then some false else ((F6 k a0).bind fun r13 => ((F7 k r13).bind fun r14 => ((F8 k r14 r3).bind fun r15 => (bif (!r15) then some false else ((F12 k r11.1 (1 : Int)).bind fun r16 => (bif (decide (r16 < (0 : Int))) then some false else (bif (!decide (r16 = r11.2)) then some false else some true))))))))))))))))))))))))))
def S3 (k : Nat) : CSpec := { params := [U14], res := [(.bool, false)], fresh := true, sem := fun x => F3 k x.1 }
theorem e3 : (fun k x => lawRun ⟨(T (fun _ _ => ⟨[], [], [], false⟩) k).cx [(4, S4 k), (5, S5 k), (6, S6 k), (7, S7 k), (8, S8 k), (9, S9 k), (12, S12 k)], Ev.look [(10, ms10 k), (11, ms11 k)]⟩ 69 2 (bodyOf Try.f3) [U14] (giveOlds [U14] x)) = fun k => (S3 k).sem := by kernel_rfl
theorem ok3 {G : World → Prop} (hG : Lasts G) (k : Nat) : (S3 k).ok Try.prog G 3 := mlaw_ok (T_ok (fun _ _ => ⟨[], [], [], false⟩) k) hG (calls := [(4, S4 k), (5, S5 k), (6, S6 k), (7, S7 k), (8, S8 k), (9, S9 k), (12, S12 k)]) ⟨ok4 hG k, ok5 hG k, ok6 hG k, ok7 hG k, ok8 hG k, ok9 hG k, ok12 hG k, trivial⟩ (marks := [(10, ms10 k), (11, ms11 k)]) ⟨mok10 k, mok11 k, trivial⟩ Try.func3 (by kernel_rfl) (nt := 69) (rs := 2) (by kernel_rfl) (by kernel_rfl) (by kernel_rfl) (congrFun e3 k)
end Go.Proofs.Yteliolfafmmhlaa.Fns

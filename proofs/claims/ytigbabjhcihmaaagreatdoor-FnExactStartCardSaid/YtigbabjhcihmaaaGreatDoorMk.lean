/- The functions that mark; the laws with marks. -/
import Derived.Test.YtigbabjhcihmaaaGreatDoorFns
import Derived.Test.YtigbabjhcihmaaaGreatDoorEv8
namespace Go.Proofs.YtigbabjhcihmaaaGreatDoor.Fns
open Go Go.RowKit Go.Proofs Go.Proofs.YtigbabjhcihmaaaGreatDoor.Ev
set_option maxRecDepth 1000000
set_option linter.unusedVariables false
theorem tx53 : F53 = txtF := by kernel_rfl

/-- loop.example/g01402/laws.markStringS -/
def mo86 (k : Nat) (l : List ByteArray) (n : Int) : Option (List ByteArray × Int) := markAll (mkStep (txtF k) .str) l n
abbrev ms86 (k : Nat) : MSpec := ⟨.slice .str, fun l n => markAll (mkStep (txtF k) .str) l n⟩
theorem mp86 : (fun k => preRun ⟨(T (fun _ _ => ⟨[], [], [], false⟩) k).cx [(53, S53 k)], Ev.look [], .str⟩ 20 5 (pre0Of Tryz.f86) (pre1Of Tryz.f86)) = fun k n => some n := by kernel_rfl
theorem mr86 : (fun k => roundRun ⟨(T (fun _ _ => ⟨[], [], [], false⟩) k).cx [(53, S53 k)], Ev.look [], .str⟩ 20 5 (roundOf Tryz.f86)) = fun k => mkStep (txtF k) .str := by kernel_rfl
theorem mt86 : (fun k => stopRun ⟨(T (fun _ _ => ⟨[], [], [], false⟩) k).cx [(53, S53 k)], Ev.look [], .str⟩ 20 5 (blkOf Tryz.f86) (roundOf Tryz.f86)) = fun k n => some n := by kernel_rfl
theorem me86 : (fun k => postRun ⟨(T (fun _ _ => ⟨[], [], [], false⟩) k).cx [(53, S53 k)], Ev.look [], .str⟩ 20 4 (postOf Tryz.f86)) = fun k n => some n := by kernel_rfl
theorem mok86 (k : Nat) : (ms86 k).ok Tryz.prog 86 :=
  mrows_ok (T_ok (fun _ _ => ⟨[], [], [], false⟩) k) (calls := [(53, S53 k)]) ⟨ok53 trueLasts k, trivial⟩ (marks := []) trivial Tryz.func86 (by kernel_rfl) (e := .str) (step := mkStep (txtF k) .str) (nt := 20) (is := 5) (rs := 4) (by kernel_rfl) (by kernel_rfl) (by kernel_rfl) (by decide) (congrFun mp86 k) (congrFun mr86 k) (congrFun mt86 k) (congrFun me86 k)

/-- loop.example/g01402/laws.markFieldS -/
def mo54 (k : Nat) (l : List D0) (n : Int) : Option (List D0 × Int) := markAll (mkStep (txtF k) U0) l n
abbrev ms54 (k : Nat) : MSpec := ⟨.slice U0, fun l n => markAll (mkStep (txtF k) U0) l n⟩
theorem mp54 : (fun k => preRun ⟨(T (fun _ _ => ⟨[], [], [], false⟩) k).cx [(53, S53 k)], Ev.look [], U0⟩ 29 5 (pre0Of Tryz.f54) (pre1Of Tryz.f54)) = fun k n => some n := by kernel_rfl
theorem mr54 : (fun k => roundRun ⟨(T (fun _ _ => ⟨[], [], [], false⟩) k).cx [(53, S53 k)], Ev.look [], U0⟩ 29 5 (roundOf Tryz.f54)) = fun k => mkStep (txtF k) U0 := by kernel_rfl
theorem mt54 : (fun k => stopRun ⟨(T (fun _ _ => ⟨[], [], [], false⟩) k).cx [(53, S53 k)], Ev.look [], U0⟩ 29 5 (blkOf Tryz.f54) (roundOf Tryz.f54)) = fun k n => some n := by kernel_rfl
theorem me54 : (fun k => postRun ⟨(T (fun _ _ => ⟨[], [], [], false⟩) k).cx [(53, S53 k)], Ev.look [], U0⟩ 29 4 (postOf Tryz.f54)) = fun k n => some n := by kernel_rfl
theorem mok54 (k : Nat) : (ms54 k).ok Tryz.prog 54 :=
  mrows_ok (T_ok (fun _ _ => ⟨[], [], [], false⟩) k) (calls := [(53, S53 k)]) ⟨ok53 trueLasts k, trivial⟩ (marks := []) trivial Tryz.func54 (by kernel_rfl) (e := U0) (step := mkStep (txtF k) U0) (nt := 29) (is := 5) (rs := 4) (by kernel_rfl) (by kernel_rfl) (by kernel_rfl) (by decide) (congrFun mp54 k) (congrFun mr54 k) (congrFun mt54 k) (congrFun me54 k)

/-- loop.example/g01402/laws.markResS -/
def mo185 (k : Nat) (l : List D1) (n : Int) : Option (List D1 × Int) := markAll (mkStep (txtF k) U1) l n
abbrev ms185 (k : Nat) : MSpec := ⟨.slice U1, fun l n => markAll (mkStep (txtF k) U1) l n⟩
theorem mp185 : (fun k => preRun ⟨(T (fun _ _ => ⟨[], [], [], false⟩) k).cx [(53, S53 k)], Ev.look [(54, ms54 k)], U1⟩ 68 5 (pre0Of Tryz.f185) (pre1Of Tryz.f185)) = fun k n => some n := by kernel_rfl
theorem mr185 : (fun k => roundRun ⟨(T (fun _ _ => ⟨[], [], [], false⟩) k).cx [(53, S53 k)], Ev.look [(54, ms54 k)], U1⟩ 68 5 (roundOf Tryz.f185)) = fun k => mkStep (txtF k) U1 := by kernel_rfl
theorem mt185 : (fun k => stopRun ⟨(T (fun _ _ => ⟨[], [], [], false⟩) k).cx [(53, S53 k)], Ev.look [(54, ms54 k)], U1⟩ 68 5 (blkOf Tryz.f185) (roundOf Tryz.f185)) = fun k n => some n := by kernel_rfl
theorem me185 : (fun k => postRun ⟨(T (fun _ _ => ⟨[], [], [], false⟩) k).cx [(53, S53 k)], Ev.look [(54, ms54 k)], U1⟩ 68 4 (postOf Tryz.f185)) = fun k n => some n := by kernel_rfl
theorem mok185 (k : Nat) : (ms185 k).ok Tryz.prog 185 :=
  mrows_ok (T_ok (fun _ _ => ⟨[], [], [], false⟩) k) (calls := [(53, S53 k)]) ⟨ok53 trueLasts k, trivial⟩ (marks := [(54, ms54 k)]) ⟨mok54 k, trivial⟩ Tryz.func185 (by kernel_rfl) (e := U1) (step := mkStep (txtF k) U1) (nt := 68) (is := 5) (rs := 4) (by kernel_rfl) (by kernel_rfl) (by kernel_rfl) (by decide) (congrFun mp185 k) (congrFun mr185 k) (congrFun mt185 k) (congrFun me185 k)

/-- loop.example/g01402/laws.markOrigin -/
def mo87 (k : Nat) (x : D2) (n : Int) : Option (D2 × Int) := moC (txtF k) (Ty.inner U2) x n fun y n => some (y, n)
abbrev ms87 (k : Nat) : MSpec := ⟨U2, mo87 k⟩
theorem mw87 : (fun k => wholeRun ⟨(T (fun _ _ => ⟨[], [], [], false⟩) k).cx [], Ev.look [(185, ms185 k)]⟩ 10 4 (bodyOf Tryz.f87) U2) = fun k => mo87 k := by kernel_rfl
theorem mok87 (k : Nat) : (ms87 k).ok Tryz.prog 87 :=
  mwhole_ok (T_ok (fun _ _ => ⟨[], [], [], false⟩) k) (calls := []) trivial (marks := [(185, ms185 k)]) ⟨mok185 k, trivial⟩ Tryz.func87 (by kernel_rfl) (t := U2) (nt := 10) (rs := 4) (sem := mo87 k) (by kernel_rfl) (by kernel_rfl) (by kernel_rfl) (by decide) (by kernel_rfl) (by kernel_rfl) (congrFun mw87 k)

/-- loop.example/g01402/laws.markEntryS -/
def mo88 (k : Nat) (l : List D3) (n : Int) : Option (List D3 × Int) := markAll (mkStep (txtF k) U3) l n
abbrev ms88 (k : Nat) : MSpec := ⟨.slice U3, fun l n => markAll (mkStep (txtF k) U3) l n⟩
theorem mp88 : (fun k => preRun ⟨(T (fun _ _ => ⟨[], [], [], false⟩) k).cx [(53, S53 k)], Ev.look [], U3⟩ 35 5 (pre0Of Tryz.f88) (pre1Of Tryz.f88)) = fun k n => some n := by kernel_rfl
theorem mr88 : (fun k => roundRun ⟨(T (fun _ _ => ⟨[], [], [], false⟩) k).cx [(53, S53 k)], Ev.look [], U3⟩ 35 5 (roundOf Tryz.f88)) = fun k => mkStep (txtF k) U3 := by kernel_rfl
theorem mt88 : (fun k => stopRun ⟨(T (fun _ _ => ⟨[], [], [], false⟩) k).cx [(53, S53 k)], Ev.look [], U3⟩ 35 5 (blkOf Tryz.f88) (roundOf Tryz.f88)) = fun k n => some n := by kernel_rfl
theorem me88 : (fun k => postRun ⟨(T (fun _ _ => ⟨[], [], [], false⟩) k).cx [(53, S53 k)], Ev.look [], U3⟩ 35 4 (postOf Tryz.f88)) = fun k n => some n := by kernel_rfl
theorem mok88 (k : Nat) : (ms88 k).ok Tryz.prog 88 :=
  mrows_ok (T_ok (fun _ _ => ⟨[], [], [], false⟩) k) (calls := [(53, S53 k)]) ⟨ok53 trueLasts k, trivial⟩ (marks := []) trivial Tryz.func88 (by kernel_rfl) (e := U3) (step := mkStep (txtF k) U3) (nt := 35) (is := 5) (rs := 4) (by kernel_rfl) (by kernel_rfl) (by kernel_rfl) (by decide) (congrFun mp88 k) (congrFun mr88 k) (congrFun mt88 k) (congrFun me88 k)

/-- loop.example/g01402/laws.markScript -/
def mo29 (k : Nat) (x : D4) (n : Int) : Option (D4 × Int) := moC (txtF k) (Ty.inner U4) x n fun y n => some (y, n)
abbrev ms29 (k : Nat) : MSpec := ⟨U4, mo29 k⟩
theorem mw29 : (fun k => wholeRun ⟨(T (fun _ _ => ⟨[], [], [], false⟩) k).cx [], Ev.look [(86, ms86 k), (87, ms87 k), (88, ms88 k)]⟩ 18 4 (bodyOf Tryz.f29) U4) = fun k => mo29 k := by kernel_rfl
theorem mok29 (k : Nat) : (ms29 k).ok Tryz.prog 29 :=
  mwhole_ok (T_ok (fun _ _ => ⟨[], [], [], false⟩) k) (calls := []) trivial (marks := [(86, ms86 k), (87, ms87 k), (88, ms88 k)]) ⟨mok86 k, mok87 k, mok88 k, trivial⟩ Tryz.func29 (by kernel_rfl) (t := U4) (nt := 18) (rs := 4) (sem := mo29 k) (by kernel_rfl) (by kernel_rfl) (by kernel_rfl) (by decide) (by kernel_rfl) (by kernel_rfl) (congrFun mw29 k)

/-- loop.example/g01402/laws.markToldS -/
def mo186 (k : Nat) (l : List D12) (n : Int) : Option (List D12 × Int) := markAll (mkStep (txtF k) U12) l n
abbrev ms186 (k : Nat) : MSpec := ⟨.slice U12, fun l n => markAll (mkStep (txtF k) U12) l n⟩
theorem mp186 : (fun k => preRun ⟨(T (fun _ _ => ⟨[], [], [], false⟩) k).cx [(53, S53 k)], Ev.look [(54, ms54 k)], U12⟩ 45 5 (pre0Of Tryz.f186) (pre1Of Tryz.f186)) = fun k n => some n := by kernel_rfl
theorem mr186 : (fun k => roundRun ⟨(T (fun _ _ => ⟨[], [], [], false⟩) k).cx [(53, S53 k)], Ev.look [(54, ms54 k)], U12⟩ 45 5 (roundOf Tryz.f186)) = fun k => mkStep (txtF k) U12 := by kernel_rfl
theorem mt186 : (fun k => stopRun ⟨(T (fun _ _ => ⟨[], [], [], false⟩) k).cx [(53, S53 k)], Ev.look [(54, ms54 k)], U12⟩ 45 5 (blkOf Tryz.f186) (roundOf Tryz.f186)) = fun k n => some n := by kernel_rfl
theorem me186 : (fun k => postRun ⟨(T (fun _ _ => ⟨[], [], [], false⟩) k).cx [(53, S53 k)], Ev.look [(54, ms54 k)], U12⟩ 45 4 (postOf Tryz.f186)) = fun k n => some n := by kernel_rfl
theorem mok186 (k : Nat) : (ms186 k).ok Tryz.prog 186 :=
  mrows_ok (T_ok (fun _ _ => ⟨[], [], [], false⟩) k) (calls := [(53, S53 k)]) ⟨ok53 trueLasts k, trivial⟩ (marks := [(54, ms54 k)]) ⟨mok54 k, trivial⟩ Tryz.func186 (by kernel_rfl) (e := U12) (step := mkStep (txtF k) U12) (nt := 45) (is := 5) (rs := 4) (by kernel_rfl) (by kernel_rfl) (by kernel_rfl) (by decide) (congrFun mp186 k) (congrFun mr186 k) (congrFun mt186 k) (congrFun me186 k)

/-- loop.example/g01402/laws.markConnS -/
def mo89 (k : Nat) (l : List D13) (n : Int) : Option (List D13 × Int) := markAll (mkStep (txtF k) U13) l n
abbrev ms89 (k : Nat) : MSpec := ⟨.slice U13, fun l n => markAll (mkStep (txtF k) U13) l n⟩
theorem mp89 : (fun k => preRun ⟨(T (fun _ _ => ⟨[], [], [], false⟩) k).cx [(53, S53 k)], Ev.look [(54, ms54 k), (186, ms186 k)], U13⟩ 244 5 (pre0Of Tryz.f89) (pre1Of Tryz.f89)) = fun k n => some n := by kernel_rfl
theorem mr89 : (fun k => roundRun ⟨(T (fun _ _ => ⟨[], [], [], false⟩) k).cx [(53, S53 k)], Ev.look [(54, ms54 k), (186, ms186 k)], U13⟩ 244 5 (roundOf Tryz.f89)) = fun k => mkStep (txtF k) U13 := by kernel_rfl
theorem mt89 : (fun k => stopRun ⟨(T (fun _ _ => ⟨[], [], [], false⟩) k).cx [(53, S53 k)], Ev.look [(54, ms54 k), (186, ms186 k)], U13⟩ 244 5 (blkOf Tryz.f89) (roundOf Tryz.f89)) = fun k n => some n := by kernel_rfl
theorem me89 : (fun k => postRun ⟨(T (fun _ _ => ⟨[], [], [], false⟩) k).cx [(53, S53 k)], Ev.look [(54, ms54 k), (186, ms186 k)], U13⟩ 244 4 (postOf Tryz.f89)) = fun k n => some n := by kernel_rfl
theorem mok89 (k : Nat) : (ms89 k).ok Tryz.prog 89 :=
  mrows_ok (T_ok (fun _ _ => ⟨[], [], [], false⟩) k) (calls := [(53, S53 k)]) ⟨ok53 trueLasts k, trivial⟩ (marks := [(54, ms54 k), (186, ms186 k)]) ⟨mok54 k, mok186 k, trivial⟩ Tryz.func89 (by kernel_rfl) (e := U13) (step := mkStep (txtF k) U13) (nt := 244) (is := 5) (rs := 4) (by kernel_rfl) (by kernel_rfl) (by kernel_rfl) (by decide) (congrFun mp89 k) (congrFun mr89 k) (congrFun mt89 k) (congrFun me89 k)

/-- loop.example/g01402/laws.markSlotS -/
def mo137 (k : Nat) (l : List D7) (n : Int) : Option (List D7 × Int) := markAll (mkStep (txtF k) U7) l n
abbrev ms137 (k : Nat) : MSpec := ⟨.slice U7, fun l n => markAll (mkStep (txtF k) U7) l n⟩
theorem mp137 : (fun k => preRun ⟨(T (fun _ _ => ⟨[], [], [], false⟩) k).cx [(53, S53 k)], Ev.look [(54, ms54 k)], U7⟩ 83 5 (pre0Of Tryz.f137) (pre1Of Tryz.f137)) = fun k n => some n := by kernel_rfl
theorem mr137 : (fun k => roundRun ⟨(T (fun _ _ => ⟨[], [], [], false⟩) k).cx [(53, S53 k)], Ev.look [(54, ms54 k)], U7⟩ 83 5 (roundOf Tryz.f137)) = fun k => mkStep (txtF k) U7 := by kernel_rfl
theorem mt137 : (fun k => stopRun ⟨(T (fun _ _ => ⟨[], [], [], false⟩) k).cx [(53, S53 k)], Ev.look [(54, ms54 k)], U7⟩ 83 5 (blkOf Tryz.f137) (roundOf Tryz.f137)) = fun k n => some n := by kernel_rfl
theorem me137 : (fun k => postRun ⟨(T (fun _ _ => ⟨[], [], [], false⟩) k).cx [(53, S53 k)], Ev.look [(54, ms54 k)], U7⟩ 83 4 (postOf Tryz.f137)) = fun k n => some n := by kernel_rfl
theorem mok137 (k : Nat) : (ms137 k).ok Tryz.prog 137 :=
  mrows_ok (T_ok (fun _ _ => ⟨[], [], [], false⟩) k) (calls := [(53, S53 k)]) ⟨ok53 trueLasts k, trivial⟩ (marks := [(54, ms54 k)]) ⟨mok54 k, trivial⟩ Tryz.func137 (by kernel_rfl) (e := U7) (step := mkStep (txtF k) U7) (nt := 83) (is := 5) (rs := 4) (by kernel_rfl) (by kernel_rfl) (by kernel_rfl) (by decide) (congrFun mp137 k) (congrFun mr137 k) (congrFun mt137 k) (congrFun me137 k)

/-- loop.example/g01402/laws.markShardS -/
def mo51 (k : Nat) (l : List D8) (n : Int) : Option (List D8 × Int) := markAll (mkStep (txtF k) U8) l n
abbrev ms51 (k : Nat) : MSpec := ⟨.slice U8, fun l n => markAll (mkStep (txtF k) U8) l n⟩
theorem mp51 : (fun k => preRun ⟨(T (fun _ _ => ⟨[], [], [], false⟩) k).cx [], Ev.look [(137, ms137 k)], U8⟩ 41 5 (pre0Of Tryz.f51) (pre1Of Tryz.f51)) = fun k n => some n := by kernel_rfl
theorem mr51 : (fun k => roundRun ⟨(T (fun _ _ => ⟨[], [], [], false⟩) k).cx [], Ev.look [(137, ms137 k)], U8⟩ 41 5 (roundOf Tryz.f51)) = fun k => mkStep (txtF k) U8 := by kernel_rfl
theorem mt51 : (fun k => stopRun ⟨(T (fun _ _ => ⟨[], [], [], false⟩) k).cx [], Ev.look [(137, ms137 k)], U8⟩ 41 5 (blkOf Tryz.f51) (roundOf Tryz.f51)) = fun k n => some n := by kernel_rfl
theorem me51 : (fun k => postRun ⟨(T (fun _ _ => ⟨[], [], [], false⟩) k).cx [], Ev.look [(137, ms137 k)], U8⟩ 41 4 (postOf Tryz.f51)) = fun k n => some n := by kernel_rfl
theorem mok51 (k : Nat) : (ms51 k).ok Tryz.prog 51 :=
  mrows_ok (T_ok (fun _ _ => ⟨[], [], [], false⟩) k) (calls := []) trivial (marks := [(137, ms137 k)]) ⟨mok137 k, trivial⟩ Tryz.func51 (by kernel_rfl) (e := U8) (step := mkStep (txtF k) U8) (nt := 41) (is := 5) (rs := 4) (by kernel_rfl) (by kernel_rfl) (by kernel_rfl) (by decide) (congrFun mp51 k) (congrFun mr51 k) (congrFun mt51 k) (congrFun me51 k)

/-- loop.example/g01402/laws.markGenRowS -/
def mo52 (k : Nat) (l : List D9) (n : Int) : Option (List D9 × Int) := markAll (mkStep (txtF k) U9) l n
abbrev ms52 (k : Nat) : MSpec := ⟨.slice U9, fun l n => markAll (mkStep (txtF k) U9) l n⟩
theorem mp52 : (fun k => preRun ⟨(T (fun _ _ => ⟨[], [], [], false⟩) k).cx [(53, S53 k)], Ev.look [], U9⟩ 28 5 (pre0Of Tryz.f52) (pre1Of Tryz.f52)) = fun k n => some n := by kernel_rfl
theorem mr52 : (fun k => roundRun ⟨(T (fun _ _ => ⟨[], [], [], false⟩) k).cx [(53, S53 k)], Ev.look [], U9⟩ 28 5 (roundOf Tryz.f52)) = fun k => mkStep (txtF k) U9 := by kernel_rfl
theorem mt52 : (fun k => stopRun ⟨(T (fun _ _ => ⟨[], [], [], false⟩) k).cx [(53, S53 k)], Ev.look [], U9⟩ 28 5 (blkOf Tryz.f52) (roundOf Tryz.f52)) = fun k n => some n := by kernel_rfl
theorem me52 : (fun k => postRun ⟨(T (fun _ _ => ⟨[], [], [], false⟩) k).cx [(53, S53 k)], Ev.look [], U9⟩ 28 4 (postOf Tryz.f52)) = fun k n => some n := by kernel_rfl
theorem mok52 (k : Nat) : (ms52 k).ok Tryz.prog 52 :=
  mrows_ok (T_ok (fun _ _ => ⟨[], [], [], false⟩) k) (calls := [(53, S53 k)]) ⟨ok53 trueLasts k, trivial⟩ (marks := []) trivial Tryz.func52 (by kernel_rfl) (e := U9) (step := mkStep (txtF k) U9) (nt := 28) (is := 5) (rs := 4) (by kernel_rfl) (by kernel_rfl) (by kernel_rfl) (by decide) (congrFun mp52 k) (congrFun mr52 k) (congrFun mt52 k) (congrFun me52 k)

/-- loop.example/g01402/laws.markCache -/
def mo15 (k : Nat) (x : D10) (n : Int) : Option (D10 × Int) := moC (txtF k) (Ty.inner U10) x n fun y n => some (y, n)
abbrev ms15 (k : Nat) : MSpec := ⟨U10, mo15 k⟩
theorem mw15 : (fun k => wholeRun ⟨(T (fun _ _ => ⟨[], [], [], false⟩) k).cx [], Ev.look [(51, ms51 k), (52, ms52 k)]⟩ 14 4 (bodyOf Tryz.f15) U10) = fun k => mo15 k := by kernel_rfl
theorem mok15 (k : Nat) : (ms15 k).ok Tryz.prog 15 :=
  mwhole_ok (T_ok (fun _ _ => ⟨[], [], [], false⟩) k) (calls := []) trivial (marks := [(51, ms51 k), (52, ms52 k)]) ⟨mok51 k, mok52 k, trivial⟩ Tryz.func15 (by kernel_rfl) (t := U10) (nt := 14) (rs := 4) (sem := mo15 k) (by kernel_rfl) (by kernel_rfl) (by kernel_rfl) (by decide) (by kernel_rfl) (by kernel_rfl) (congrFun mw15 k)

/-- loop.example/g01402/laws.markFlightS -/
def mo90 (k : Nat) (l : List D14) (n : Int) : Option (List D14 × Int) := markAll (mkStep (txtF k) U14) l n
abbrev ms90 (k : Nat) : MSpec := ⟨.slice U14, fun l n => markAll (mkStep (txtF k) U14) l n⟩
theorem mp90 : (fun k => preRun ⟨(T (fun _ _ => ⟨[], [], [], false⟩) k).cx [(53, S53 k)], Ev.look [(54, ms54 k)], U14⟩ 129 5 (pre0Of Tryz.f90) (pre1Of Tryz.f90)) = fun k n => some n := by kernel_rfl
theorem mr90 : (fun k => roundRun ⟨(T (fun _ _ => ⟨[], [], [], false⟩) k).cx [(53, S53 k)], Ev.look [(54, ms54 k)], U14⟩ 129 5 (roundOf Tryz.f90)) = fun k => mkStep (txtF k) U14 := by kernel_rfl
theorem mt90 : (fun k => stopRun ⟨(T (fun _ _ => ⟨[], [], [], false⟩) k).cx [(53, S53 k)], Ev.look [(54, ms54 k)], U14⟩ 129 5 (blkOf Tryz.f90) (roundOf Tryz.f90)) = fun k n => some n := by kernel_rfl
theorem me90 : (fun k => postRun ⟨(T (fun _ _ => ⟨[], [], [], false⟩) k).cx [(53, S53 k)], Ev.look [(54, ms54 k)], U14⟩ 129 4 (postOf Tryz.f90)) = fun k n => some n := by kernel_rfl
theorem mok90 (k : Nat) : (ms90 k).ok Tryz.prog 90 :=
  mrows_ok (T_ok (fun _ _ => ⟨[], [], [], false⟩) k) (calls := [(53, S53 k)]) ⟨ok53 trueLasts k, trivial⟩ (marks := [(54, ms54 k)]) ⟨mok54 k, trivial⟩ Tryz.func90 (by kernel_rfl) (e := U14) (step := mkStep (txtF k) U14) (nt := 129) (is := 5) (rs := 4) (by kernel_rfl) (by kernel_rfl) (by kernel_rfl) (by decide) (congrFun mp90 k) (congrFun mr90 k) (congrFun mt90 k) (congrFun me90 k)

/-- loop.example/g01402/laws.markEventS -/
def mo91 (k : Nat) (l : List D15) (n : Int) : Option (List D15 × Int) := markAll (mkStep (txtF k) U15) l n
abbrev ms91 (k : Nat) : MSpec := ⟨.slice U15, fun l n => markAll (mkStep (txtF k) U15) l n⟩
theorem mp91 : (fun k => preRun ⟨(T (fun _ _ => ⟨[], [], [], false⟩) k).cx [(53, S53 k)], Ev.look [], U15⟩ 56 5 (pre0Of Tryz.f91) (pre1Of Tryz.f91)) = fun k n => some n := by kernel_rfl
theorem mr91 : (fun k => roundRun ⟨(T (fun _ _ => ⟨[], [], [], false⟩) k).cx [(53, S53 k)], Ev.look [], U15⟩ 56 5 (roundOf Tryz.f91)) = fun k => mkStep (txtF k) U15 := by kernel_rfl
theorem mt91 : (fun k => stopRun ⟨(T (fun _ _ => ⟨[], [], [], false⟩) k).cx [(53, S53 k)], Ev.look [], U15⟩ 56 5 (blkOf Tryz.f91) (roundOf Tryz.f91)) = fun k n => some n := by kernel_rfl
theorem me91 : (fun k => postRun ⟨(T (fun _ _ => ⟨[], [], [], false⟩) k).cx [(53, S53 k)], Ev.look [], U15⟩ 56 4 (postOf Tryz.f91)) = fun k n => some n := by kernel_rfl
theorem mok91 (k : Nat) : (ms91 k).ok Tryz.prog 91 :=
  mrows_ok (T_ok (fun _ _ => ⟨[], [], [], false⟩) k) (calls := [(53, S53 k)]) ⟨ok53 trueLasts k, trivial⟩ (marks := []) trivial Tryz.func91 (by kernel_rfl) (e := U15) (step := mkStep (txtF k) U15) (nt := 56) (is := 5) (rs := 4) (by kernel_rfl) (by kernel_rfl) (by kernel_rfl) (by decide) (congrFun mp91 k) (congrFun mr91 k) (congrFun mt91 k) (congrFun me91 k)

/-- loop.example/g01402/laws.markWorld -/
def mo30 (k : Nat) (x : D16) (n : Int) : Option (D16 × Int) := moC (txtF k) (Ty.inner U16) x n fun y n => some (y, n)
abbrev ms30 (k : Nat) : MSpec := ⟨U16, mo30 k⟩
theorem mw30 : (fun k => wholeRun ⟨(T (fun _ _ => ⟨[], [], [], false⟩) k).cx [], Ev.look [(15, ms15 k), (87, ms87 k), (89, ms89 k), (90, ms90 k), (91, ms91 k)]⟩ 26 4 (bodyOf Tryz.f30) U16) = fun k => mo30 k := by kernel_rfl
theorem mok30 (k : Nat) : (ms30 k).ok Tryz.prog 30 :=
  mwhole_ok (T_ok (fun _ _ => ⟨[], [], [], false⟩) k) (calls := []) trivial (marks := [(15, ms15 k), (87, ms87 k), (89, ms89 k), (90, ms90 k), (91, ms91 k)]) ⟨mok15 k, mok87 k, mok89 k, mok90 k, mok91 k, trivial⟩ Tryz.func30 (by kernel_rfl) (t := U16) (nt := 26) (rs := 4) (sem := mo30 k) (by kernel_rfl) (by kernel_rfl) (by kernel_rfl) (by decide) (by kernel_rfl) (by kernel_rfl) (congrFun mw30 k)

theorem hd17 : F17 = fun k (x : D10) n => hoC k (txtF k) (Ty.inner U10) x n fun n => some n := by kernel_rfl

theorem hd31 : F31 = fun k (x : D16) n => hoC k (txtF k) (Ty.inner U16) x n fun n => some n := by kernel_rfl

theorem hd55 : F55 = fun k l n => hdAll k (hdC k (txtF k) U8) (Ty.zero U8) l n := by kernel_rfl

theorem hd56 : F56 = fun k l n => hdAll k (hdC k (txtF k) U9) (Ty.zero U9) l n := by kernel_rfl

theorem hd68 : F68 = fun k l n => hdAll k (hdC k (txtF k) U0) (Ty.zero U0) l n := by kernel_rfl

theorem hd92 : F92 = fun k l n => hdAll k (hdC k (txtF k) U13) (Ty.zero U13) l n := by kernel_rfl

theorem hd93 : F93 = fun k l n => hdAll k (hdC k (txtF k) U14) (Ty.zero U14) l n := by kernel_rfl

theorem hd94 : F94 = fun k (x : D2) n => hoC k (txtF k) (Ty.inner U2) x n fun n => some n := by kernel_rfl

theorem hd95 : F95 = fun k l n => hdAll k (hdC k (txtF k) U15) (Ty.zero U15) l n := by kernel_rfl

theorem hd138 : F138 = fun k l n => hdAll k (hdC k (txtF k) U7) (Ty.zero U7) l n := by kernel_rfl

theorem hd187 : F187 = fun k l n => hdAll k (hdC k (txtF k) U12) (Ty.zero U12) l n := by kernel_rfl

theorem hd188 : F188 = fun k l n => hdAll k (hdC k (txtF k) U1) (Ty.zero U1) l n := by kernel_rfl

/-- loop.example/g01402/laws.FnExactStart -/
def F5 (k : Nat) (a0 : D4) : Option (Bool) :=
  ((F23 k a0 (1048576 : Int)).bind fun r1 => (bif (decide (r1 < (0 : Int))) then some true else ((F25 k a0).bind fun r2 => ((F24 k r2).bind fun r3 => ((F25 k a0).bind fun r4 => ((F26 k r4).bind fun r5 => ((F27 k r5 r3).bind fun r6 => (bif (!r6) then some false else ((F25 k a0).bind fun r7 => ((F28 k r4 r7).bind fun r8 => (bif (!r8) then some false else ((mo29 k r4 (1 : Int)).bind fun r9 => (bif (decide (r9.2 < (0 : Int))) then some false else ((F27 k r5 r3).bind fun r10 => (bif (!r10) then some false else ((mo30 k r5 (1 : Int)).bind fun r11 => ((F31 k (r5.1, r5.2.1, r11.1.2.2.1, r11.1.2.2.2.1, r11.1.2.2.2.2.1, r11.1.2.2.2.2.2.1, r11.1.2.2.2.2.2.2) (1 : Int)).bind fun r12 => (bif (decide (r12 < (0 : Int))) then some false else (bif (!decide (r12 = r11.2)) then some false else ((F25 k a0).bind fun r13 => ((F26 k r13).bind fun r14 => ((F27 k r14 r3).bind fun r15 => (bif (!r15) then some false else ((F31 k (r5.1, r5.2.1, r11.1.2.2.1, r11.1.2.2.2.1, r11.1.2.2.2.2.1, r11.1.2.2.2.2.2.1, r11.1.2.2.2.2.2.2) (1 : Int)).bind fun r16 => (bif (decide (r16 < (0 : Int))) then some false else (bif (!decide (r16 = r11.2)) then some false else some true))))))))))))))))))))))))))
def S5 (k : Nat) : CSpec := { params := [U4], res := [(.bool, false)], fresh := true, sem := fun x => F5 k x.1 }
theorem e5 : (fun k x => lawRun ⟨(T (fun _ _ => ⟨[], [], [], false⟩) k).cx [(23, S23 k), (24, S24 k), (25, S25 k), (26, S26 k), (27, S27 k), (28, S28 k), (31, S31 k)], Ev.look [(29, ms29 k), (30, ms30 k)]⟩ 69 2 (bodyOf Tryz.f5) [U4] (giveOlds [U4] x)) = fun k => (S5 k).sem := by kernel_rfl
theorem ok5 {G : World → Prop} (hG : Lasts G) (k : Nat) : (S5 k).ok Tryz.prog G 5 := mlaw_ok (T_ok (fun _ _ => ⟨[], [], [], false⟩) k) hG (calls := [(23, S23 k), (24, S24 k), (25, S25 k), (26, S26 k), (27, S27 k), (28, S28 k), (31, S31 k)]) ⟨ok23 hG k, ok24 hG k, ok25 hG k, ok26 hG k, ok27 hG k, ok28 hG k, ok31 hG k, trivial⟩ (marks := [(29, ms29 k), (30, ms30 k)]) ⟨mok29 k, mok30 k, trivial⟩ Tryz.func5 (by kernel_rfl) (nt := 69) (rs := 2) (by kernel_rfl) (by kernel_rfl) (by kernel_rfl) (congrFun e5 k)
end Go.Proofs.YtigbabjhcihmaaaGreatDoor.Fns

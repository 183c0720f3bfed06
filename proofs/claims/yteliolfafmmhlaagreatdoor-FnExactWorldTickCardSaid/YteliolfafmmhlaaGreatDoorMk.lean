/- The functions that mark; the laws with marks. -/
import Derived.Test.YteliolfafmmhlaaGreatDoorFns
import Derived.Test.YteliolfafmmhlaaGreatDoorEv8
namespace Go.Proofs.YteliolfafmmhlaaGreatDoor.Fns
open Go Go.RowKit Go.Proofs Go.Proofs.YteliolfafmmhlaaGreatDoor.Ev
set_option maxRecDepth 1000000
set_option linter.unusedVariables false
theorem tx58 : F58 = txtF := by kernel_rfl

/-- loop.example/g01402/laws.markStringS -/
def mo19 (k : Nat) (l : List ByteArray) (n : Int) : Option (List ByteArray × Int) := markAll (mkStep (txtF k) .str) l n
abbrev ms19 (k : Nat) : MSpec := ⟨.slice .str, fun l n => markAll (mkStep (txtF k) .str) l n⟩
theorem mp19 : (fun k => preRun ⟨(T (fun _ _ => ⟨[], [], [], false⟩) k).cx [(58, S58 k)], Ev.look [], .str⟩ 20 5 (pre0Of Tryz.f19) (pre1Of Tryz.f19)) = fun k n => some n := by kernel_rfl
theorem mr19 : (fun k => roundRun ⟨(T (fun _ _ => ⟨[], [], [], false⟩) k).cx [(58, S58 k)], Ev.look [], .str⟩ 20 5 (roundOf Tryz.f19)) = fun k => mkStep (txtF k) .str := by kernel_rfl
theorem mt19 : (fun k => stopRun ⟨(T (fun _ _ => ⟨[], [], [], false⟩) k).cx [(58, S58 k)], Ev.look [], .str⟩ 20 5 (blkOf Tryz.f19) (roundOf Tryz.f19)) = fun k n => some n := by kernel_rfl
theorem me19 : (fun k => postRun ⟨(T (fun _ _ => ⟨[], [], [], false⟩) k).cx [(58, S58 k)], Ev.look [], .str⟩ 20 4 (postOf Tryz.f19)) = fun k n => some n := by kernel_rfl
theorem mok19 (k : Nat) : (ms19 k).ok Tryz.prog 19 :=
  mrows_ok (T_ok (fun _ _ => ⟨[], [], [], false⟩) k) (calls := [(58, S58 k)]) ⟨ok58 trueLasts k, trivial⟩ (marks := []) trivial Tryz.func19 (by kernel_rfl) (e := .str) (step := mkStep (txtF k) .str) (nt := 20) (is := 5) (rs := 4) (by kernel_rfl) (by kernel_rfl) (by kernel_rfl) (by decide) (congrFun mp19 k) (congrFun mr19 k) (congrFun mt19 k) (congrFun me19 k)

/-- loop.example/g01402/laws.markFieldS -/
def mo115 (k : Nat) (l : List D0) (n : Int) : Option (List D0 × Int) := markAll (mkStep (txtF k) U0) l n
abbrev ms115 (k : Nat) : MSpec := ⟨.slice U0, fun l n => markAll (mkStep (txtF k) U0) l n⟩
theorem mp115 : (fun k => preRun ⟨(T (fun _ _ => ⟨[], [], [], false⟩) k).cx [(58, S58 k)], Ev.look [], U0⟩ 29 5 (pre0Of Tryz.f115) (pre1Of Tryz.f115)) = fun k n => some n := by kernel_rfl
theorem mr115 : (fun k => roundRun ⟨(T (fun _ _ => ⟨[], [], [], false⟩) k).cx [(58, S58 k)], Ev.look [], U0⟩ 29 5 (roundOf Tryz.f115)) = fun k => mkStep (txtF k) U0 := by kernel_rfl
theorem mt115 : (fun k => stopRun ⟨(T (fun _ _ => ⟨[], [], [], false⟩) k).cx [(58, S58 k)], Ev.look [], U0⟩ 29 5 (blkOf Tryz.f115) (roundOf Tryz.f115)) = fun k n => some n := by kernel_rfl
theorem me115 : (fun k => postRun ⟨(T (fun _ _ => ⟨[], [], [], false⟩) k).cx [(58, S58 k)], Ev.look [], U0⟩ 29 4 (postOf Tryz.f115)) = fun k n => some n := by kernel_rfl
theorem mok115 (k : Nat) : (ms115 k).ok Tryz.prog 115 :=
  mrows_ok (T_ok (fun _ _ => ⟨[], [], [], false⟩) k) (calls := [(58, S58 k)]) ⟨ok58 trueLasts k, trivial⟩ (marks := []) trivial Tryz.func115 (by kernel_rfl) (e := U0) (step := mkStep (txtF k) U0) (nt := 29) (is := 5) (rs := 4) (by kernel_rfl) (by kernel_rfl) (by kernel_rfl) (by decide) (congrFun mp115 k) (congrFun mr115 k) (congrFun mt115 k) (congrFun me115 k)

/-- loop.example/g01402/laws.markSlotS -/
def mo114 (k : Nat) (l : List D3) (n : Int) : Option (List D3 × Int) := markAll (mkStep (txtF k) U3) l n
abbrev ms114 (k : Nat) : MSpec := ⟨.slice U3, fun l n => markAll (mkStep (txtF k) U3) l n⟩
theorem mp114 : (fun k => preRun ⟨(T (fun _ _ => ⟨[], [], [], false⟩) k).cx [(58, S58 k)], Ev.look [(115, ms115 k)], U3⟩ 83 5 (pre0Of Tryz.f114) (pre1Of Tryz.f114)) = fun k n => some n := by kernel_rfl
theorem mr114 : (fun k => roundRun ⟨(T (fun _ _ => ⟨[], [], [], false⟩) k).cx [(58, S58 k)], Ev.look [(115, ms115 k)], U3⟩ 83 5 (roundOf Tryz.f114)) = fun k => mkStep (txtF k) U3 := by kernel_rfl
theorem mt114 : (fun k => stopRun ⟨(T (fun _ _ => ⟨[], [], [], false⟩) k).cx [(58, S58 k)], Ev.look [(115, ms115 k)], U3⟩ 83 5 (blkOf Tryz.f114) (roundOf Tryz.f114)) = fun k n => some n := by kernel_rfl
theorem me114 : (fun k => postRun ⟨(T (fun _ _ => ⟨[], [], [], false⟩) k).cx [(58, S58 k)], Ev.look [(115, ms115 k)], U3⟩ 83 4 (postOf Tryz.f114)) = fun k n => some n := by kernel_rfl
theorem mok114 (k : Nat) : (ms114 k).ok Tryz.prog 114 :=
  mrows_ok (T_ok (fun _ _ => ⟨[], [], [], false⟩) k) (calls := [(58, S58 k)]) ⟨ok58 trueLasts k, trivial⟩ (marks := [(115, ms115 k)]) ⟨mok115 k, trivial⟩ Tryz.func114 (by kernel_rfl) (e := U3) (step := mkStep (txtF k) U3) (nt := 83) (is := 5) (rs := 4) (by kernel_rfl) (by kernel_rfl) (by kernel_rfl) (by decide) (congrFun mp114 k) (congrFun mr114 k) (congrFun mt114 k) (congrFun me114 k)

/-- loop.example/g01402/laws.markShardS -/
def mo59 (k : Nat) (l : List D4) (n : Int) : Option (List D4 × Int) := markAll (mkStep (txtF k) U4) l n
abbrev ms59 (k : Nat) : MSpec := ⟨.slice U4, fun l n => markAll (mkStep (txtF k) U4) l n⟩
theorem mp59 : (fun k => preRun ⟨(T (fun _ _ => ⟨[], [], [], false⟩) k).cx [], Ev.look [(114, ms114 k)], U4⟩ 41 5 (pre0Of Tryz.f59) (pre1Of Tryz.f59)) = fun k n => some n := by kernel_rfl
theorem mr59 : (fun k => roundRun ⟨(T (fun _ _ => ⟨[], [], [], false⟩) k).cx [], Ev.look [(114, ms114 k)], U4⟩ 41 5 (roundOf Tryz.f59)) = fun k => mkStep (txtF k) U4 := by kernel_rfl
theorem mt59 : (fun k => stopRun ⟨(T (fun _ _ => ⟨[], [], [], false⟩) k).cx [], Ev.look [(114, ms114 k)], U4⟩ 41 5 (blkOf Tryz.f59) (roundOf Tryz.f59)) = fun k n => some n := by kernel_rfl
theorem me59 : (fun k => postRun ⟨(T (fun _ _ => ⟨[], [], [], false⟩) k).cx [], Ev.look [(114, ms114 k)], U4⟩ 41 4 (postOf Tryz.f59)) = fun k n => some n := by kernel_rfl
theorem mok59 (k : Nat) : (ms59 k).ok Tryz.prog 59 :=
  mrows_ok (T_ok (fun _ _ => ⟨[], [], [], false⟩) k) (calls := []) trivial (marks := [(114, ms114 k)]) ⟨mok114 k, trivial⟩ Tryz.func59 (by kernel_rfl) (e := U4) (step := mkStep (txtF k) U4) (nt := 41) (is := 5) (rs := 4) (by kernel_rfl) (by kernel_rfl) (by kernel_rfl) (by decide) (congrFun mp59 k) (congrFun mr59 k) (congrFun mt59 k) (congrFun me59 k)

/-- loop.example/g01402/laws.markGenRowS -/
def mo60 (k : Nat) (l : List D5) (n : Int) : Option (List D5 × Int) := markAll (mkStep (txtF k) U5) l n
abbrev ms60 (k : Nat) : MSpec := ⟨.slice U5, fun l n => markAll (mkStep (txtF k) U5) l n⟩
theorem mp60 : (fun k => preRun ⟨(T (fun _ _ => ⟨[], [], [], false⟩) k).cx [(58, S58 k)], Ev.look [], U5⟩ 28 5 (pre0Of Tryz.f60) (pre1Of Tryz.f60)) = fun k n => some n := by kernel_rfl
theorem mr60 : (fun k => roundRun ⟨(T (fun _ _ => ⟨[], [], [], false⟩) k).cx [(58, S58 k)], Ev.look [], U5⟩ 28 5 (roundOf Tryz.f60)) = fun k => mkStep (txtF k) U5 := by kernel_rfl
theorem mt60 : (fun k => stopRun ⟨(T (fun _ _ => ⟨[], [], [], false⟩) k).cx [(58, S58 k)], Ev.look [], U5⟩ 28 5 (blkOf Tryz.f60) (roundOf Tryz.f60)) = fun k n => some n := by kernel_rfl
theorem me60 : (fun k => postRun ⟨(T (fun _ _ => ⟨[], [], [], false⟩) k).cx [(58, S58 k)], Ev.look [], U5⟩ 28 4 (postOf Tryz.f60)) = fun k n => some n := by kernel_rfl
theorem mok60 (k : Nat) : (ms60 k).ok Tryz.prog 60 :=
  mrows_ok (T_ok (fun _ _ => ⟨[], [], [], false⟩) k) (calls := [(58, S58 k)]) ⟨ok58 trueLasts k, trivial⟩ (marks := []) trivial Tryz.func60 (by kernel_rfl) (e := U5) (step := mkStep (txtF k) U5) (nt := 28) (is := 5) (rs := 4) (by kernel_rfl) (by kernel_rfl) (by kernel_rfl) (by decide) (congrFun mp60 k) (congrFun mr60 k) (congrFun mt60 k) (congrFun me60 k)

/-- loop.example/g01402/laws.markCache -/
def mo20 (k : Nat) (x : D6) (n : Int) : Option (D6 × Int) := moC (txtF k) (Ty.inner U6) x n fun y n => some (y, n)
abbrev ms20 (k : Nat) : MSpec := ⟨U6, mo20 k⟩
theorem mw20 : (fun k => wholeRun ⟨(T (fun _ _ => ⟨[], [], [], false⟩) k).cx [], Ev.look [(59, ms59 k), (60, ms60 k)]⟩ 14 4 (bodyOf Tryz.f20) U6) = fun k => mo20 k := by kernel_rfl
theorem mok20 (k : Nat) : (ms20 k).ok Tryz.prog 20 :=
  mwhole_ok (T_ok (fun _ _ => ⟨[], [], [], false⟩) k) (calls := []) trivial (marks := [(59, ms59 k), (60, ms60 k)]) ⟨mok59 k, mok60 k, trivial⟩ Tryz.func20 (by kernel_rfl) (t := U6) (nt := 14) (rs := 4) (sem := mo20 k) (by kernel_rfl) (by kernel_rfl) (by kernel_rfl) (by decide) (by kernel_rfl) (by kernel_rfl) (congrFun mw20 k)

/-- loop.example/g01402/laws.markResS -/
def mo61 (k : Nat) (l : List D7) (n : Int) : Option (List D7 × Int) := markAll (mkStep (txtF k) U7) l n
abbrev ms61 (k : Nat) : MSpec := ⟨.slice U7, fun l n => markAll (mkStep (txtF k) U7) l n⟩
theorem mp61 : (fun k => preRun ⟨(T (fun _ _ => ⟨[], [], [], false⟩) k).cx [(58, S58 k)], Ev.look [(115, ms115 k)], U7⟩ 68 5 (pre0Of Tryz.f61) (pre1Of Tryz.f61)) = fun k n => some n := by kernel_rfl
theorem mr61 : (fun k => roundRun ⟨(T (fun _ _ => ⟨[], [], [], false⟩) k).cx [(58, S58 k)], Ev.look [(115, ms115 k)], U7⟩ 68 5 (roundOf Tryz.f61)) = fun k => mkStep (txtF k) U7 := by kernel_rfl
theorem mt61 : (fun k => stopRun ⟨(T (fun _ _ => ⟨[], [], [], false⟩) k).cx [(58, S58 k)], Ev.look [(115, ms115 k)], U7⟩ 68 5 (blkOf Tryz.f61) (roundOf Tryz.f61)) = fun k n => some n := by kernel_rfl
theorem me61 : (fun k => postRun ⟨(T (fun _ _ => ⟨[], [], [], false⟩) k).cx [(58, S58 k)], Ev.look [(115, ms115 k)], U7⟩ 68 4 (postOf Tryz.f61)) = fun k n => some n := by kernel_rfl
theorem mok61 (k : Nat) : (ms61 k).ok Tryz.prog 61 :=
  mrows_ok (T_ok (fun _ _ => ⟨[], [], [], false⟩) k) (calls := [(58, S58 k)]) ⟨ok58 trueLasts k, trivial⟩ (marks := [(115, ms115 k)]) ⟨mok115 k, trivial⟩ Tryz.func61 (by kernel_rfl) (e := U7) (step := mkStep (txtF k) U7) (nt := 68) (is := 5) (rs := 4) (by kernel_rfl) (by kernel_rfl) (by kernel_rfl) (by decide) (congrFun mp61 k) (congrFun mr61 k) (congrFun mt61 k) (congrFun me61 k)

/-- loop.example/g01402/laws.markOrigin -/
def mo21 (k : Nat) (x : D8) (n : Int) : Option (D8 × Int) := moC (txtF k) (Ty.inner U8) x n fun y n => some (y, n)
abbrev ms21 (k : Nat) : MSpec := ⟨U8, mo21 k⟩
theorem mw21 : (fun k => wholeRun ⟨(T (fun _ _ => ⟨[], [], [], false⟩) k).cx [], Ev.look [(61, ms61 k)]⟩ 10 4 (bodyOf Tryz.f21) U8) = fun k => mo21 k := by kernel_rfl
theorem mok21 (k : Nat) : (ms21 k).ok Tryz.prog 21 :=
  mwhole_ok (T_ok (fun _ _ => ⟨[], [], [], false⟩) k) (calls := []) trivial (marks := [(61, ms61 k)]) ⟨mok61 k, trivial⟩ Tryz.func21 (by kernel_rfl) (t := U8) (nt := 10) (rs := 4) (sem := mo21 k) (by kernel_rfl) (by kernel_rfl) (by kernel_rfl) (by decide) (by kernel_rfl) (by kernel_rfl) (congrFun mw21 k)

/-- loop.example/g01402/laws.markToldS -/
def mo116 (k : Nat) (l : List D10) (n : Int) : Option (List D10 × Int) := markAll (mkStep (txtF k) U10) l n
abbrev ms116 (k : Nat) : MSpec := ⟨.slice U10, fun l n => markAll (mkStep (txtF k) U10) l n⟩
theorem mp116 : (fun k => preRun ⟨(T (fun _ _ => ⟨[], [], [], false⟩) k).cx [(58, S58 k)], Ev.look [(115, ms115 k)], U10⟩ 45 5 (pre0Of Tryz.f116) (pre1Of Tryz.f116)) = fun k n => some n := by kernel_rfl
theorem mr116 : (fun k => roundRun ⟨(T (fun _ _ => ⟨[], [], [], false⟩) k).cx [(58, S58 k)], Ev.look [(115, ms115 k)], U10⟩ 45 5 (roundOf Tryz.f116)) = fun k => mkStep (txtF k) U10 := by kernel_rfl
theorem mt116 : (fun k => stopRun ⟨(T (fun _ _ => ⟨[], [], [], false⟩) k).cx [(58, S58 k)], Ev.look [(115, ms115 k)], U10⟩ 45 5 (blkOf Tryz.f116) (roundOf Tryz.f116)) = fun k n => some n := by kernel_rfl
theorem me116 : (fun k => postRun ⟨(T (fun _ _ => ⟨[], [], [], false⟩) k).cx [(58, S58 k)], Ev.look [(115, ms115 k)], U10⟩ 45 4 (postOf Tryz.f116)) = fun k n => some n := by kernel_rfl
theorem mok116 (k : Nat) : (ms116 k).ok Tryz.prog 116 :=
  mrows_ok (T_ok (fun _ _ => ⟨[], [], [], false⟩) k) (calls := [(58, S58 k)]) ⟨ok58 trueLasts k, trivial⟩ (marks := [(115, ms115 k)]) ⟨mok115 k, trivial⟩ Tryz.func116 (by kernel_rfl) (e := U10) (step := mkStep (txtF k) U10) (nt := 45) (is := 5) (rs := 4) (by kernel_rfl) (by kernel_rfl) (by kernel_rfl) (by decide) (congrFun mp116 k) (congrFun mr116 k) (congrFun mt116 k) (congrFun me116 k)

/-- loop.example/g01402/laws.markConnS -/
def mo62 (k : Nat) (l : List D11) (n : Int) : Option (List D11 × Int) := markAll (mkStep (txtF k) U11) l n
abbrev ms62 (k : Nat) : MSpec := ⟨.slice U11, fun l n => markAll (mkStep (txtF k) U11) l n⟩
theorem mp62 : (fun k => preRun ⟨(T (fun _ _ => ⟨[], [], [], false⟩) k).cx [(58, S58 k)], Ev.look [(115, ms115 k), (116, ms116 k)], U11⟩ 244 5 (pre0Of Tryz.f62) (pre1Of Tryz.f62)) = fun k n => some n := by kernel_rfl
theorem mr62 : (fun k => roundRun ⟨(T (fun _ _ => ⟨[], [], [], false⟩) k).cx [(58, S58 k)], Ev.look [(115, ms115 k), (116, ms116 k)], U11⟩ 244 5 (roundOf Tryz.f62)) = fun k => mkStep (txtF k) U11 := by kernel_rfl
theorem mt62 : (fun k => stopRun ⟨(T (fun _ _ => ⟨[], [], [], false⟩) k).cx [(58, S58 k)], Ev.look [(115, ms115 k), (116, ms116 k)], U11⟩ 244 5 (blkOf Tryz.f62) (roundOf Tryz.f62)) = fun k n => some n := by kernel_rfl
theorem me62 : (fun k => postRun ⟨(T (fun _ _ => ⟨[], [], [], false⟩) k).cx [(58, S58 k)], Ev.look [(115, ms115 k), (116, ms116 k)], U11⟩ 244 4 (postOf Tryz.f62)) = fun k n => some n := by kernel_rfl
theorem mok62 (k : Nat) : (ms62 k).ok Tryz.prog 62 :=
  mrows_ok (T_ok (fun _ _ => ⟨[], [], [], false⟩) k) (calls := [(58, S58 k)]) ⟨ok58 trueLasts k, trivial⟩ (marks := [(115, ms115 k), (116, ms116 k)]) ⟨mok115 k, mok116 k, trivial⟩ Tryz.func62 (by kernel_rfl) (e := U11) (step := mkStep (txtF k) U11) (nt := 244) (is := 5) (rs := 4) (by kernel_rfl) (by kernel_rfl) (by kernel_rfl) (by decide) (congrFun mp62 k) (congrFun mr62 k) (congrFun mt62 k) (congrFun me62 k)

/-- loop.example/g01402/laws.markFlightS -/
def mo63 (k : Nat) (l : List D12) (n : Int) : Option (List D12 × Int) := markAll (mkStep (txtF k) U12) l n
abbrev ms63 (k : Nat) : MSpec := ⟨.slice U12, fun l n => markAll (mkStep (txtF k) U12) l n⟩
theorem mp63 : (fun k => preRun ⟨(T (fun _ _ => ⟨[], [], [], false⟩) k).cx [(58, S58 k)], Ev.look [(115, ms115 k)], U12⟩ 129 5 (pre0Of Tryz.f63) (pre1Of Tryz.f63)) = fun k n => some n := by kernel_rfl
theorem mr63 : (fun k => roundRun ⟨(T (fun _ _ => ⟨[], [], [], false⟩) k).cx [(58, S58 k)], Ev.look [(115, ms115 k)], U12⟩ 129 5 (roundOf Tryz.f63)) = fun k => mkStep (txtF k) U12 := by kernel_rfl
theorem mt63 : (fun k => stopRun ⟨(T (fun _ _ => ⟨[], [], [], false⟩) k).cx [(58, S58 k)], Ev.look [(115, ms115 k)], U12⟩ 129 5 (blkOf Tryz.f63) (roundOf Tryz.f63)) = fun k n => some n := by kernel_rfl
theorem me63 : (fun k => postRun ⟨(T (fun _ _ => ⟨[], [], [], false⟩) k).cx [(58, S58 k)], Ev.look [(115, ms115 k)], U12⟩ 129 4 (postOf Tryz.f63)) = fun k n => some n := by kernel_rfl
theorem mok63 (k : Nat) : (ms63 k).ok Tryz.prog 63 :=
  mrows_ok (T_ok (fun _ _ => ⟨[], [], [], false⟩) k) (calls := [(58, S58 k)]) ⟨ok58 trueLasts k, trivial⟩ (marks := [(115, ms115 k)]) ⟨mok115 k, trivial⟩ Tryz.func63 (by kernel_rfl) (e := U12) (step := mkStep (txtF k) U12) (nt := 129) (is := 5) (rs := 4) (by kernel_rfl) (by kernel_rfl) (by kernel_rfl) (by decide) (congrFun mp63 k) (congrFun mr63 k) (congrFun mt63 k) (congrFun me63 k)

/-- loop.example/g01402/laws.markEventS -/
def mo64 (k : Nat) (l : List D13) (n : Int) : Option (List D13 × Int) := markAll (mkStep (txtF k) U13) l n
abbrev ms64 (k : Nat) : MSpec := ⟨.slice U13, fun l n => markAll (mkStep (txtF k) U13) l n⟩
theorem mp64 : (fun k => preRun ⟨(T (fun _ _ => ⟨[], [], [], false⟩) k).cx [(58, S58 k)], Ev.look [], U13⟩ 56 5 (pre0Of Tryz.f64) (pre1Of Tryz.f64)) = fun k n => some n := by kernel_rfl
theorem mr64 : (fun k => roundRun ⟨(T (fun _ _ => ⟨[], [], [], false⟩) k).cx [(58, S58 k)], Ev.look [], U13⟩ 56 5 (roundOf Tryz.f64)) = fun k => mkStep (txtF k) U13 := by kernel_rfl
theorem mt64 : (fun k => stopRun ⟨(T (fun _ _ => ⟨[], [], [], false⟩) k).cx [(58, S58 k)], Ev.look [], U13⟩ 56 5 (blkOf Tryz.f64) (roundOf Tryz.f64)) = fun k n => some n := by kernel_rfl
theorem me64 : (fun k => postRun ⟨(T (fun _ _ => ⟨[], [], [], false⟩) k).cx [(58, S58 k)], Ev.look [], U13⟩ 56 4 (postOf Tryz.f64)) = fun k n => some n := by kernel_rfl
theorem mok64 (k : Nat) : (ms64 k).ok Tryz.prog 64 :=
  mrows_ok (T_ok (fun _ _ => ⟨[], [], [], false⟩) k) (calls := [(58, S58 k)]) ⟨ok58 trueLasts k, trivial⟩ (marks := []) trivial Tryz.func64 (by kernel_rfl) (e := U13) (step := mkStep (txtF k) U13) (nt := 56) (is := 5) (rs := 4) (by kernel_rfl) (by kernel_rfl) (by kernel_rfl) (by decide) (congrFun mp64 k) (congrFun mr64 k) (congrFun mt64 k) (congrFun me64 k)

/-- loop.example/g01402/laws.markWorld -/
def mo22 (k : Nat) (x : D14) (n : Int) : Option (D14 × Int) := moC (txtF k) (Ty.inner U14) x n fun y n => some (y, n)
abbrev ms22 (k : Nat) : MSpec := ⟨U14, mo22 k⟩
theorem mw22 : (fun k => wholeRun ⟨(T (fun _ _ => ⟨[], [], [], false⟩) k).cx [], Ev.look [(20, ms20 k), (21, ms21 k), (62, ms62 k), (63, ms63 k), (64, ms64 k)]⟩ 26 4 (bodyOf Tryz.f22) U14) = fun k => mo22 k := by kernel_rfl
theorem mok22 (k : Nat) : (ms22 k).ok Tryz.prog 22 :=
  mwhole_ok (T_ok (fun _ _ => ⟨[], [], [], false⟩) k) (calls := []) trivial (marks := [(20, ms20 k), (21, ms21 k), (62, ms62 k), (63, ms63 k), (64, ms64 k)]) ⟨mok20 k, mok21 k, mok62 k, mok63 k, mok64 k, trivial⟩ Tryz.func22 (by kernel_rfl) (t := U14) (nt := 26) (rs := 4) (sem := mo22 k) (by kernel_rfl) (by kernel_rfl) (by kernel_rfl) (by decide) (by kernel_rfl) (by kernel_rfl) (congrFun mw22 k)

theorem hd23 : F23 = fun k (x : D14) n => hoC k (txtF k) (Ty.inner U14) x n fun n => some n := by kernel_rfl

theorem hd65 : F65 = fun k l n => hdAll k (hdC k (txtF k) U11) (Ty.zero U11) l n := by kernel_rfl

theorem hd66 : F66 = fun k (x : D6) n => hoC k (txtF k) (Ty.inner U6) x n fun n => some n := by kernel_rfl

theorem hd67 : F67 = fun k l n => hdAll k (hdC k (txtF k) U12) (Ty.zero U12) l n := by kernel_rfl

theorem hd68 : F68 = fun k (x : D8) n => hoC k (txtF k) (Ty.inner U8) x n fun n => some n := by kernel_rfl

theorem hd69 : F69 = fun k l n => hdAll k (hdC k (txtF k) U13) (Ty.zero U13) l n := by kernel_rfl

theorem hd117 : F117 = fun k l n => hdAll k (hdC k (txtF k) U0) (Ty.zero U0) l n := by kernel_rfl

theorem hd118 : F118 = fun k l n => hdAll k (hdC k (txtF k) U10) (Ty.zero U10) l n := by kernel_rfl

theorem hd119 : F119 = fun k l n => hdAll k (hdC k (txtF k) U4) (Ty.zero U4) l n := by kernel_rfl

theorem hd120 : F120 = fun k l n => hdAll k (hdC k (txtF k) U5) (Ty.zero U5) l n := by kernel_rfl

theorem hd121 : F121 = fun k l n => hdAll k (hdC k (txtF k) U7) (Ty.zero U7) l n := by kernel_rfl

theorem hd172 : F172 = fun k l n => hdAll k (hdC k (txtF k) U3) (Ty.zero U3) l n := by kernel_rfl

/-- loop.example/g01402/laws.FnExactWorldNew -/
def F3 (k : Nat) (a0 : List ByteArray) (a1 : D6) (a2 : D8) : Option (Bool) :=
  ((F7 k a0 (1048576 : Int)).bind fun r1 => (bif (decide (r1 < (0 : Int))) then some true else ((F8 k a1 r1).bind fun r2 => (bif (decide (r2 < (0 : Int))) then some true else ((F9 k a2 r2).bind fun r3 => (bif (decide (r3 < (0 : Int))) then some true else ((F11 k a0).bind fun r4 => ((F12 k a1).bind fun r5 => ((F13 k a2).bind fun r6 => ((F10 k r4 r5 r6).bind fun r7 => ((F11 k a0).bind fun r8 => ((F12 k a1).bind fun r9 => ((F13 k a2).bind fun r10 => ((F14 k r8 r9 r10).bind fun r11 => ((F15 k r11 r7).bind fun r12 => (bif (!r12) then some false else ((F11 k a0).bind fun r13 => ((F16 k r8 r13).bind fun r14 => (bif (!r14) then some false else ((F12 k a1).bind fun r15 => ((F17 k r9 r15).bind fun r16 => (bif (!r16) then some false else ((F13 k a2).bind fun r17 => ((F18 k r10 r17).bind fun r18 => (bif (!r18) then some false else ((mo19 k r8 (1 : Int)).bind fun r19 => ((mo20 k r9 r19.2).bind fun r20 => ((mo21 k r10 r20.2).bind fun r21 => (bif (decide (r21.2 < (0 : Int))) then some false else ((F15 k r11 r7).bind fun r22 => (bif (!r22) then some false else ((mo22 k r11 (1 : Int)).bind fun r23 => ((F23 k (r11.1, r11.2.1, r23.1.2.2.1, r23.1.2.2.2.1, r23.1.2.2.2.2.1, r23.1.2.2.2.2.2.1, r23.1.2.2.2.2.2.2) (1 : Int)).bind fun r24 => (bif (decide (r24 < (0 : Int))) then some false else (bif (!decide (r24 = r23.2)) then some false else ((F11 k a0).bind fun r25 => ((F12 k a1).bind fun r26 => ((F13 k a2).bind fun r27 => ((F14 k r25 r26 r27).bind fun r28 => ((F15 k r28 r7).bind fun r29 => (bif (!r29) then some false else ((F23 k (r11.1, r11.2.1, r23.1.2.2.1, r23.1.2.2.2.1, r23.1.2.2.2.2.1, r23.1.2.2.2.2.2.1, r23.1.2.2.2.2.2.2) (1 : Int)).bind fun r30 => (bif (decide (r30 < (0 : Int))) then some false else (bif (!decide (r30 = r23.2)) then some false else some true))))))))))))))))))))))))))))))))))))))))))))
def S3 (k : Nat) : CSpec := { params := [(.slice .str), U6, U8], res := [(.bool, false)], fresh := true, sem := fun x => F3 k x.1 x.2.1 x.2.2.1 }
theorem e3 : (fun k x => lawRun ⟨(T (fun _ _ => ⟨[], [], [], false⟩) k).cx [(7, S7 k), (8, S8 k), (9, S9 k), (10, S10 k), (11, S11 k), (12, S12 k), (13, S13 k), (14, S14 k), (15, S15 k), (16, S16 k), (17, S17 k), (18, S18 k), (23, S23 k)], Ev.look [(19, ms19 k), (20, ms20 k), (21, ms21 k), (22, ms22 k)]⟩ 115 6 (bodyOf Tryz.f3) [(.slice .str), U6, U8] (giveOlds [(.slice .str), U6, U8] x)) = fun k => (S3 k).sem := by kernel_rfl
theorem ok3 {G : World → Prop} (hG : Lasts G) (k : Nat) : (S3 k).ok Tryz.prog G 3 := mlaw_ok (T_ok (fun _ _ => ⟨[], [], [], false⟩) k) hG (calls := [(7, S7 k), (8, S8 k), (9, S9 k), (10, S10 k), (11, S11 k), (12, S12 k), (13, S13 k), (14, S14 k), (15, S15 k), (16, S16 k), (17, S17 k), (18, S18 k), (23, S23 k)]) ⟨ok7 hG k, ok8 hG k, ok9 hG k, ok10 hG k, ok11 hG k, ok12 hG k, ok13 hG k, ok14 hG k, ok15 hG k, ok16 hG k, ok17 hG k, ok18 hG k, ok23 hG k, trivial⟩ (marks := [(19, ms19 k), (20, ms20 k), (21, ms21 k), (22, ms22 k)]) ⟨mok19 k, mok20 k, mok21 k, mok22 k, trivial⟩ Tryz.func3 (by kernel_rfl) (nt := 115) (rs := 6) (by kernel_rfl) (by kernel_rfl) (by kernel_rfl) (congrFun e3 k)

/-- loop.example/g01402/laws.FnExactWorldTick -/
def F5 (k : Nat) (a0 : D14) (a1 : Int) : Option (Bool) :=
  ((F30 k a0 (1048576 : Int)).bind fun r1 => (bif (decide (r1 < (0 : Int))) then some true else ((F32 k a0).bind fun r2 => ((F31 k r2 a1).bind fun r3 => ((F32 k a0).bind fun r4 => ((F33 k r4 a1).bind fun r5 => ((F15 k r5 r3).bind fun r6 => (bif (!r6) then some false else ((F32 k a0).bind fun r7 => ((F15 k r4 r7).bind fun r8 => (bif (!r8) then some false else ((mo22 k r4 (1 : Int)).bind fun r9 => (bif (decide (r9.2 < (0 : Int))) then some false else ((F15 k r5 r3).bind fun r10 => (bif (!r10) then some false else ((mo22 k r5 (1 : Int)).bind fun r11 => ((F23 k (r5.1, r5.2.1, r11.1.2.2.1, r11.1.2.2.2.1, r11.1.2.2.2.2.1, r11.1.2.2.2.2.2.1, r11.1.2.2.2.2.2.2) (1 : Int)).bind fun r12 => (bif (decide (r12 < (0 : Int))) then some false else (bif (!decide (r12 = r11.2)) then some false else ((F32 k a0).bind fun r13 => ((F33 k r13 a1).bind fun r14 => ((F15 k r14 r3).bind fun r15 => (bif (!r15) then some false else ((F23 k (r5.1, r5.2.1, r11.1.2.2.1, r11.1.2.2.2.1, r11.1.2.2.2.2.1, r11.1.2.2.2.2.2.1, r11.1.2.2.2.2.2.2) (1 : Int)).bind fun r16 => (bif (decide (r16 < (0 : Int))) then some false else (bif (!decide (r16 = r11.2)) then some false else some true))))))))))))))))))))))))))
def S5 (k : Nat) : CSpec := { params := [U14, (.int .i64)], res := [(.bool, false)], fresh := true, sem := fun x => F5 k x.1 x.2.1 }
theorem e5 : (fun k x => lawRun ⟨(T (fun _ _ => ⟨[], [], [], false⟩) k).cx [(15, S15 k), (23, S23 k), (30, S30 k), (31, S31 k), (32, S32 k), (33, S33 k)], Ev.look [(22, ms22 k)]⟩ 74 4 (bodyOf Tryz.f5) [U14, (.int .i64)] (giveOlds [U14, (.int .i64)] x)) = fun k => (S5 k).sem := by kernel_rfl
theorem ok5 {G : World → Prop} (hG : Lasts G) (k : Nat) : (S5 k).ok Tryz.prog G 5 := mlaw_ok (T_ok (fun _ _ => ⟨[], [], [], false⟩) k) hG (calls := [(15, S15 k), (23, S23 k), (30, S30 k), (31, S31 k), (32, S32 k), (33, S33 k)]) ⟨ok15 hG k, ok23 hG k, ok30 hG k, ok31 hG k, ok32 hG k, ok33 hG k, trivial⟩ (marks := [(22, ms22 k)]) ⟨mok22 k, trivial⟩ Tryz.func5 (by kernel_rfl) (nt := 74) (rs := 4) (by kernel_rfl) (by kernel_rfl) (by kernel_rfl) (congrFun e5 k)

/-- loop.example/g01402/laws.FnExactRestart -/
def F6 (k : Nat) (a0 : D14) (a1 : List ByteArray) : Option (Bool) :=
  ((F30 k a0 (1048576 : Int)).bind fun r1 => (bif (decide (r1 < (0 : Int))) then some true else ((F7 k a1 r1).bind fun r2 => (bif (decide (r2 < (0 : Int))) then some true else ((F32 k a0).bind fun r3 => ((F11 k a1).bind fun r4 => ((F34 k r3 r4).bind fun r5 => ((F32 k a0).bind fun r6 => ((F11 k a1).bind fun r7 => ((F35 k r6 r7).bind fun r8 => ((F15 k r8 r5).bind fun r9 => (bif (!r9) then some false else ((F32 k a0).bind fun r10 => ((F15 k r6 r10).bind fun r11 => (bif (!r11) then some false else ((F11 k a1).bind fun r12 => ((F16 k r7 r12).bind fun r13 => (bif (!r13) then some false else ((mo22 k r6 (1 : Int)).bind fun r14 => ((mo19 k r7 r14.2).bind fun r15 => (bif (decide (r15.2 < (0 : Int))) then some false else ((F15 k r8 r5).bind fun r16 => (bif (!r16) then some false else ((mo22 k r8 (1 : Int)).bind fun r17 => ((F23 k (r8.1, r8.2.1, r17.1.2.2.1, r17.1.2.2.2.1, r17.1.2.2.2.2.1, r17.1.2.2.2.2.2.1, r17.1.2.2.2.2.2.2) (1 : Int)).bind fun r18 => (bif (decide (r18 < (0 : Int))) then some false else (bif (!decide (r18 = r17.2)) then some false else ((F32 k a0).bind fun r19 => ((F11 k a1).bind fun r20 => ((F35 k r19 r20).bind fun r21 => ((F15 k r21 r5).bind fun r22 => (bif (!r22) then some false else ((F23 k (r8.1, r8.2.1, r17.1.2.2.1, r17.1.2.2.2.1, r17.1.2.2.2.2.1, r17.1.2.2.2.2.2.1, r17.1.2.2.2.2.2.2) (1 : Int)).bind fun r23 => (bif (decide (r23 < (0 : Int))) then some false else (bif (!decide (r23 = r17.2)) then some false else some true)))))))))))))))))))))))))))))))))))
def S6 (k : Nat) : CSpec := { params := [U14, (.slice .str)], res := [(.bool, false)], fresh := true, sem := fun x => F6 k x.1 x.2.1 }
theorem e6 : (fun k x => lawRun ⟨(T (fun _ _ => ⟨[], [], [], false⟩) k).cx [(7, S7 k), (11, S11 k), (15, S15 k), (16, S16 k), (23, S23 k), (30, S30 k), (32, S32 k), (34, S34 k), (35, S35 k)], Ev.look [(19, ms19 k), (22, ms22 k)]⟩ 92 4 (bodyOf Tryz.f6) [U14, (.slice .str)] (giveOlds [U14, (.slice .str)] x)) = fun k => (S6 k).sem := by kernel_rfl
theorem ok6 {G : World → Prop} (hG : Lasts G) (k : Nat) : (S6 k).ok Tryz.prog G 6 := mlaw_ok (T_ok (fun _ _ => ⟨[], [], [], false⟩) k) hG (calls := [(7, S7 k), (11, S11 k), (15, S15 k), (16, S16 k), (23, S23 k), (30, S30 k), (32, S32 k), (34, S34 k), (35, S35 k)]) ⟨ok7 hG k, ok11 hG k, ok15 hG k, ok16 hG k, ok23 hG k, ok30 hG k, ok32 hG k, ok34 hG k, ok35 hG k, trivial⟩ (marks := [(19, ms19 k), (22, ms22 k)]) ⟨mok19 k, mok22 k, trivial⟩ Tryz.func6 (by kernel_rfl) (nt := 92) (rs := 4) (by kernel_rfl) (by kernel_rfl) (by kernel_rfl) (congrFun e6 k)
end Go.Proofs.YteliolfafmmhlaaGreatDoor.Fns

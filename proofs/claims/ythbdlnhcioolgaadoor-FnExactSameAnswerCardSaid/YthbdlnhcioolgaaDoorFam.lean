/- The plain laws of the functions that each law uses: sizes, copies, comparisons. -/
import Derived.Test.YthbdlnhcioolgaaDoorFns
import Derived.Test.YthbdlnhcioolgaaDoorEvPl
namespace Go.Proofs.YthbdlnhcioolgaaDoor.Fns
open Go Go.RowKit Go.Proofs Go.Proofs.YthbdlnhcioolgaaDoor.Ev Go.Proofs.YthbdlnhcioolgaaDoor.Pl
set_option maxRecDepth 100000
set_option linter.unusedVariables false
set_option linter.unusedSimpArgs false
theorem sz6 : szOk U0 F6 := by
  intro k (x : D0) left hk hok h0 hl
  rw [show (cost U0 x : Int) = (x.2.2.2.1.size : Int) + (0) from by simp only [U0, cost]; omega]
  unfold F6
  refine sz_str (hok.2.2.2.1) h0 hl (by omega) fun L1 w1 h1 l1 => ?_
  rw [w1]
  exact sz_end h1

theorem to8 : toOk U0 F8 := by
  intro k (x : D0) hk hx
  unfold F8
  rfl

theorem sz10 : szOk (.slice U0) F10 := sz_list (e := U0) (G := F6) sz6

theorem to12 : toOk (.slice U0) F12 := to_list (e := U0) (G := F8) to8

theorem eq25 : eqOk U0 F25 := by
  intro k (x : D0) hk hx
  unfold F25
  simp only [eq_self, decide_true, Bool.not_true, cond_false, Option.bind_some, beq_self_eq_true]

theorem eq14 : eqOk (.slice U0) F14 := eq_list (e := U0) (G := F25) eq25

theorem sz37 : szOk U1 F37 := by
  intro k (x : D1) left hk hok h0 hl
  rw [show (cost U1 x : Int) = (x.1.size : Int) + ((x.2.size : Int) + (0)) from by simp only [U1, cost]; omega]
  unfold F37
  refine sz_str (hok.1) h0 hl (by omega) fun L1 w1 h1 l1 => ?_
  rw [w1]
  refine sz_str (hok.2) h1 l1 (by omega) fun L2 w2 h2 l2 => ?_
  rw [w2]
  exact sz_end h2

theorem sz26 : szOk (.slice U1) F26 := sz_list (e := U1) (G := F37) sz37

theorem sz15 : szOk U2 F15 := by
  intro k (x : D2) left hk hok h0 hl
  rw [show (cost U2 x : Int) = (cost (.slice U1) x.2.1 : Int) + ((x.2.2.size : Int) + (0)) from by simp only [U2, cost]; omega]
  unfold F15
  refine sz_call (sz26 k _ left hk (hok.2.1) h0 hl) h0 hl (by omega) fun L1 h1 l1 => ?_
  refine sz_str (hok.2.2) h1 l1 (by omega) fun L2 w2 h2 l2 => ?_
  rw [w2]
  exact sz_end h2

theorem to41 : toOk U1 F41 := by
  intro k (x : D1) hk hx
  unfold F41
  rfl

theorem to28 : toOk (.slice U1) F28 := to_list (e := U1) (G := F41) to41

theorem to17 : toOk U2 F17 := by
  intro k (x : D2) hk hx
  unfold F17
  rw [to28 k x.2.1 hk (by simp only [U2, cost] at hx ⊢; omega), Option.bind_some]

theorem eq45 : eqOk U1 F45 := by
  intro k (x : D1) hk hx
  unfold F45
  simp only [eq_self, decide_true, Bool.not_true, cond_false, Option.bind_some, beq_self_eq_true]

theorem eq30 : eqOk (.slice U1) F30 := eq_list (e := U1) (G := F45) eq45

theorem eq19 : eqOk U2 F19 := by
  intro k (x : D2) hk hx
  unfold F19
  have e0 := eq30 k x.2.1 hk (by simp only [U2, cost] at hx ⊢; omega)
  simp only [e0, eq_self, decide_true, Bool.not_true, cond_false, Option.bind_some, beq_self_eq_true]
end Go.Proofs.YthbdlnhcioolgaaDoor.Fns

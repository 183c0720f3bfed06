/- The plain laws of the functions that each law uses: sizes, copies, comparisons. -/
import Derived.Test.YteliolfafmmhlaaFns
import Derived.Test.YteliolfafmmhlaaEv6
namespace Go.Proofs.Yteliolfafmmhlaa.Fns
open Go Go.RowKit Go.Proofs Go.Proofs.Yteliolfafmmhlaa.Ev Go.Proofs.Yteliolfafmmhlaa.Pl
set_option maxRecDepth 100000
set_option linter.unusedVariables false
set_option linter.unusedSimpArgs false
theorem sz93 : szOk U0 F93 := by
  intro k (x : D0) left hk hok h0 hl
  rw [show (cost U0 x : Int) = (x.1.size : Int) + ((x.2.size : Int) + (0)) from by simp only [U0, cost]; omega]
  unfold F93
  refine sz_str (hok.1) h0 hl (by omega) fun L1 w1 h1 l1 => ?_
  rw [w1]
  refine sz_str (hok.2) h1 l1 (by omega) fun L2 w2 h2 l2 => ?_
  rw [w2]
  exact sz_end h2

theorem sz85 : szOk (.slice U0) F85 := sz_list (e := U0) (G := F93) sz93

theorem sz63 : szOk U1 F63 := by
  intro k (x : D1) left hk hok h0 hl
  rw [show (cost U1 x : Int) = (x.1.size : Int) + ((x.2.1.size : Int) + ((cost (.slice U0) x.2.2.1 : Int) + ((x.2.2.2.size : Int) + (0)))) from by simp only [U1, cost]; omega]
  unfold F63
  refine sz_str (hok.1) h0 hl (by omega) fun L1 w1 h1 l1 => ?_
  rw [w1]
  refine sz_str (hok.2.1) h1 l1 (by omega) fun L2 w2 h2 l2 => ?_
  rw [w2]
  refine sz_call (sz85 k _ L2 hk (hok.2.2.1) h2 l2) h2 l2 (by omega) fun L3 h3 l3 => ?_
  refine sz_str (hok.2.2.2) h3 l3 (by omega) fun L4 w4 h4 l4 => ?_
  rw [w4]
  exact sz_end h4

theorem sz65 : szOk U2 F65 := by
  intro k (x : D2) left hk hok h0 hl
  rw [show (cost U2 x : Int) = (cost (.slice U0) x.2.1 : Int) + ((x.2.2.size : Int) + (0)) from by simp only [U2, cost]; omega]
  unfold F65
  refine sz_call (sz85 k _ left hk (hok.2.1) h0 hl) h0 hl (by omega) fun L1 h1 l1 => ?_
  refine sz_str (hok.2.2) h1 l1 (by omega) fun L2 w2 h2 l2 => ?_
  rw [w2]
  exact sz_end h2

theorem sz64 : szOk U3 F64 := by
  intro k (x : D3) left hk hok h0 hl
  rw [show (cost U3 x : Int) = (x.1.size : Int) + ((cost (.slice U0) x.2.1 : Int) + ((cost U2 x.2.2.1 : Int) + (0))) from by simp only [U3, cost]; omega]
  unfold F64
  refine sz_str (hok.1) h0 hl (by omega) fun L1 w1 h1 l1 => ?_
  rw [w1]
  refine sz_call (sz85 k _ L1 hk (hok.2.1) h1 l1) h1 l1 (by omega) fun L2 h2 l2 => ?_
  refine sz_call (sz65 k _ L2 hk (hok.2.2.1) h2 l2) h2 l2 (by omega) fun L3 h3 l3 => ?_
  exact sz_end h3

theorem sz86 : szOk U4 F86 := by
  intro k (x : D4) left hk hok h0 hl
  rw [show (cost U4 x : Int) = (cost U2 x.2 : Int) + (0) from by simp only [U4, cost]; omega]
  unfold F86
  refine sz_call (sz65 k _ left hk (hok.2) h0 hl) h0 hl (by omega) fun L1 h1 l1 => ?_
  exact sz_end h1

theorem sz66 : szOk (.slice U4) F66 := sz_list (e := U4) (G := F86) sz86

theorem sz39 : szOk U5 F39 := by
  intro k (x : D5) left hk hok h0 hl
  rw [show (cost U5 x : Int) = (x.2.1.size : Int) + ((cost U1 x.2.2.2.1 : Int) + ((cost U1 x.2.2.2.2.1 : Int) + ((cost U3 x.2.2.2.2.2.1 : Int) + ((cost U2 x.2.2.2.2.2.2.2.2.2.2.2.2.1 : Int) + ((cost (.slice U4) x.2.2.2.2.2.2.2.2.2.2.2.2.2 : Int) + (0)))))) from by simp only [U5, cost]; omega]
  unfold F39
  refine sz_str (hok.2.1) h0 hl (by omega) fun L1 w1 h1 l1 => ?_
  rw [w1]
  refine sz_call (sz63 k _ L1 hk (hok.2.2.2.1) h1 l1) h1 l1 (by omega) fun L2 h2 l2 => ?_
  refine sz_call (sz63 k _ L2 hk (hok.2.2.2.2.1) h2 l2) h2 l2 (by omega) fun L3 h3 l3 => ?_
  refine sz_call (sz64 k _ L3 hk (hok.2.2.2.2.2.1) h3 l3) h3 l3 (by omega) fun L4 h4 l4 => ?_
  refine sz_call (sz65 k _ L4 hk (hok.2.2.2.2.2.2.2.2.2.2.2.2.1) h4 l4) h4 l4 (by omega) fun L5 h5 l5 => ?_
  refine sz_call (sz66 k _ L5 hk (hok.2.2.2.2.2.2.2.2.2.2.2.2.2) h5 l5) h5 l5 (by omega) fun L6 h6 l6 => ?_
  exact sz_end h6

theorem sz13 : szOk (.slice U5) F13 := sz_list (e := U5) (G := F39) sz39

theorem sz94 : szOk U6 F94 := by
  intro k (x : D6) left hk hok h0 hl
  rw [show (cost U6 x : Int) = (cost U3 x.1 : Int) + (0) from by simp only [U6, cost]; omega]
  unfold F94
  refine sz_call (sz64 k _ left hk (hok.1) h0 hl) h0 hl (by omega) fun L1 h1 l1 => ?_
  exact sz_end h1

theorem sz87 : szOk (.slice U6) F87 := sz_list (e := U6) (G := F94) sz94

theorem sz67 : szOk U7 F67 := by
  intro k (x : D7) left hk hok h0 hl
  rw [show (cost U7 x : Int) = (cost (.slice U6) x.2.2.1 : Int) + (0) from by simp only [U7, cost]; omega]
  unfold F67
  refine sz_call (sz87 k _ left hk (hok.2.2.1) h0 hl) h0 hl (by omega) fun L1 h1 l1 => ?_
  exact sz_end h1

theorem sz40 : szOk (.slice U7) F40 := sz_list (e := U7) (G := F67) sz67

theorem sz68 : szOk U8 F68 := by
  intro k (x : D8) left hk hok h0 hl
  rw [show (cost U8 x : Int) = (x.1.size : Int) + (0) from by simp only [U8, cost]; omega]
  unfold F68
  refine sz_str (hok.1) h0 hl (by omega) fun L1 w1 h1 l1 => ?_
  rw [w1]
  exact sz_end h1

theorem sz41 : szOk (.slice U8) F41 := sz_list (e := U8) (G := F68) sz68

theorem sz14 : szOk U9 F14 := by
  intro k (x : D9) left hk hok h0 hl
  rw [show (cost U9 x : Int) = (cost (.slice U7) x.1 : Int) + ((cost (.slice U8) x.2 : Int) + (0)) from by simp only [U9, cost]; omega]
  unfold F14
  refine sz_call (sz40 k _ left hk (hok.1) h0 hl) h0 hl (by omega) fun L1 h1 l1 => ?_
  refine sz_call (sz41 k _ L1 hk (hok.2) h1 l1) h1 l1 (by omega) fun L2 h2 l2 => ?_
  exact sz_end h2

theorem sz42 : szOk U10 F42 := by
  intro k (x : D10) left hk hok h0 hl
  rw [show (cost U10 x : Int) = (x.1.size : Int) + ((cost U1 x.2.2.2.2.2.1 : Int) + ((cost U2 x.2.2.2.2.2.2.1 : Int) + (0))) from by simp only [U10, cost]; omega]
  unfold F42
  refine sz_str (hok.1) h0 hl (by omega) fun L1 w1 h1 l1 => ?_
  rw [w1]
  refine sz_call (sz63 k _ L1 hk (hok.2.2.2.2.2.1) h1 l1) h1 l1 (by omega) fun L2 h2 l2 => ?_
  refine sz_call (sz65 k _ L2 hk (hok.2.2.2.2.2.2.1) h2 l2) h2 l2 (by omega) fun L3 h3 l3 => ?_
  exact sz_end h3

theorem sz15 : szOk (.slice U10) F15 := sz_list (e := U10) (G := F42) sz42

theorem sz69 : szOk U11 F69 := by
  intro k (x : D11) left hk hok h0 hl
  rw [show (cost U11 x : Int) = (x.1.size : Int) + ((x.2.1.size : Int) + ((cost (.slice U0) x.2.2.2.2.2.2 : Int) + (0))) from by simp only [U11, cost]; omega]
  unfold F69
  refine sz_str (hok.1) h0 hl (by omega) fun L1 w1 h1 l1 => ?_
  rw [w1]
  refine sz_str (hok.2.1) h1 l1 (by omega) fun L2 w2 h2 l2 => ?_
  rw [w2]
  refine sz_call (sz85 k _ L2 hk (hok.2.2.2.2.2.2) h2 l2) h2 l2 (by omega) fun L3 h3 l3 => ?_
  exact sz_end h3

theorem sz43 : szOk (.slice U11) F43 := sz_list (e := U11) (G := F69) sz69

theorem sz16 : szOk U12 F16 := by
  intro k (x : D12) left hk hok h0 hl
  rw [show (cost U12 x : Int) = (cost (.slice U11) x : Int) + (0) from by simp only [U12, cost]; omega]
  unfold F16
  refine sz_call (sz43 k _ left hk (hok) h0 hl) h0 hl (by omega) fun L1 h1 l1 => ?_
  exact sz_end h1

theorem sz44 : szOk U13 F44 := by
  intro k (x : D13) left hk hok h0 hl
  rw [show (cost U13 x : Int) = (x.2.2.2.1.size : Int) + (0) from by simp only [U13, cost]; omega]
  unfold F44
  refine sz_str (hok.2.2.2.1) h0 hl (by omega) fun L1 w1 h1 l1 => ?_
  rw [w1]
  exact sz_end h1

theorem sz17 : szOk (.slice U13) F17 := sz_list (e := U13) (G := F44) sz44

theorem sz4 : szOk U14 F4 := by
  intro k (x : D14) left hk hok h0 hl
  rw [show (cost U14 x : Int) = (cost (.slice U5) x.2.2.1 : Int) + ((cost U9 x.2.2.2.1 : Int) + ((cost (.slice U10) x.2.2.2.2.1 : Int) + ((cost U12 x.2.2.2.2.2.1 : Int) + ((cost (.slice U13) x.2.2.2.2.2.2 : Int) + (0))))) from by simp only [U14, cost]; omega]
  unfold F4
  refine sz_call (sz13 k _ left hk (hok.2.2.1) h0 hl) h0 hl (by omega) fun L1 h1 l1 => ?_
  refine sz_call (sz14 k _ L1 hk (hok.2.2.2.1) h1 l1) h1 l1 (by omega) fun L2 h2 l2 => ?_
  refine sz_call (sz15 k _ L2 hk (hok.2.2.2.2.1) h2 l2) h2 l2 (by omega) fun L3 h3 l3 => ?_
  refine sz_call (sz16 k _ L3 hk (hok.2.2.2.2.2.1) h3 l3) h3 l3 (by omega) fun L4 h4 l4 => ?_
  refine sz_call (sz17 k _ L4 hk (hok.2.2.2.2.2.2) h4 l4) h4 l4 (by omega) fun L5 h5 l5 => ?_
  exact sz_end h5

theorem to95 : toOk U0 F95 := by
  intro k (x : D0) hk hx
  unfold F95
  rfl

theorem to88 : toOk (.slice U0) F88 := to_list (e := U0) (G := F95) to95

theorem to70 : toOk U1 F70 := by
  intro k (x : D1) hk hx
  unfold F70
  rw [to88 k x.2.2.1 hk (by simp only [U1, cost] at hx ⊢; omega), Option.bind_some]

theorem to72 : toOk U2 F72 := by
  intro k (x : D2) hk hx
  unfold F72
  rw [to88 k x.2.1 hk (by simp only [U2, cost] at hx ⊢; omega), Option.bind_some]

theorem to71 : toOk U3 F71 := by
  intro k (x : D3) hk hx
  unfold F71
  rw [to88 k x.2.1 hk (by simp only [U3, cost] at hx ⊢; omega), Option.bind_some]
  rw [to72 k x.2.2.1 hk (by simp only [U3, cost] at hx ⊢; omega), Option.bind_some]

theorem to89 : toOk U4 F89 := by
  intro k (x : D4) hk hx
  unfold F89
  rw [to72 k x.2 hk (by simp only [U4, cost] at hx ⊢; omega), Option.bind_some]

theorem to73 : toOk (.slice U4) F73 := to_list (e := U4) (G := F89) to89

theorem to46 : toOk U5 F46 := by
  intro k (x : D5) hk hx
  unfold F46
  rw [to70 k x.2.2.2.1 hk (by simp only [U5, cost] at hx ⊢; omega), Option.bind_some]
  rw [to70 k x.2.2.2.2.1 hk (by simp only [U5, cost] at hx ⊢; omega), Option.bind_some]
  rw [to71 k x.2.2.2.2.2.1 hk (by simp only [U5, cost] at hx ⊢; omega), Option.bind_some]
  rw [to72 k x.2.2.2.2.2.2.2.2.2.2.2.2.1 hk (by simp only [U5, cost] at hx ⊢; omega), Option.bind_some]
  rw [to73 k x.2.2.2.2.2.2.2.2.2.2.2.2.2 hk (by simp only [U5, cost] at hx ⊢; omega), Option.bind_some]

theorem to19 : toOk (.slice U5) F19 := to_list (e := U5) (G := F46) to46

theorem to96 : toOk U6 F96 := by
  intro k (x : D6) hk hx
  unfold F96
  rw [to71 k x.1 hk (by simp only [U6, cost] at hx ⊢; omega), Option.bind_some]

theorem to90 : toOk (.slice U6) F90 := to_list (e := U6) (G := F96) to96

theorem to74 : toOk U7 F74 := by
  intro k (x : D7) hk hx
  unfold F74
  rw [to90 k x.2.2.1 hk (by simp only [U7, cost] at hx ⊢; omega), Option.bind_some]

theorem to47 : toOk (.slice U7) F47 := to_list (e := U7) (G := F74) to74

theorem to75 : toOk U8 F75 := by
  intro k (x : D8) hk hx
  unfold F75
  rfl

theorem to48 : toOk (.slice U8) F48 := to_list (e := U8) (G := F75) to75

theorem to20 : toOk U9 F20 := by
  intro k (x : D9) hk hx
  unfold F20
  rw [to47 k x.1 hk (by simp only [U9, cost] at hx ⊢; omega), Option.bind_some]
  rw [to48 k x.2 hk (by simp only [U9, cost] at hx ⊢; omega), Option.bind_some]

theorem to49 : toOk U10 F49 := by
  intro k (x : D10) hk hx
  unfold F49
  rw [to70 k x.2.2.2.2.2.1 hk (by simp only [U10, cost] at hx ⊢; omega), Option.bind_some]
  rw [to72 k x.2.2.2.2.2.2.1 hk (by simp only [U10, cost] at hx ⊢; omega), Option.bind_some]

theorem to21 : toOk (.slice U10) F21 := to_list (e := U10) (G := F49) to49

theorem to76 : toOk U11 F76 := by
  intro k (x : D11) hk hx
  unfold F76
  rw [to88 k x.2.2.2.2.2.2 hk (by simp only [U11, cost] at hx ⊢; omega), Option.bind_some]

theorem to50 : toOk (.slice U11) F50 := to_list (e := U11) (G := F76) to76

theorem to22 : toOk U12 F22 := by
  intro k (x : D12) hk hx
  unfold F22
  rw [to50 k x hk (by simp only [U12, cost] at hx ⊢; omega), Option.bind_some]

theorem to51 : toOk U13 F51 := by
  intro k (x : D13) hk hx
  unfold F51
  rfl

theorem to23 : toOk (.slice U13) F23 := to_list (e := U13) (G := F51) to51

theorem to6 : toOk U14 F6 := by
  intro k (x : D14) hk hx
  unfold F6
  rw [to19 k x.2.2.1 hk (by simp only [U14, cost] at hx ⊢; omega), Option.bind_some]
  rw [to20 k x.2.2.2.1 hk (by simp only [U14, cost] at hx ⊢; omega), Option.bind_some]
  rw [to21 k x.2.2.2.2.1 hk (by simp only [U14, cost] at hx ⊢; omega), Option.bind_some]
  rw [to22 k x.2.2.2.2.2.1 hk (by simp only [U14, cost] at hx ⊢; omega), Option.bind_some]
  rw [to23 k x.2.2.2.2.2.2 hk (by simp only [U14, cost] at hx ⊢; omega), Option.bind_some]

theorem eq91 : eqOk U0 F91 := by
  intro k (x : D0) hk hx
  unfold F91
  simp only [eq_self, decide_true, Bool.not_true, cond_false, Option.bind_some, beq_self_eq_true]

theorem eq78 : eqOk (.slice U0) F78 := eq_list (e := U0) (G := F91) eq91

theorem eq53 : eqOk U2 F53 := by
  intro k (x : D2) hk hx
  unfold F53
  have e0 := eq78 k x.2.1 hk (by simp only [U2, cost] at hx ⊢; omega)
  simp only [e0, eq_self, decide_true, Bool.not_true, cond_false, Option.bind_some, beq_self_eq_true]

theorem eq25 : eqOk U4 F25 := by
  intro k (x : D4) hk hx
  unfold F25
  have e0 := eq53 k x.2 hk (by simp only [U4, cost] at hx ⊢; omega)
  simp only [e0, eq_self, decide_true, Bool.not_true, cond_false, Option.bind_some, beq_self_eq_true]

theorem eq8 : eqOk (.slice U4) F8 := eq_list (e := U4) (G := F25) eq25

theorem eq79 : eqOk U1 F79 := by
  intro k (x : D1) hk hx
  unfold F79
  have e0 := eq78 k x.2.2.1 hk (by simp only [U1, cost] at hx ⊢; omega)
  simp only [e0, eq_self, decide_true, Bool.not_true, cond_false, Option.bind_some, beq_self_eq_true]

theorem eq80 : eqOk U3 F80 := by
  intro k (x : D3) hk hx
  unfold F80
  have e0 := eq53 k x.2.2.1 hk (by simp only [U3, cost] at hx ⊢; omega)
  have e1 := eq78 k x.2.1 hk (by simp only [U3, cost] at hx ⊢; omega)
  simp only [e0, e1, eq_self, decide_true, Bool.not_true, cond_false, Option.bind_some, beq_self_eq_true]

theorem eq54 : eqOk U5 F54 := by
  intro k (x : D5) hk hx
  unfold F54
  have e0 := eq53 k x.2.2.2.2.2.2.2.2.2.2.2.2.1 hk (by simp only [U5, cost] at hx ⊢; omega)
  have e1 := eq79 k x.2.2.2.1 hk (by simp only [U5, cost] at hx ⊢; omega)
  have e2 := eq79 k x.2.2.2.2.1 hk (by simp only [U5, cost] at hx ⊢; omega)
  have e3 := eq8 k x.2.2.2.2.2.2.2.2.2.2.2.2.2 hk (by simp only [U5, cost] at hx ⊢; omega)
  have e4 := eq80 k x.2.2.2.2.2.1 hk (by simp only [U5, cost] at hx ⊢; omega)
  simp only [e0, e1, e2, e3, e4, eq_self, decide_true, Bool.not_true, cond_false, Option.bind_some, beq_self_eq_true]

theorem eq26 : eqOk (.slice U5) F26 := eq_list (e := U5) (G := F54) eq54

theorem eq97 : eqOk U6 F97 := by
  intro k (x : D6) hk hx
  unfold F97
  have e0 := eq80 k x.1 hk (by simp only [U6, cost] at hx ⊢; omega)
  simp only [e0, eq_self, decide_true, Bool.not_true, cond_false, Option.bind_some, beq_self_eq_true]

theorem eq92 : eqOk (.slice U6) F92 := eq_list (e := U6) (G := F97) eq97

theorem eq81 : eqOk U7 F81 := by
  intro k (x : D7) hk hx
  unfold F81
  have e0 := eq92 k x.2.2.1 hk (by simp only [U7, cost] at hx ⊢; omega)
  simp only [e0, eq_self, decide_true, Bool.not_true, cond_false, Option.bind_some, beq_self_eq_true]

theorem eq55 : eqOk (.slice U7) F55 := eq_list (e := U7) (G := F81) eq81

theorem eq82 : eqOk U8 F82 := by
  intro k (x : D8) hk hx
  unfold F82
  simp only [eq_self, decide_true, Bool.not_true, cond_false, Option.bind_some, beq_self_eq_true]

theorem eq56 : eqOk (.slice U8) F56 := eq_list (e := U8) (G := F82) eq82

theorem eq27 : eqOk U9 F27 := by
  intro k (x : D9) hk hx
  unfold F27
  have e0 := eq55 k x.1 hk (by simp only [U9, cost] at hx ⊢; omega)
  have e1 := eq56 k x.2 hk (by simp only [U9, cost] at hx ⊢; omega)
  simp only [e0, e1, eq_self, decide_true, Bool.not_true, cond_false, Option.bind_some, beq_self_eq_true]

theorem eq57 : eqOk U10 F57 := by
  intro k (x : D10) hk hx
  unfold F57
  have e0 := eq53 k x.2.2.2.2.2.2.1 hk (by simp only [U10, cost] at hx ⊢; omega)
  have e1 := eq79 k x.2.2.2.2.2.1 hk (by simp only [U10, cost] at hx ⊢; omega)
  simp only [e0, e1, eq_self, decide_true, Bool.not_true, cond_false, Option.bind_some, beq_self_eq_true]

theorem eq28 : eqOk (.slice U10) F28 := eq_list (e := U10) (G := F57) eq57

theorem eq83 : eqOk U11 F83 := by
  intro k (x : D11) hk hx
  unfold F83
  have e0 := eq78 k x.2.2.2.2.2.2 hk (by simp only [U11, cost] at hx ⊢; omega)
  simp only [e0, eq_self, decide_true, Bool.not_true, cond_false, Option.bind_some, beq_self_eq_true]

theorem eq58 : eqOk (.slice U11) F58 := eq_list (e := U11) (G := F83) eq83

theorem eq29 : eqOk U12 F29 := by
  intro k (x : D12) hk hx
  unfold F29
  have e0 := eq58 k x hk (by simp only [U12, cost] at hx ⊢; omega)
  simp only [e0, eq_self, decide_true, Bool.not_true, cond_false, Option.bind_some, beq_self_eq_true]

theorem eq59 : eqOk U13 F59 := by
  intro k (x : D13) hk hx
  unfold F59
  simp only [eq_self, decide_true, Bool.not_true, cond_false, Option.bind_some, beq_self_eq_true]

theorem eq30 : eqOk (.slice U13) F30 := eq_list (e := U13) (G := F59) eq59

theorem eq9 : eqOk U14 F9 := by
  intro k (x : D14) hk hx
  unfold F9
  have e0 := eq26 k x.2.2.1 hk (by simp only [U14, cost] at hx ⊢; omega)
  have e1 := eq27 k x.2.2.2.1 hk (by simp only [U14, cost] at hx ⊢; omega)
  have e2 := eq28 k x.2.2.2.2.1 hk (by simp only [U14, cost] at hx ⊢; omega)
  have e3 := eq29 k x.2.2.2.2.2.1 hk (by simp only [U14, cost] at hx ⊢; omega)
  have e4 := eq30 k x.2.2.2.2.2.2 hk (by simp only [U14, cost] at hx ⊢; omega)
  simp only [e0, e1, e2, e3, e4, eq_self, decide_true, Bool.not_true, cond_false, Option.bind_some, beq_self_eq_true]
end Go.Proofs.Yteliolfafmmhlaa.Fns

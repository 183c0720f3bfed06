/- The plain laws of the functions that each law uses: sizes, copies, comparisons. -/
import Derived.Test.YthbdlnhcioolgaaFns
import Derived.Test.YthbdlnhcioolgaaEvPl
namespace Go.Proofs.Ythbdlnhcioolgaa.Fns
open Go Go.RowKit Go.Proofs Go.Proofs.Ythbdlnhcioolgaa.Ev Go.Proofs.Ythbdlnhcioolgaa.Pl
set_option maxRecDepth 100000
set_option linter.unusedVariables false
set_option linter.unusedSimpArgs false
theorem sz18 : szOk U0 F18 := by
  intro k (x : D0) left hk hok h0 hl
  rw [show (cost U0 x : Int) = (x.2.2.2.1.size : Int) + (0) from by simp only [U0, cost]; omega]
  unfold F18
  refine sz_str (hok.2.2.2.1) h0 hl (by omega) fun L1 w1 h1 l1 => ?_
  rw [w1]
  exact sz_end h1

theorem sz6 : szOk (.slice U0) F6 := sz_list (e := U0) (G := F18) sz18

theorem to20 : toOk U0 F20 := by
  intro k (x : D0) hk hx
  unfold F20
  rfl

theorem to8 : toOk (.slice U0) F8 := to_list (e := U0) (G := F20) to20

theorem eq22 : eqOk U0 F22 := by
  intro k (x : D0) hk hx
  unfold F22
  simp only [eq_self, decide_true, Bool.not_true, cond_false, Option.bind_some, beq_self_eq_true]

theorem eq10 : eqOk (.slice U0) F10 := eq_list (e := U0) (G := F22) eq22

theorem sz88 : szOk U1 F88 := by
  intro k (x : D1) left hk hok h0 hl
  rw [show (cost U1 x : Int) = (x.1.size : Int) + ((x.2.size : Int) + (0)) from by simp only [U1, cost]; omega]
  unfold F88
  refine sz_str (hok.1) h0 hl (by omega) fun L1 w1 h1 l1 => ?_
  rw [w1]
  refine sz_str (hok.2) h1 l1 (by omega) fun L2 w2 h2 l2 => ?_
  rw [w2]
  exact sz_end h2

theorem sz79 : szOk (.slice U1) F79 := sz_list (e := U1) (G := F88) sz88

theorem sz58 : szOk U2 F58 := by
  intro k (x : D2) left hk hok h0 hl
  rw [show (cost U2 x : Int) = (x.1.size : Int) + ((x.2.1.size : Int) + ((cost (.slice U1) x.2.2.1 : Int) + ((x.2.2.2.size : Int) + (0)))) from by simp only [U2, cost]; omega]
  unfold F58
  refine sz_str (hok.1) h0 hl (by omega) fun L1 w1 h1 l1 => ?_
  rw [w1]
  refine sz_str (hok.2.1) h1 l1 (by omega) fun L2 w2 h2 l2 => ?_
  rw [w2]
  refine sz_call (sz79 k _ L2 hk (hok.2.2.1) h2 l2) h2 l2 (by omega) fun L3 h3 l3 => ?_
  refine sz_str (hok.2.2.2) h3 l3 (by omega) fun L4 w4 h4 l4 => ?_
  rw [w4]
  exact sz_end h4

theorem sz60 : szOk U3 F60 := by
  intro k (x : D3) left hk hok h0 hl
  rw [show (cost U3 x : Int) = (cost (.slice U1) x.2.1 : Int) + ((x.2.2.size : Int) + (0)) from by simp only [U3, cost]; omega]
  unfold F60
  refine sz_call (sz79 k _ left hk (hok.2.1) h0 hl) h0 hl (by omega) fun L1 h1 l1 => ?_
  refine sz_str (hok.2.2) h1 l1 (by omega) fun L2 w2 h2 l2 => ?_
  rw [w2]
  exact sz_end h2

theorem sz59 : szOk U4 F59 := by
  intro k (x : D4) left hk hok h0 hl
  rw [show (cost U4 x : Int) = (x.1.size : Int) + ((cost (.slice U1) x.2.1 : Int) + ((cost U3 x.2.2.1 : Int) + (0))) from by simp only [U4, cost]; omega]
  unfold F59
  refine sz_str (hok.1) h0 hl (by omega) fun L1 w1 h1 l1 => ?_
  rw [w1]
  refine sz_call (sz79 k _ L1 hk (hok.2.1) h1 l1) h1 l1 (by omega) fun L2 h2 l2 => ?_
  refine sz_call (sz60 k _ L2 hk (hok.2.2.1) h2 l2) h2 l2 (by omega) fun L3 h3 l3 => ?_
  exact sz_end h3

theorem sz80 : szOk U5 F80 := by
  intro k (x : D5) left hk hok h0 hl
  rw [show (cost U5 x : Int) = (cost U3 x.2 : Int) + (0) from by simp only [U5, cost]; omega]
  unfold F80
  refine sz_call (sz60 k _ left hk (hok.2) h0 hl) h0 hl (by omega) fun L1 h1 l1 => ?_
  exact sz_end h1

theorem sz61 : szOk (.slice U5) F61 := sz_list (e := U5) (G := F80) sz80

theorem sz43 : szOk U6 F43 := by
  intro k (x : D6) left hk hok h0 hl
  rw [show (cost U6 x : Int) = (x.2.1.size : Int) + ((cost U2 x.2.2.2.1 : Int) + ((cost U2 x.2.2.2.2.1 : Int) + ((cost U4 x.2.2.2.2.2.1 : Int) + ((cost U3 x.2.2.2.2.2.2.2.2.2.2.2.2.1 : Int) + ((cost (.slice U5) x.2.2.2.2.2.2.2.2.2.2.2.2.2 : Int) + (0)))))) from by simp only [U6, cost]; omega]
  unfold F43
  refine sz_str (hok.2.1) h0 hl (by omega) fun L1 w1 h1 l1 => ?_
  rw [w1]
  refine sz_call (sz58 k _ L1 hk (hok.2.2.2.1) h1 l1) h1 l1 (by omega) fun L2 h2 l2 => ?_
  refine sz_call (sz58 k _ L2 hk (hok.2.2.2.2.1) h2 l2) h2 l2 (by omega) fun L3 h3 l3 => ?_
  refine sz_call (sz59 k _ L3 hk (hok.2.2.2.2.2.1) h3 l3) h3 l3 (by omega) fun L4 h4 l4 => ?_
  refine sz_call (sz60 k _ L4 hk (hok.2.2.2.2.2.2.2.2.2.2.2.2.1) h4 l4) h4 l4 (by omega) fun L5 h5 l5 => ?_
  refine sz_call (sz61 k _ L5 hk (hok.2.2.2.2.2.2.2.2.2.2.2.2.2) h5 l5) h5 l5 (by omega) fun L6 h6 l6 => ?_
  exact sz_end h6

theorem sz27 : szOk (.slice U6) F27 := sz_list (e := U6) (G := F43) sz43

theorem sz89 : szOk U7 F89 := by
  intro k (x : D7) left hk hok h0 hl
  rw [show (cost U7 x : Int) = (cost U4 x.1 : Int) + (0) from by simp only [U7, cost]; omega]
  unfold F89
  refine sz_call (sz59 k _ left hk (hok.1) h0 hl) h0 hl (by omega) fun L1 h1 l1 => ?_
  exact sz_end h1

theorem sz81 : szOk (.slice U7) F81 := sz_list (e := U7) (G := F89) sz89

theorem sz62 : szOk U8 F62 := by
  intro k (x : D8) left hk hok h0 hl
  rw [show (cost U8 x : Int) = (cost (.slice U7) x.2.2.1 : Int) + (0) from by simp only [U8, cost]; omega]
  unfold F62
  refine sz_call (sz81 k _ left hk (hok.2.2.1) h0 hl) h0 hl (by omega) fun L1 h1 l1 => ?_
  exact sz_end h1

theorem sz44 : szOk (.slice U8) F44 := sz_list (e := U8) (G := F62) sz62

theorem sz63 : szOk U9 F63 := by
  intro k (x : D9) left hk hok h0 hl
  rw [show (cost U9 x : Int) = (x.1.size : Int) + (0) from by simp only [U9, cost]; omega]
  unfold F63
  refine sz_str (hok.1) h0 hl (by omega) fun L1 w1 h1 l1 => ?_
  rw [w1]
  exact sz_end h1

theorem sz45 : szOk (.slice U9) F45 := sz_list (e := U9) (G := F63) sz63

theorem sz28 : szOk U10 F28 := by
  intro k (x : D10) left hk hok h0 hl
  rw [show (cost U10 x : Int) = (cost (.slice U8) x.1 : Int) + ((cost (.slice U9) x.2 : Int) + (0)) from by simp only [U10, cost]; omega]
  unfold F28
  refine sz_call (sz44 k _ left hk (hok.1) h0 hl) h0 hl (by omega) fun L1 h1 l1 => ?_
  refine sz_call (sz45 k _ L1 hk (hok.2) h1 l1) h1 l1 (by omega) fun L2 h2 l2 => ?_
  exact sz_end h2

theorem sz46 : szOk U11 F46 := by
  intro k (x : D11) left hk hok h0 hl
  rw [show (cost U11 x : Int) = (x.1.size : Int) + ((cost U2 x.2.2.2.2.2.1 : Int) + ((cost U3 x.2.2.2.2.2.2.1 : Int) + (0))) from by simp only [U11, cost]; omega]
  unfold F46
  refine sz_str (hok.1) h0 hl (by omega) fun L1 w1 h1 l1 => ?_
  rw [w1]
  refine sz_call (sz58 k _ L1 hk (hok.2.2.2.2.2.1) h1 l1) h1 l1 (by omega) fun L2 h2 l2 => ?_
  refine sz_call (sz60 k _ L2 hk (hok.2.2.2.2.2.2.1) h2 l2) h2 l2 (by omega) fun L3 h3 l3 => ?_
  exact sz_end h3

theorem sz29 : szOk (.slice U11) F29 := sz_list (e := U11) (G := F46) sz46

theorem sz64 : szOk U12 F64 := by
  intro k (x : D12) left hk hok h0 hl
  rw [show (cost U12 x : Int) = (x.1.size : Int) + ((x.2.1.size : Int) + ((cost (.slice U1) x.2.2.2.2.2.2 : Int) + (0))) from by simp only [U12, cost]; omega]
  unfold F64
  refine sz_str (hok.1) h0 hl (by omega) fun L1 w1 h1 l1 => ?_
  rw [w1]
  refine sz_str (hok.2.1) h1 l1 (by omega) fun L2 w2 h2 l2 => ?_
  rw [w2]
  refine sz_call (sz79 k _ L2 hk (hok.2.2.2.2.2.2) h2 l2) h2 l2 (by omega) fun L3 h3 l3 => ?_
  exact sz_end h3

theorem sz47 : szOk (.slice U12) F47 := sz_list (e := U12) (G := F64) sz64

theorem sz30 : szOk U13 F30 := by
  intro k (x : D13) left hk hok h0 hl
  rw [show (cost U13 x : Int) = (cost (.slice U12) x : Int) + (0) from by simp only [U13, cost]; omega]
  unfold F30
  refine sz_call (sz47 k _ left hk (hok) h0 hl) h0 hl (by omega) fun L1 h1 l1 => ?_
  exact sz_end h1

theorem sz13 : szOk U14 F13 := by
  intro k (x : D14) left hk hok h0 hl
  rw [show (cost U14 x : Int) = (cost (.slice U6) x.2.2.1 : Int) + ((cost U10 x.2.2.2.1 : Int) + ((cost (.slice U11) x.2.2.2.2.1 : Int) + ((cost U13 x.2.2.2.2.2.1 : Int) + ((cost (.slice U0) x.2.2.2.2.2.2 : Int) + (0))))) from by simp only [U14, cost]; omega]
  unfold F13
  refine sz_call (sz27 k _ left hk (hok.2.2.1) h0 hl) h0 hl (by omega) fun L1 h1 l1 => ?_
  refine sz_call (sz28 k _ L1 hk (hok.2.2.2.1) h1 l1) h1 l1 (by omega) fun L2 h2 l2 => ?_
  refine sz_call (sz29 k _ L2 hk (hok.2.2.2.2.1) h2 l2) h2 l2 (by omega) fun L3 h3 l3 => ?_
  refine sz_call (sz30 k _ L3 hk (hok.2.2.2.2.2.1) h3 l3) h3 l3 (by omega) fun L4 h4 l4 => ?_
  refine sz_call (sz6 k _ L4 hk (hok.2.2.2.2.2.2) h4 l4) h4 l4 (by omega) fun L5 h5 l5 => ?_
  exact sz_end h5

theorem to90 : toOk U1 F90 := by
  intro k (x : D1) hk hx
  unfold F90
  rfl

theorem to82 : toOk (.slice U1) F82 := to_list (e := U1) (G := F90) to90

theorem to65 : toOk U2 F65 := by
  intro k (x : D2) hk hx
  unfold F65
  rw [to82 k x.2.2.1 hk (by simp only [U2, cost] at hx ⊢; omega), Option.bind_some]

theorem to67 : toOk U3 F67 := by
  intro k (x : D3) hk hx
  unfold F67
  rw [to82 k x.2.1 hk (by simp only [U3, cost] at hx ⊢; omega), Option.bind_some]

theorem to66 : toOk U4 F66 := by
  intro k (x : D4) hk hx
  unfold F66
  rw [to82 k x.2.1 hk (by simp only [U4, cost] at hx ⊢; omega), Option.bind_some]
  rw [to67 k x.2.2.1 hk (by simp only [U4, cost] at hx ⊢; omega), Option.bind_some]

theorem to83 : toOk U5 F83 := by
  intro k (x : D5) hk hx
  unfold F83
  rw [to67 k x.2 hk (by simp only [U5, cost] at hx ⊢; omega), Option.bind_some]

theorem to68 : toOk (.slice U5) F68 := to_list (e := U5) (G := F83) to83

theorem to48 : toOk U6 F48 := by
  intro k (x : D6) hk hx
  unfold F48
  rw [to65 k x.2.2.2.1 hk (by simp only [U6, cost] at hx ⊢; omega), Option.bind_some]
  rw [to65 k x.2.2.2.2.1 hk (by simp only [U6, cost] at hx ⊢; omega), Option.bind_some]
  rw [to66 k x.2.2.2.2.2.1 hk (by simp only [U6, cost] at hx ⊢; omega), Option.bind_some]
  rw [to67 k x.2.2.2.2.2.2.2.2.2.2.2.2.1 hk (by simp only [U6, cost] at hx ⊢; omega), Option.bind_some]
  rw [to68 k x.2.2.2.2.2.2.2.2.2.2.2.2.2 hk (by simp only [U6, cost] at hx ⊢; omega), Option.bind_some]

theorem to31 : toOk (.slice U6) F31 := to_list (e := U6) (G := F48) to48

theorem to91 : toOk U7 F91 := by
  intro k (x : D7) hk hx
  unfold F91
  rw [to66 k x.1 hk (by simp only [U7, cost] at hx ⊢; omega), Option.bind_some]

theorem to84 : toOk (.slice U7) F84 := to_list (e := U7) (G := F91) to91

theorem to69 : toOk U8 F69 := by
  intro k (x : D8) hk hx
  unfold F69
  rw [to84 k x.2.2.1 hk (by simp only [U8, cost] at hx ⊢; omega), Option.bind_some]

theorem to49 : toOk (.slice U8) F49 := to_list (e := U8) (G := F69) to69

theorem to70 : toOk U9 F70 := by
  intro k (x : D9) hk hx
  unfold F70
  rfl

theorem to50 : toOk (.slice U9) F50 := to_list (e := U9) (G := F70) to70

theorem to32 : toOk U10 F32 := by
  intro k (x : D10) hk hx
  unfold F32
  rw [to49 k x.1 hk (by simp only [U10, cost] at hx ⊢; omega), Option.bind_some]
  rw [to50 k x.2 hk (by simp only [U10, cost] at hx ⊢; omega), Option.bind_some]

theorem to51 : toOk U11 F51 := by
  intro k (x : D11) hk hx
  unfold F51
  rw [to65 k x.2.2.2.2.2.1 hk (by simp only [U11, cost] at hx ⊢; omega), Option.bind_some]
  rw [to67 k x.2.2.2.2.2.2.1 hk (by simp only [U11, cost] at hx ⊢; omega), Option.bind_some]

theorem to33 : toOk (.slice U11) F33 := to_list (e := U11) (G := F51) to51

theorem to71 : toOk U12 F71 := by
  intro k (x : D12) hk hx
  unfold F71
  rw [to82 k x.2.2.2.2.2.2 hk (by simp only [U12, cost] at hx ⊢; omega), Option.bind_some]

theorem to52 : toOk (.slice U12) F52 := to_list (e := U12) (G := F71) to71

theorem to34 : toOk U13 F34 := by
  intro k (x : D13) hk hx
  unfold F34
  rw [to52 k x hk (by simp only [U13, cost] at hx ⊢; omega), Option.bind_some]

theorem to15 : toOk U14 F15 := by
  intro k (x : D14) hk hx
  unfold F15
  rw [to31 k x.2.2.1 hk (by simp only [U14, cost] at hx ⊢; omega), Option.bind_some]
  rw [to32 k x.2.2.2.1 hk (by simp only [U14, cost] at hx ⊢; omega), Option.bind_some]
  rw [to33 k x.2.2.2.2.1 hk (by simp only [U14, cost] at hx ⊢; omega), Option.bind_some]
  rw [to34 k x.2.2.2.2.2.1 hk (by simp only [U14, cost] at hx ⊢; omega), Option.bind_some]
  rw [to8 k x.2.2.2.2.2.2 hk (by simp only [U14, cost] at hx ⊢; omega), Option.bind_some]

theorem eq92 : eqOk U1 F92 := by
  intro k (x : D1) hk hx
  unfold F92
  simp only [eq_self, decide_true, Bool.not_true, cond_false, Option.bind_some, beq_self_eq_true]

theorem eq85 : eqOk (.slice U1) F85 := eq_list (e := U1) (G := F92) eq92

theorem eq72 : eqOk U2 F72 := by
  intro k (x : D2) hk hx
  unfold F72
  have e0 := eq85 k x.2.2.1 hk (by simp only [U2, cost] at hx ⊢; omega)
  simp only [e0, eq_self, decide_true, Bool.not_true, cond_false, Option.bind_some, beq_self_eq_true]

theorem eq74 : eqOk U3 F74 := by
  intro k (x : D3) hk hx
  unfold F74
  have e0 := eq85 k x.2.1 hk (by simp only [U3, cost] at hx ⊢; omega)
  simp only [e0, eq_self, decide_true, Bool.not_true, cond_false, Option.bind_some, beq_self_eq_true]

theorem eq73 : eqOk U4 F73 := by
  intro k (x : D4) hk hx
  unfold F73
  have e0 := eq74 k x.2.2.1 hk (by simp only [U4, cost] at hx ⊢; omega)
  have e1 := eq85 k x.2.1 hk (by simp only [U4, cost] at hx ⊢; omega)
  simp only [e0, e1, eq_self, decide_true, Bool.not_true, cond_false, Option.bind_some, beq_self_eq_true]

theorem eq86 : eqOk U5 F86 := by
  intro k (x : D5) hk hx
  unfold F86
  have e0 := eq74 k x.2 hk (by simp only [U5, cost] at hx ⊢; omega)
  simp only [e0, eq_self, decide_true, Bool.not_true, cond_false, Option.bind_some, beq_self_eq_true]

theorem eq75 : eqOk (.slice U5) F75 := eq_list (e := U5) (G := F86) eq86

theorem eq53 : eqOk U6 F53 := by
  intro k (x : D6) hk hx
  unfold F53
  have e0 := eq72 k x.2.2.2.1 hk (by simp only [U6, cost] at hx ⊢; omega)
  have e1 := eq72 k x.2.2.2.2.1 hk (by simp only [U6, cost] at hx ⊢; omega)
  have e2 := eq73 k x.2.2.2.2.2.1 hk (by simp only [U6, cost] at hx ⊢; omega)
  have e3 := eq74 k x.2.2.2.2.2.2.2.2.2.2.2.2.1 hk (by simp only [U6, cost] at hx ⊢; omega)
  have e4 := eq75 k x.2.2.2.2.2.2.2.2.2.2.2.2.2 hk (by simp only [U6, cost] at hx ⊢; omega)
  simp only [e0, e1, e2, e3, e4, eq_self, decide_true, Bool.not_true, cond_false, Option.bind_some, beq_self_eq_true]

theorem eq35 : eqOk (.slice U6) F35 := eq_list (e := U6) (G := F53) eq53

theorem eq93 : eqOk U7 F93 := by
  intro k (x : D7) hk hx
  unfold F93
  have e0 := eq73 k x.1 hk (by simp only [U7, cost] at hx ⊢; omega)
  simp only [e0, eq_self, decide_true, Bool.not_true, cond_false, Option.bind_some, beq_self_eq_true]

theorem eq87 : eqOk (.slice U7) F87 := eq_list (e := U7) (G := F93) eq93

theorem eq76 : eqOk U8 F76 := by
  intro k (x : D8) hk hx
  unfold F76
  have e0 := eq87 k x.2.2.1 hk (by simp only [U8, cost] at hx ⊢; omega)
  simp only [e0, eq_self, decide_true, Bool.not_true, cond_false, Option.bind_some, beq_self_eq_true]

theorem eq54 : eqOk (.slice U8) F54 := eq_list (e := U8) (G := F76) eq76

theorem eq77 : eqOk U9 F77 := by
  intro k (x : D9) hk hx
  unfold F77
  simp only [eq_self, decide_true, Bool.not_true, cond_false, Option.bind_some, beq_self_eq_true]

theorem eq55 : eqOk (.slice U9) F55 := eq_list (e := U9) (G := F77) eq77

theorem eq36 : eqOk U10 F36 := by
  intro k (x : D10) hk hx
  unfold F36
  have e0 := eq54 k x.1 hk (by simp only [U10, cost] at hx ⊢; omega)
  have e1 := eq55 k x.2 hk (by simp only [U10, cost] at hx ⊢; omega)
  simp only [e0, e1, eq_self, decide_true, Bool.not_true, cond_false, Option.bind_some, beq_self_eq_true]

theorem eq56 : eqOk U11 F56 := by
  intro k (x : D11) hk hx
  unfold F56
  have e0 := eq72 k x.2.2.2.2.2.1 hk (by simp only [U11, cost] at hx ⊢; omega)
  have e1 := eq74 k x.2.2.2.2.2.2.1 hk (by simp only [U11, cost] at hx ⊢; omega)
  simp only [e0, e1, eq_self, decide_true, Bool.not_true, cond_false, Option.bind_some, beq_self_eq_true]

theorem eq37 : eqOk (.slice U11) F37 := eq_list (e := U11) (G := F56) eq56

theorem eq78 : eqOk U12 F78 := by
  intro k (x : D12) hk hx
  unfold F78
  have e0 := eq85 k x.2.2.2.2.2.2 hk (by simp only [U12, cost] at hx ⊢; omega)
  simp only [e0, eq_self, decide_true, Bool.not_true, cond_false, Option.bind_some, beq_self_eq_true]

theorem eq57 : eqOk (.slice U12) F57 := eq_list (e := U12) (G := F78) eq78

theorem eq38 : eqOk U13 F38 := by
  intro k (x : D13) hk hx
  unfold F38
  have e0 := eq57 k x hk (by simp only [U13, cost] at hx ⊢; omega)
  simp only [e0, eq_self, decide_true, Bool.not_true, cond_false, Option.bind_some, beq_self_eq_true]

theorem eq17 : eqOk U14 F17 := by
  intro k (x : D14) hk hx
  unfold F17
  have e0 := eq10 k x.2.2.2.2.2.2 hk (by simp only [U14, cost] at hx ⊢; omega)
  have e1 := eq35 k x.2.2.1 hk (by simp only [U14, cost] at hx ⊢; omega)
  have e2 := eq36 k x.2.2.2.1 hk (by simp only [U14, cost] at hx ⊢; omega)
  have e3 := eq37 k x.2.2.2.2.1 hk (by simp only [U14, cost] at hx ⊢; omega)
  have e4 := eq38 k x.2.2.2.2.2.1 hk (by simp only [U14, cost] at hx ⊢; omega)
  simp only [e0, e1, e2, e3, e4, eq_self, decide_true, Bool.not_true, cond_false, Option.bind_some, beq_self_eq_true]
end Go.Proofs.Ythbdlnhcioolgaa.Fns

/- The plain laws of the functions that each law uses: sizes, copies, comparisons. -/
import Derived.Test.YtcaknaddeblecaaGreatDoorFns
import Derived.Test.YtcaknaddeblecaaGreatDoorEvPl
namespace Go.Proofs.YtcaknaddeblecaaGreatDoor.Fns
open Go Go.RowKit Go.Proofs Go.Proofs.YtcaknaddeblecaaGreatDoor.Ev Go.Proofs.YtcaknaddeblecaaGreatDoor.Pl
set_option maxRecDepth 100000
set_option linter.unusedVariables false
set_option linter.unusedSimpArgs false
theorem sz90 : szOk U0 F90 := by
  intro k (x : D0) left hk hok h0 hl
  rw [show (cost U0 x : Int) = (x.1.size : Int) + ((x.2.size : Int) + (0)) from by simp only [U0, cost]; omega]
  unfold F90
  refine sz_str (hok.1) h0 hl (by omega) fun L1 w1 h1 l1 => ?_
  rw [w1]
  refine sz_str (hok.2) h1 l1 (by omega) fun L2 w2 h2 l2 => ?_
  rw [w2]
  exact sz_end h2

theorem sz33 : szOk (.slice U0) F33 := sz_list (e := U0) (G := F90) sz90

theorem sz34 : szOk U1 F34 := by
  intro k (x : D1) left hk hok h0 hl
  rw [show (cost U1 x : Int) = (cost (.slice U0) x.2.1 : Int) + ((x.2.2.size : Int) + (0)) from by simp only [U1, cost]; omega]
  unfold F34
  refine sz_call (sz33 k _ left hk (hok.2.1) h0 hl) h0 hl (by omega) fun L1 h1 l1 => ?_
  refine sz_str (hok.2.2) h1 l1 (by omega) fun L2 w2 h2 l2 => ?_
  rw [w2]
  exact sz_end h2

theorem sz8 : szOk U2 F8 := by
  intro k (x : D2) left hk hok h0 hl
  rw [show (cost U2 x : Int) = (x.1.size : Int) + ((cost (.slice U0) x.2.1 : Int) + ((cost U1 x.2.2.1 : Int) + (0))) from by simp only [U2, cost]; omega]
  unfold F8
  refine sz_str (hok.1) h0 hl (by omega) fun L1 w1 h1 l1 => ?_
  rw [w1]
  refine sz_call (sz33 k _ L1 hk (hok.2.1) h1 l1) h1 l1 (by omega) fun L2 h2 l2 => ?_
  refine sz_call (sz34 k _ L2 hk (hok.2.2.1) h2 l2) h2 l2 (by omega) fun L3 h3 l3 => ?_
  exact sz_end h3

theorem to96 : toOk U0 F96 := by
  intro k (x : D0) hk hx
  unfold F96
  rfl

theorem to39 : toOk (.slice U0) F39 := to_list (e := U0) (G := F96) to96

theorem to40 : toOk U1 F40 := by
  intro k (x : D1) hk hx
  unfold F40
  rw [to39 k x.2.1 hk (by simp only [U1, cost] at hx ⊢; omega), Option.bind_some]

theorem to10 : toOk U2 F10 := by
  intro k (x : D2) hk hx
  unfold F10
  rw [to39 k x.2.1 hk (by simp only [U2, cost] at hx ⊢; omega), Option.bind_some]
  rw [to40 k x.2.2.1 hk (by simp only [U2, cost] at hx ⊢; omega), Option.bind_some]

theorem eq103 : eqOk U0 F103 := by
  intro k (x : D0) hk hx
  unfold F103
  simp only [eq_self, decide_true, Bool.not_true, cond_false, Option.bind_some, beq_self_eq_true]

theorem eq45 : eqOk (.slice U0) F45 := eq_list (e := U0) (G := F103) eq103

theorem eq46 : eqOk U1 F46 := by
  intro k (x : D1) hk hx
  unfold F46
  have e0 := eq45 k x.2.1 hk (by simp only [U1, cost] at hx ⊢; omega)
  simp only [e0, eq_self, decide_true, Bool.not_true, cond_false, Option.bind_some, beq_self_eq_true]

theorem eq12 : eqOk U2 F12 := by
  intro k (x : D2) hk hx
  unfold F12
  have e0 := eq45 k x.2.1 hk (by simp only [U2, cost] at hx ⊢; omega)
  have e1 := eq46 k x.2.2.1 hk (by simp only [U2, cost] at hx ⊢; omega)
  simp only [e0, e1, eq_self, decide_true, Bool.not_true, cond_false, Option.bind_some, beq_self_eq_true]

theorem sz104 : szOk U3 F104 := by
  intro k (x : D3) left hk hok h0 hl
  rw [show (cost U3 x : Int) = (cost U2 x.1 : Int) + (0) from by simp only [U3, cost]; omega]
  unfold F104
  refine sz_call (sz8 k _ left hk (hok.1) h0 hl) h0 hl (by omega) fun L1 h1 l1 => ?_
  exact sz_end h1

theorem sz47 : szOk (.slice U3) F47 := sz_list (e := U3) (G := F104) sz104

theorem sz13 : szOk U4 F13 := by
  intro k (x : D4) left hk hok h0 hl
  rw [show (cost U4 x : Int) = (cost (.slice U3) x.2.2.1 : Int) + (0) from by simp only [U4, cost]; omega]
  unfold F13
  refine sz_call (sz47 k _ left hk (hok.2.2.1) h0 hl) h0 hl (by omega) fun L1 h1 l1 => ?_
  exact sz_end h1

theorem to107 : toOk U3 F107 := by
  intro k (x : D3) hk hx
  unfold F107
  rw [to10 k x.1 hk (by simp only [U3, cost] at hx ⊢; omega), Option.bind_some]

theorem to50 : toOk (.slice U3) F50 := to_list (e := U3) (G := F107) to107

theorem to15 : toOk U4 F15 := by
  intro k (x : D4) hk hx
  unfold F15
  rw [to50 k x.2.2.1 hk (by simp only [U4, cost] at hx ⊢; omega), Option.bind_some]

theorem eq117 : eqOk U3 F117 := by
  intro k (x : D3) hk hx
  unfold F117
  have e0 := eq12 k x.1 hk (by simp only [U3, cost] at hx ⊢; omega)
  simp only [e0, eq_self, decide_true, Bool.not_true, cond_false, Option.bind_some, beq_self_eq_true]

theorem eq54 : eqOk (.slice U3) F54 := eq_list (e := U3) (G := F117) eq117

theorem eq17 : eqOk U4 F17 := by
  intro k (x : D4) hk hx
  unfold F17
  have e0 := eq54 k x.2.2.1 hk (by simp only [U4, cost] at hx ⊢; omega)
  simp only [e0, eq_self, decide_true, Bool.not_true, cond_false, Option.bind_some, beq_self_eq_true]

theorem sz55 : szOk (.slice U4) F55 := sz_list (e := U4) (G := F13) sz13

theorem sz118 : szOk U5 F118 := by
  intro k (x : D5) left hk hok h0 hl
  rw [show (cost U5 x : Int) = (x.1.size : Int) + (0) from by simp only [U5, cost]; omega]
  unfold F118
  refine sz_str (hok.1) h0 hl (by omega) fun L1 w1 h1 l1 => ?_
  rw [w1]
  exact sz_end h1

theorem sz56 : szOk (.slice U5) F56 := sz_list (e := U5) (G := F118) sz118

theorem sz18 : szOk U6 F18 := by
  intro k (x : D6) left hk hok h0 hl
  rw [show (cost U6 x : Int) = (cost (.slice U4) x.1 : Int) + ((cost (.slice U5) x.2 : Int) + (0)) from by simp only [U6, cost]; omega]
  unfold F18
  refine sz_call (sz55 k _ left hk (hok.1) h0 hl) h0 hl (by omega) fun L1 h1 l1 => ?_
  refine sz_call (sz56 k _ L1 hk (hok.2) h1 l1) h1 l1 (by omega) fun L2 h2 l2 => ?_
  exact sz_end h2

theorem to58 : toOk (.slice U4) F58 := to_list (e := U4) (G := F15) to15

theorem to120 : toOk U5 F120 := by
  intro k (x : D5) hk hx
  unfold F120
  rfl

theorem to59 : toOk (.slice U5) F59 := to_list (e := U5) (G := F120) to120

theorem to20 : toOk U6 F20 := by
  intro k (x : D6) hk hx
  unfold F20
  rw [to58 k x.1 hk (by simp only [U6, cost] at hx ⊢; omega), Option.bind_some]
  rw [to59 k x.2 hk (by simp only [U6, cost] at hx ⊢; omega), Option.bind_some]

theorem eq62 : eqOk (.slice U4) F62 := eq_list (e := U4) (G := F17) eq17

theorem eq123 : eqOk U5 F123 := by
  intro k (x : D5) hk hx
  unfold F123
  simp only [eq_self, decide_true, Bool.not_true, cond_false, Option.bind_some, beq_self_eq_true]

theorem eq63 : eqOk (.slice U5) F63 := eq_list (e := U5) (G := F123) eq123

theorem eq22 : eqOk U6 F22 := by
  intro k (x : D6) hk hx
  unfold F22
  have e0 := eq62 k x.1 hk (by simp only [U6, cost] at hx ⊢; omega)
  have e1 := eq63 k x.2 hk (by simp only [U6, cost] at hx ⊢; omega)
  simp only [e0, e1, eq_self, decide_true, Bool.not_true, cond_false, Option.bind_some, beq_self_eq_true]

theorem sz24 : szOk U7 F24 := by
  intro k (x : D7) left hk hok h0 hl
  rw [show (cost U7 x : Int) = (x.1.size : Int) + ((x.2.1.size : Int) + ((cost (.slice U0) x.2.2.1 : Int) + ((x.2.2.2.size : Int) + (0)))) from by simp only [U7, cost]; omega]
  unfold F24
  refine sz_str (hok.1) h0 hl (by omega) fun L1 w1 h1 l1 => ?_
  rw [w1]
  refine sz_str (hok.2.1) h1 l1 (by omega) fun L2 w2 h2 l2 => ?_
  rw [w2]
  refine sz_call (sz33 k _ L2 hk (hok.2.2.1) h2 l2) h2 l2 (by omega) fun L3 h3 l3 => ?_
  refine sz_str (hok.2.2.2) h3 l3 (by omega) fun L4 w4 h4 l4 => ?_
  rw [w4]
  exact sz_end h4

theorem sz179 : szOk U8 F179 := by
  intro k (x : D8) left hk hok h0 hl
  rw [show (cost U8 x : Int) = (cost U1 x.2 : Int) + (0) from by simp only [U8, cost]; omega]
  unfold F179
  refine sz_call (sz34 k _ left hk (hok.2) h0 hl) h0 hl (by omega) fun L1 h1 l1 => ?_
  exact sz_end h1

theorem sz157 : szOk (.slice U8) F157 := sz_list (e := U8) (G := F179) sz179

theorem sz124 : szOk U9 F124 := by
  intro k (x : D9) left hk hok h0 hl
  rw [show (cost U9 x : Int) = (x.2.1.size : Int) + ((cost U7 x.2.2.2.1 : Int) + ((cost U7 x.2.2.2.2.1 : Int) + ((cost U2 x.2.2.2.2.2.1 : Int) + ((cost U1 x.2.2.2.2.2.2.2.2.2.2.2.2.1 : Int) + ((cost (.slice U8) x.2.2.2.2.2.2.2.2.2.2.2.2.2 : Int) + (0)))))) from by simp only [U9, cost]; omega]
  unfold F124
  refine sz_str (hok.2.1) h0 hl (by omega) fun L1 w1 h1 l1 => ?_
  rw [w1]
  refine sz_call (sz24 k _ L1 hk (hok.2.2.2.1) h1 l1) h1 l1 (by omega) fun L2 h2 l2 => ?_
  refine sz_call (sz24 k _ L2 hk (hok.2.2.2.2.1) h2 l2) h2 l2 (by omega) fun L3 h3 l3 => ?_
  refine sz_call (sz8 k _ L3 hk (hok.2.2.2.2.2.1) h3 l3) h3 l3 (by omega) fun L4 h4 l4 => ?_
  refine sz_call (sz34 k _ L4 hk (hok.2.2.2.2.2.2.2.2.2.2.2.2.1) h4 l4) h4 l4 (by omega) fun L5 h5 l5 => ?_
  refine sz_call (sz157 k _ L5 hk (hok.2.2.2.2.2.2.2.2.2.2.2.2.2) h5 l5) h5 l5 (by omega) fun L6 h6 l6 => ?_
  exact sz_end h6

theorem sz64 : szOk (.slice U9) F64 := sz_list (e := U9) (G := F124) sz124

theorem sz125 : szOk U10 F125 := by
  intro k (x : D10) left hk hok h0 hl
  rw [show (cost U10 x : Int) = (x.1.size : Int) + ((cost U7 x.2.2.2.2.2.1 : Int) + ((cost U1 x.2.2.2.2.2.2.1 : Int) + (0))) from by simp only [U10, cost]; omega]
  unfold F125
  refine sz_str (hok.1) h0 hl (by omega) fun L1 w1 h1 l1 => ?_
  rw [w1]
  refine sz_call (sz24 k _ L1 hk (hok.2.2.2.2.2.1) h1 l1) h1 l1 (by omega) fun L2 h2 l2 => ?_
  refine sz_call (sz34 k _ L2 hk (hok.2.2.2.2.2.2.1) h2 l2) h2 l2 (by omega) fun L3 h3 l3 => ?_
  exact sz_end h3

theorem sz65 : szOk (.slice U10) F65 := sz_list (e := U10) (G := F125) sz125

theorem sz158 : szOk U11 F158 := by
  intro k (x : D11) left hk hok h0 hl
  rw [show (cost U11 x : Int) = (x.1.size : Int) + ((x.2.1.size : Int) + ((cost (.slice U0) x.2.2.2.2.2.2 : Int) + (0))) from by simp only [U11, cost]; omega]
  unfold F158
  refine sz_str (hok.1) h0 hl (by omega) fun L1 w1 h1 l1 => ?_
  rw [w1]
  refine sz_str (hok.2.1) h1 l1 (by omega) fun L2 w2 h2 l2 => ?_
  rw [w2]
  refine sz_call (sz33 k _ L2 hk (hok.2.2.2.2.2.2) h2 l2) h2 l2 (by omega) fun L3 h3 l3 => ?_
  exact sz_end h3

theorem sz126 : szOk (.slice U11) F126 := sz_list (e := U11) (G := F158) sz158

theorem sz66 : szOk U12 F66 := by
  intro k (x : D12) left hk hok h0 hl
  rw [show (cost U12 x : Int) = (cost (.slice U11) x : Int) + (0) from by simp only [U12, cost]; omega]
  unfold F66
  refine sz_call (sz126 k _ left hk (hok) h0 hl) h0 hl (by omega) fun L1 h1 l1 => ?_
  exact sz_end h1

theorem sz127 : szOk U13 F127 := by
  intro k (x : D13) left hk hok h0 hl
  rw [show (cost U13 x : Int) = (x.2.2.2.1.size : Int) + (0) from by simp only [U13, cost]; omega]
  unfold F127
  refine sz_str (hok.2.2.2.1) h0 hl (by omega) fun L1 w1 h1 l1 => ?_
  rw [w1]
  exact sz_end h1

theorem sz67 : szOk (.slice U13) F67 := sz_list (e := U13) (G := F127) sz127

theorem sz23 : szOk U14 F23 := by
  intro k (x : D14) left hk hok h0 hl
  rw [show (cost U14 x : Int) = (cost (.slice U9) x.2.2.1 : Int) + ((cost U6 x.2.2.2.1 : Int) + ((cost (.slice U10) x.2.2.2.2.1 : Int) + ((cost U12 x.2.2.2.2.2.1 : Int) + ((cost (.slice U13) x.2.2.2.2.2.2 : Int) + (0))))) from by simp only [U14, cost]; omega]
  unfold F23
  refine sz_call (sz64 k _ left hk (hok.2.2.1) h0 hl) h0 hl (by omega) fun L1 h1 l1 => ?_
  refine sz_call (sz18 k _ L1 hk (hok.2.2.2.1) h1 l1) h1 l1 (by omega) fun L2 h2 l2 => ?_
  refine sz_call (sz65 k _ L2 hk (hok.2.2.2.2.1) h2 l2) h2 l2 (by omega) fun L3 h3 l3 => ?_
  refine sz_call (sz66 k _ L3 hk (hok.2.2.2.2.2.1) h3 l3) h3 l3 (by omega) fun L4 h4 l4 => ?_
  refine sz_call (sz67 k _ L4 hk (hok.2.2.2.2.2.2) h4 l4) h4 l4 (by omega) fun L5 h5 l5 => ?_
  exact sz_end h5

theorem to27 : toOk U7 F27 := by
  intro k (x : D7) hk hx
  unfold F27
  rw [to39 k x.2.2.1 hk (by simp only [U7, cost] at hx ⊢; omega), Option.bind_some]

theorem to183 : toOk U8 F183 := by
  intro k (x : D8) hk hx
  unfold F183
  rw [to40 k x.2 hk (by simp only [U8, cost] at hx ⊢; omega), Option.bind_some]

theorem to160 : toOk (.slice U8) F160 := to_list (e := U8) (G := F183) to183

theorem to130 : toOk U9 F130 := by
  intro k (x : D9) hk hx
  unfold F130
  rw [to27 k x.2.2.2.1 hk (by simp only [U9, cost] at hx ⊢; omega), Option.bind_some]
  rw [to27 k x.2.2.2.2.1 hk (by simp only [U9, cost] at hx ⊢; omega), Option.bind_some]
  rw [to10 k x.2.2.2.2.2.1 hk (by simp only [U9, cost] at hx ⊢; omega), Option.bind_some]
  rw [to40 k x.2.2.2.2.2.2.2.2.2.2.2.2.1 hk (by simp only [U9, cost] at hx ⊢; omega), Option.bind_some]
  rw [to160 k x.2.2.2.2.2.2.2.2.2.2.2.2.2 hk (by simp only [U9, cost] at hx ⊢; omega), Option.bind_some]

theorem to70 : toOk (.slice U9) F70 := to_list (e := U9) (G := F130) to130

theorem to131 : toOk U10 F131 := by
  intro k (x : D10) hk hx
  unfold F131
  rw [to27 k x.2.2.2.2.2.1 hk (by simp only [U10, cost] at hx ⊢; omega), Option.bind_some]
  rw [to40 k x.2.2.2.2.2.2.1 hk (by simp only [U10, cost] at hx ⊢; omega), Option.bind_some]

theorem to71 : toOk (.slice U10) F71 := to_list (e := U10) (G := F131) to131

theorem to161 : toOk U11 F161 := by
  intro k (x : D11) hk hx
  unfold F161
  rw [to39 k x.2.2.2.2.2.2 hk (by simp only [U11, cost] at hx ⊢; omega), Option.bind_some]

theorem to132 : toOk (.slice U11) F132 := to_list (e := U11) (G := F161) to161

theorem to72 : toOk U12 F72 := by
  intro k (x : D12) hk hx
  unfold F72
  rw [to132 k x hk (by simp only [U12, cost] at hx ⊢; omega), Option.bind_some]

theorem to133 : toOk U13 F133 := by
  intro k (x : D13) hk hx
  unfold F133
  rfl

theorem to73 : toOk (.slice U13) F73 := to_list (e := U13) (G := F133) to133

theorem to26 : toOk U14 F26 := by
  intro k (x : D14) hk hx
  unfold F26
  rw [to70 k x.2.2.1 hk (by simp only [U14, cost] at hx ⊢; omega), Option.bind_some]
  rw [to20 k x.2.2.2.1 hk (by simp only [U14, cost] at hx ⊢; omega), Option.bind_some]
  rw [to71 k x.2.2.2.2.1 hk (by simp only [U14, cost] at hx ⊢; omega), Option.bind_some]
  rw [to72 k x.2.2.2.2.2.1 hk (by simp only [U14, cost] at hx ⊢; omega), Option.bind_some]
  rw [to73 k x.2.2.2.2.2.2 hk (by simp only [U14, cost] at hx ⊢; omega), Option.bind_some]

theorem eq30 : eqOk U7 F30 := by
  intro k (x : D7) hk hx
  unfold F30
  have e0 := eq45 k x.2.2.1 hk (by simp only [U7, cost] at hx ⊢; omega)
  simp only [e0, eq_self, decide_true, Bool.not_true, cond_false, Option.bind_some, beq_self_eq_true]

theorem eq188 : eqOk U8 F188 := by
  intro k (x : D8) hk hx
  unfold F188
  have e0 := eq46 k x.2 hk (by simp only [U8, cost] at hx ⊢; omega)
  simp only [e0, eq_self, decide_true, Bool.not_true, cond_false, Option.bind_some, beq_self_eq_true]

theorem eq166 : eqOk (.slice U8) F166 := eq_list (e := U8) (G := F188) eq188

theorem eq136 : eqOk U9 F136 := by
  intro k (x : D9) hk hx
  unfold F136
  have e0 := eq12 k x.2.2.2.2.2.1 hk (by simp only [U9, cost] at hx ⊢; omega)
  have e1 := eq166 k x.2.2.2.2.2.2.2.2.2.2.2.2.2 hk (by simp only [U9, cost] at hx ⊢; omega)
  have e2 := eq30 k x.2.2.2.1 hk (by simp only [U9, cost] at hx ⊢; omega)
  have e3 := eq30 k x.2.2.2.2.1 hk (by simp only [U9, cost] at hx ⊢; omega)
  have e4 := eq46 k x.2.2.2.2.2.2.2.2.2.2.2.2.1 hk (by simp only [U9, cost] at hx ⊢; omega)
  simp only [e0, e1, e2, e3, e4, eq_self, decide_true, Bool.not_true, cond_false, Option.bind_some, beq_self_eq_true]

theorem eq78 : eqOk (.slice U9) F78 := eq_list (e := U9) (G := F136) eq136

theorem eq137 : eqOk U10 F137 := by
  intro k (x : D10) hk hx
  unfold F137
  have e0 := eq30 k x.2.2.2.2.2.1 hk (by simp only [U10, cost] at hx ⊢; omega)
  have e1 := eq46 k x.2.2.2.2.2.2.1 hk (by simp only [U10, cost] at hx ⊢; omega)
  simp only [e0, e1, eq_self, decide_true, Bool.not_true, cond_false, Option.bind_some, beq_self_eq_true]

theorem eq79 : eqOk (.slice U10) F79 := eq_list (e := U10) (G := F137) eq137

theorem eq167 : eqOk U11 F167 := by
  intro k (x : D11) hk hx
  unfold F167
  have e0 := eq45 k x.2.2.2.2.2.2 hk (by simp only [U11, cost] at hx ⊢; omega)
  simp only [e0, eq_self, decide_true, Bool.not_true, cond_false, Option.bind_some, beq_self_eq_true]

theorem eq138 : eqOk (.slice U11) F138 := eq_list (e := U11) (G := F167) eq167

theorem eq80 : eqOk U12 F80 := by
  intro k (x : D12) hk hx
  unfold F80
  have e0 := eq138 k x hk (by simp only [U12, cost] at hx ⊢; omega)
  simp only [e0, eq_self, decide_true, Bool.not_true, cond_false, Option.bind_some, beq_self_eq_true]

theorem eq139 : eqOk U13 F139 := by
  intro k (x : D13) hk hx
  unfold F139
  simp only [eq_self, decide_true, Bool.not_true, cond_false, Option.bind_some, beq_self_eq_true]

theorem eq81 : eqOk (.slice U13) F81 := eq_list (e := U13) (G := F139) eq139

theorem eq29 : eqOk U14 F29 := by
  intro k (x : D14) hk hx
  unfold F29
  have e0 := eq22 k x.2.2.2.1 hk (by simp only [U14, cost] at hx ⊢; omega)
  have e1 := eq78 k x.2.2.1 hk (by simp only [U14, cost] at hx ⊢; omega)
  have e2 := eq79 k x.2.2.2.2.1 hk (by simp only [U14, cost] at hx ⊢; omega)
  have e3 := eq80 k x.2.2.2.2.2.1 hk (by simp only [U14, cost] at hx ⊢; omega)
  have e4 := eq81 k x.2.2.2.2.2.2 hk (by simp only [U14, cost] at hx ⊢; omega)
  simp only [e0, e1, e2, e3, e4, eq_self, decide_true, Bool.not_true, cond_false, Option.bind_some, beq_self_eq_true]
end Go.Proofs.YtcaknaddeblecaaGreatDoor.Fns

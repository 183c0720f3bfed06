/- The plain laws of the functions that each law uses: sizes, copies, comparisons. -/
import Derived.Test.YteliolfafmmhlaaGreatDoorFns
import Derived.Test.YteliolfafmmhlaaGreatDoorEv6
namespace Go.Proofs.YteliolfafmmhlaaGreatDoor.Fns
open Go Go.RowKit Go.Proofs Go.Proofs.YteliolfafmmhlaaGreatDoor.Ev Go.Proofs.YteliolfafmmhlaaGreatDoor.Pl
set_option maxRecDepth 100000
set_option linter.unusedVariables false
set_option linter.unusedSimpArgs false
theorem sz7 : szOk (.slice .str) F7 := sz_strs

theorem sz189 : szOk U0 F189 := by
  intro k (x : D0) left hk hok h0 hl
  rw [show (cost U0 x : Int) = (x.1.size : Int) + ((x.2.size : Int) + (0)) from by simp only [U0, cost]; omega]
  unfold F189
  refine sz_str (hok.1) h0 hl (by omega) fun L1 w1 h1 l1 => ?_
  rw [w1]
  refine sz_str (hok.2) h1 l1 (by omega) fun L2 w2 h2 l2 => ?_
  rw [w2]
  exact sz_end h2

theorem sz147 : szOk (.slice U0) F147 := sz_list (e := U0) (G := F189) sz189

theorem sz176 : szOk U1 F176 := by
  intro k (x : D1) left hk hok h0 hl
  rw [show (cost U1 x : Int) = (cost (.slice U0) x.2.1 : Int) + ((x.2.2.size : Int) + (0)) from by simp only [U1, cost]; omega]
  unfold F176
  refine sz_call (sz147 k _ left hk (hok.2.1) h0 hl) h0 hl (by omega) fun L1 h1 l1 => ?_
  refine sz_str (hok.2.2) h1 l1 (by omega) fun L2 w2 h2 l2 => ?_
  rw [w2]
  exact sz_end h2

theorem sz175 : szOk U2 F175 := by
  intro k (x : D2) left hk hok h0 hl
  rw [show (cost U2 x : Int) = (x.1.size : Int) + ((cost (.slice U0) x.2.1 : Int) + ((cost U1 x.2.2.1 : Int) + (0))) from by simp only [U2, cost]; omega]
  unfold F175
  refine sz_str (hok.1) h0 hl (by omega) fun L1 w1 h1 l1 => ?_
  rw [w1]
  refine sz_call (sz147 k _ L1 hk (hok.2.1) h1 l1) h1 l1 (by omega) fun L2 h2 l2 => ?_
  refine sz_call (sz176 k _ L2 hk (hok.2.2.1) h2 l2) h2 l2 (by omega) fun L3 h3 l3 => ?_
  exact sz_end h3

theorem sz188 : szOk U3 F188 := by
  intro k (x : D3) left hk hok h0 hl
  rw [show (cost U3 x : Int) = (cost U2 x.1 : Int) + (0) from by simp only [U3, cost]; omega]
  unfold F188
  refine sz_call (sz175 k _ left hk (hok.1) h0 hl) h0 hl (by omega) fun L1 h1 l1 => ?_
  exact sz_end h1

theorem sz146 : szOk (.slice U3) F146 := sz_list (e := U3) (G := F188) sz188

theorem sz88 : szOk U4 F88 := by
  intro k (x : D4) left hk hok h0 hl
  rw [show (cost U4 x : Int) = (cost (.slice U3) x.2.2.1 : Int) + (0) from by simp only [U4, cost]; omega]
  unfold F88
  refine sz_call (sz146 k _ left hk (hok.2.2.1) h0 hl) h0 hl (by omega) fun L1 h1 l1 => ?_
  exact sz_end h1

theorem sz36 : szOk (.slice U4) F36 := sz_list (e := U4) (G := F88) sz88

theorem sz89 : szOk U5 F89 := by
  intro k (x : D5) left hk hok h0 hl
  rw [show (cost U5 x : Int) = (x.1.size : Int) + (0) from by simp only [U5, cost]; omega]
  unfold F89
  refine sz_str (hok.1) h0 hl (by omega) fun L1 w1 h1 l1 => ?_
  rw [w1]
  exact sz_end h1

theorem sz37 : szOk (.slice U5) F37 := sz_list (e := U5) (G := F89) sz89

theorem sz8 : szOk U6 F8 := by
  intro k (x : D6) left hk hok h0 hl
  rw [show (cost U6 x : Int) = (cost (.slice U4) x.1 : Int) + ((cost (.slice U5) x.2 : Int) + (0)) from by simp only [U6, cost]; omega]
  unfold F8
  refine sz_call (sz36 k _ left hk (hok.1) h0 hl) h0 hl (by omega) fun L1 h1 l1 => ?_
  refine sz_call (sz37 k _ L1 hk (hok.2) h1 l1) h1 l1 (by omega) fun L2 h2 l2 => ?_
  exact sz_end h2

theorem sz90 : szOk U7 F90 := by
  intro k (x : D7) left hk hok h0 hl
  rw [show (cost U7 x : Int) = (x.1.size : Int) + ((x.2.1.size : Int) + ((cost (.slice U0) x.2.2.2.2.2.2 : Int) + (0))) from by simp only [U7, cost]; omega]
  unfold F90
  refine sz_str (hok.1) h0 hl (by omega) fun L1 w1 h1 l1 => ?_
  rw [w1]
  refine sz_str (hok.2.1) h1 l1 (by omega) fun L2 w2 h2 l2 => ?_
  rw [w2]
  refine sz_call (sz147 k _ L2 hk (hok.2.2.2.2.2.2) h2 l2) h2 l2 (by omega) fun L3 h3 l3 => ?_
  exact sz_end h3

theorem sz38 : szOk (.slice U7) F38 := sz_list (e := U7) (G := F90) sz90

theorem sz9 : szOk U8 F9 := by
  intro k (x : D8) left hk hok h0 hl
  rw [show (cost U8 x : Int) = (cost (.slice U7) x : Int) + (0) from by simp only [U8, cost]; omega]
  unfold F9
  refine sz_call (sz38 k _ left hk (hok) h0 hl) h0 hl (by omega) fun L1 h1 l1 => ?_
  exact sz_end h1

theorem to11 : toOk (.slice .str) F11 := to_list0

theorem to194 : toOk U0 F194 := by
  intro k (x : D0) hk hx
  unfold F194
  rfl

theorem to156 : toOk (.slice U0) F156 := to_list (e := U0) (G := F194) to194

theorem to182 : toOk U1 F182 := by
  intro k (x : D1) hk hx
  unfold F182
  rw [to156 k x.2.1 hk (by simp only [U1, cost] at hx ⊢; omega), Option.bind_some]

theorem to181 : toOk U2 F181 := by
  intro k (x : D2) hk hx
  unfold F181
  rw [to156 k x.2.1 hk (by simp only [U2, cost] at hx ⊢; omega), Option.bind_some]
  rw [to182 k x.2.2.1 hk (by simp only [U2, cost] at hx ⊢; omega), Option.bind_some]

theorem to193 : toOk U3 F193 := by
  intro k (x : D3) hk hx
  unfold F193
  rw [to181 k x.1 hk (by simp only [U3, cost] at hx ⊢; omega), Option.bind_some]

theorem to155 : toOk (.slice U3) F155 := to_list (e := U3) (G := F193) to193

theorem to96 : toOk U4 F96 := by
  intro k (x : D4) hk hx
  unfold F96
  rw [to155 k x.2.2.1 hk (by simp only [U4, cost] at hx ⊢; omega), Option.bind_some]

theorem to44 : toOk (.slice U4) F44 := to_list (e := U4) (G := F96) to96

theorem to97 : toOk U5 F97 := by
  intro k (x : D5) hk hx
  unfold F97
  rfl

theorem to45 : toOk (.slice U5) F45 := to_list (e := U5) (G := F97) to97

theorem to12 : toOk U6 F12 := by
  intro k (x : D6) hk hx
  unfold F12
  rw [to44 k x.1 hk (by simp only [U6, cost] at hx ⊢; omega), Option.bind_some]
  rw [to45 k x.2 hk (by simp only [U6, cost] at hx ⊢; omega), Option.bind_some]

theorem to98 : toOk U7 F98 := by
  intro k (x : D7) hk hx
  unfold F98
  rw [to156 k x.2.2.2.2.2.2 hk (by simp only [U7, cost] at hx ⊢; omega), Option.bind_some]

theorem to46 : toOk (.slice U7) F46 := to_list (e := U7) (G := F98) to98

theorem to13 : toOk U8 F13 := by
  intro k (x : D8) hk hx
  unfold F13
  rw [to46 k x hk (by simp only [U8, cost] at hx ⊢; omega), Option.bind_some]

theorem eq203 : eqOk U0 F203 := by
  intro k (x : D0) hk hx
  unfold F203
  simp only [eq_self, decide_true, Bool.not_true, cond_false, Option.bind_some, beq_self_eq_true]

theorem eq171 : eqOk (.slice U0) F171 := eq_list (e := U0) (G := F203) eq203

theorem eq166 : eqOk U9 F166 := by
  intro k (x : D9) hk hx
  unfold F166
  have e0 := eq171 k x.2.2.1 hk (by simp only [U9, cost] at hx ⊢; omega)
  simp only [e0, eq_self, decide_true, Bool.not_true, cond_false, Option.bind_some, beq_self_eq_true]

theorem eq168 : eqOk U1 F168 := by
  intro k (x : D1) hk hx
  unfold F168
  have e0 := eq171 k x.2.1 hk (by simp only [U1, cost] at hx ⊢; omega)
  simp only [e0, eq_self, decide_true, Bool.not_true, cond_false, Option.bind_some, beq_self_eq_true]

theorem eq167 : eqOk U2 F167 := by
  intro k (x : D2) hk hx
  unfold F167
  have e0 := eq168 k x.2.2.1 hk (by simp only [U2, cost] at hx ⊢; omega)
  have e1 := eq171 k x.2.1 hk (by simp only [U2, cost] at hx ⊢; omega)
  simp only [e0, e1, eq_self, decide_true, Bool.not_true, cond_false, Option.bind_some, beq_self_eq_true]

theorem eq201 : eqOk U10 F201 := by
  intro k (x : D10) hk hx
  unfold F201
  have e0 := eq168 k x.2 hk (by simp only [U10, cost] at hx ⊢; omega)
  simp only [e0, eq_self, decide_true, Bool.not_true, cond_false, Option.bind_some, beq_self_eq_true]

theorem eq169 : eqOk (.slice U10) F169 := eq_list (e := U10) (G := F201) eq201

theorem eq108 : eqOk U11 F108 := by
  intro k (x : D11) hk hx
  unfold F108
  have e0 := eq166 k x.2.2.2.1 hk (by simp only [U11, cost] at hx ⊢; omega)
  have e1 := eq166 k x.2.2.2.2.1 hk (by simp only [U11, cost] at hx ⊢; omega)
  have e2 := eq167 k x.2.2.2.2.2.1 hk (by simp only [U11, cost] at hx ⊢; omega)
  have e3 := eq168 k x.2.2.2.2.2.2.2.2.2.2.2.2.1 hk (by simp only [U11, cost] at hx ⊢; omega)
  have e4 := eq169 k x.2.2.2.2.2.2.2.2.2.2.2.2.2 hk (by simp only [U11, cost] at hx ⊢; omega)
  simp only [e0, e1, e2, e3, e4, eq_self, decide_true, Bool.not_true, cond_false, Option.bind_some, beq_self_eq_true]

theorem eq52 : eqOk (.slice U11) F52 := eq_list (e := U11) (G := F108) eq108

theorem eq202 : eqOk U3 F202 := by
  intro k (x : D3) hk hx
  unfold F202
  have e0 := eq167 k x.1 hk (by simp only [U3, cost] at hx ⊢; omega)
  simp only [e0, eq_self, decide_true, Bool.not_true, cond_false, Option.bind_some, beq_self_eq_true]

theorem eq170 : eqOk (.slice U3) F170 := eq_list (e := U3) (G := F202) eq202

theorem eq111 : eqOk U4 F111 := by
  intro k (x : D4) hk hx
  unfold F111
  have e0 := eq170 k x.2.2.1 hk (by simp only [U4, cost] at hx ⊢; omega)
  simp only [e0, eq_self, decide_true, Bool.not_true, cond_false, Option.bind_some, beq_self_eq_true]

theorem eq55 : eqOk (.slice U4) F55 := eq_list (e := U4) (G := F111) eq111

theorem eq112 : eqOk U5 F112 := by
  intro k (x : D5) hk hx
  unfold F112
  simp only [eq_self, decide_true, Bool.not_true, cond_false, Option.bind_some, beq_self_eq_true]

theorem eq56 : eqOk (.slice U5) F56 := eq_list (e := U5) (G := F112) eq112

theorem eq17 : eqOk U6 F17 := by
  intro k (x : D6) hk hx
  unfold F17
  have e0 := eq55 k x.1 hk (by simp only [U6, cost] at hx ⊢; omega)
  have e1 := eq56 k x.2 hk (by simp only [U6, cost] at hx ⊢; omega)
  simp only [e0, e1, eq_self, decide_true, Bool.not_true, cond_false, Option.bind_some, beq_self_eq_true]

theorem eq109 : eqOk U12 F109 := by
  intro k (x : D12) hk hx
  unfold F109
  have e0 := eq166 k x.2.2.2.2.2.1 hk (by simp only [U12, cost] at hx ⊢; omega)
  have e1 := eq168 k x.2.2.2.2.2.2.1 hk (by simp only [U12, cost] at hx ⊢; omega)
  simp only [e0, e1, eq_self, decide_true, Bool.not_true, cond_false, Option.bind_some, beq_self_eq_true]

theorem eq53 : eqOk (.slice U12) F53 := eq_list (e := U12) (G := F109) eq109

theorem eq113 : eqOk U7 F113 := by
  intro k (x : D7) hk hx
  unfold F113
  have e0 := eq171 k x.2.2.2.2.2.2 hk (by simp only [U7, cost] at hx ⊢; omega)
  simp only [e0, eq_self, decide_true, Bool.not_true, cond_false, Option.bind_some, beq_self_eq_true]

theorem eq57 : eqOk (.slice U7) F57 := eq_list (e := U7) (G := F113) eq113

theorem eq18 : eqOk U8 F18 := by
  intro k (x : D8) hk hx
  unfold F18
  have e0 := eq57 k x hk (by simp only [U8, cost] at hx ⊢; omega)
  simp only [e0, eq_self, decide_true, Bool.not_true, cond_false, Option.bind_some, beq_self_eq_true]

theorem eq110 : eqOk U13 F110 := by
  intro k (x : D13) hk hx
  unfold F110
  simp only [eq_self, decide_true, Bool.not_true, cond_false, Option.bind_some, beq_self_eq_true]

theorem eq54 : eqOk (.slice U13) F54 := eq_list (e := U13) (G := F110) eq110

theorem eq15 : eqOk U14 F15 := by
  intro k (x : D14) hk hx
  unfold F15
  have e0 := eq17 k x.2.2.2.1 hk (by simp only [U14, cost] at hx ⊢; omega)
  have e1 := eq18 k x.2.2.2.2.2.1 hk (by simp only [U14, cost] at hx ⊢; omega)
  have e2 := eq52 k x.2.2.1 hk (by simp only [U14, cost] at hx ⊢; omega)
  have e3 := eq53 k x.2.2.2.2.1 hk (by simp only [U14, cost] at hx ⊢; omega)
  have e4 := eq54 k x.2.2.2.2.2.2 hk (by simp only [U14, cost] at hx ⊢; omega)
  simp only [e0, e1, e2, e3, e4, eq_self, decide_true, Bool.not_true, cond_false, Option.bind_some, beq_self_eq_true]

theorem eq16 : eqOk (.slice .str) F16 := eq_strs

theorem sz174 : szOk U9 F174 := by
  intro k (x : D9) left hk hok h0 hl
  rw [show (cost U9 x : Int) = (x.1.size : Int) + ((x.2.1.size : Int) + ((cost (.slice U0) x.2.2.1 : Int) + ((x.2.2.2.size : Int) + (0)))) from by simp only [U9, cost]; omega]
  unfold F174
  refine sz_str (hok.1) h0 hl (by omega) fun L1 w1 h1 l1 => ?_
  rw [w1]
  refine sz_str (hok.2.1) h1 l1 (by omega) fun L2 w2 h2 l2 => ?_
  rw [w2]
  refine sz_call (sz147 k _ L2 hk (hok.2.2.1) h2 l2) h2 l2 (by omega) fun L3 h3 l3 => ?_
  refine sz_str (hok.2.2.2) h3 l3 (by omega) fun L4 w4 h4 l4 => ?_
  rw [w4]
  exact sz_end h4

theorem sz206 : szOk U10 F206 := by
  intro k (x : D10) left hk hok h0 hl
  rw [show (cost U10 x : Int) = (cost U1 x.2 : Int) + (0) from by simp only [U10, cost]; omega]
  unfold F206
  refine sz_call (sz176 k _ left hk (hok.2) h0 hl) h0 hl (by omega) fun L1 h1 l1 => ?_
  exact sz_end h1

theorem sz177 : szOk (.slice U10) F177 := sz_list (e := U10) (G := F206) sz206

theorem sz129 : szOk U11 F129 := by
  intro k (x : D11) left hk hok h0 hl
  rw [show (cost U11 x : Int) = (x.2.1.size : Int) + ((cost U9 x.2.2.2.1 : Int) + ((cost U9 x.2.2.2.2.1 : Int) + ((cost U2 x.2.2.2.2.2.1 : Int) + ((cost U1 x.2.2.2.2.2.2.2.2.2.2.2.2.1 : Int) + ((cost (.slice U10) x.2.2.2.2.2.2.2.2.2.2.2.2.2 : Int) + (0)))))) from by simp only [U11, cost]; omega]
  unfold F129
  refine sz_str (hok.2.1) h0 hl (by omega) fun L1 w1 h1 l1 => ?_
  rw [w1]
  refine sz_call (sz174 k _ L1 hk (hok.2.2.2.1) h1 l1) h1 l1 (by omega) fun L2 h2 l2 => ?_
  refine sz_call (sz174 k _ L2 hk (hok.2.2.2.2.1) h2 l2) h2 l2 (by omega) fun L3 h3 l3 => ?_
  refine sz_call (sz175 k _ L3 hk (hok.2.2.2.2.2.1) h3 l3) h3 l3 (by omega) fun L4 h4 l4 => ?_
  refine sz_call (sz176 k _ L4 hk (hok.2.2.2.2.2.2.2.2.2.2.2.2.1) h4 l4) h4 l4 (by omega) fun L5 h5 l5 => ?_
  refine sz_call (sz177 k _ L5 hk (hok.2.2.2.2.2.2.2.2.2.2.2.2.2) h5 l5) h5 l5 (by omega) fun L6 h6 l6 => ?_
  exact sz_end h6

theorem sz76 : szOk (.slice U11) F76 := sz_list (e := U11) (G := F129) sz129

theorem sz130 : szOk U12 F130 := by
  intro k (x : D12) left hk hok h0 hl
  rw [show (cost U12 x : Int) = (x.1.size : Int) + ((cost U9 x.2.2.2.2.2.1 : Int) + ((cost U1 x.2.2.2.2.2.2.1 : Int) + (0))) from by simp only [U12, cost]; omega]
  unfold F130
  refine sz_str (hok.1) h0 hl (by omega) fun L1 w1 h1 l1 => ?_
  rw [w1]
  refine sz_call (sz174 k _ L1 hk (hok.2.2.2.2.2.1) h1 l1) h1 l1 (by omega) fun L2 h2 l2 => ?_
  refine sz_call (sz176 k _ L2 hk (hok.2.2.2.2.2.2.1) h2 l2) h2 l2 (by omega) fun L3 h3 l3 => ?_
  exact sz_end h3

theorem sz77 : szOk (.slice U12) F77 := sz_list (e := U12) (G := F130) sz130

theorem sz131 : szOk U13 F131 := by
  intro k (x : D13) left hk hok h0 hl
  rw [show (cost U13 x : Int) = (x.2.2.2.1.size : Int) + (0) from by simp only [U13, cost]; omega]
  unfold F131
  refine sz_str (hok.2.2.2.1) h0 hl (by omega) fun L1 w1 h1 l1 => ?_
  rw [w1]
  exact sz_end h1

theorem sz78 : szOk (.slice U13) F78 := sz_list (e := U13) (G := F131) sz131

theorem sz30 : szOk U14 F30 := by
  intro k (x : D14) left hk hok h0 hl
  rw [show (cost U14 x : Int) = (cost (.slice U11) x.2.2.1 : Int) + ((cost U6 x.2.2.2.1 : Int) + ((cost (.slice U12) x.2.2.2.2.1 : Int) + ((cost U8 x.2.2.2.2.2.1 : Int) + ((cost (.slice U13) x.2.2.2.2.2.2 : Int) + (0))))) from by simp only [U14, cost]; omega]
  unfold F30
  refine sz_call (sz76 k _ left hk (hok.2.2.1) h0 hl) h0 hl (by omega) fun L1 h1 l1 => ?_
  refine sz_call (sz8 k _ L1 hk (hok.2.2.2.1) h1 l1) h1 l1 (by omega) fun L2 h2 l2 => ?_
  refine sz_call (sz77 k _ L2 hk (hok.2.2.2.2.1) h2 l2) h2 l2 (by omega) fun L3 h3 l3 => ?_
  refine sz_call (sz9 k _ L3 hk (hok.2.2.2.2.2.1) h3 l3) h3 l3 (by omega) fun L4 h4 l4 => ?_
  refine sz_call (sz78 k _ L4 hk (hok.2.2.2.2.2.2) h4 l4) h4 l4 (by omega) fun L5 h5 l5 => ?_
  exact sz_end h5

theorem to180 : toOk U9 F180 := by
  intro k (x : D9) hk hx
  unfold F180
  rw [to156 k x.2.2.1 hk (by simp only [U9, cost] at hx ⊢; omega), Option.bind_some]

theorem to208 : toOk U10 F208 := by
  intro k (x : D10) hk hx
  unfold F208
  rw [to182 k x.2 hk (by simp only [U10, cost] at hx ⊢; omega), Option.bind_some]

theorem to183 : toOk (.slice U10) F183 := to_list (e := U10) (G := F208) to208

theorem to136 : toOk U11 F136 := by
  intro k (x : D11) hk hx
  unfold F136
  rw [to180 k x.2.2.2.1 hk (by simp only [U11, cost] at hx ⊢; omega), Option.bind_some]
  rw [to180 k x.2.2.2.2.1 hk (by simp only [U11, cost] at hx ⊢; omega), Option.bind_some]
  rw [to181 k x.2.2.2.2.2.1 hk (by simp only [U11, cost] at hx ⊢; omega), Option.bind_some]
  rw [to182 k x.2.2.2.2.2.2.2.2.2.2.2.2.1 hk (by simp only [U11, cost] at hx ⊢; omega), Option.bind_some]
  rw [to183 k x.2.2.2.2.2.2.2.2.2.2.2.2.2 hk (by simp only [U11, cost] at hx ⊢; omega), Option.bind_some]

theorem to82 : toOk (.slice U11) F82 := to_list (e := U11) (G := F136) to136

theorem to137 : toOk U12 F137 := by
  intro k (x : D12) hk hx
  unfold F137
  rw [to180 k x.2.2.2.2.2.1 hk (by simp only [U12, cost] at hx ⊢; omega), Option.bind_some]
  rw [to182 k x.2.2.2.2.2.2.1 hk (by simp only [U12, cost] at hx ⊢; omega), Option.bind_some]

theorem to83 : toOk (.slice U12) F83 := to_list (e := U12) (G := F137) to137

theorem to138 : toOk U13 F138 := by
  intro k (x : D13) hk hx
  unfold F138
  rfl

theorem to84 : toOk (.slice U13) F84 := to_list (e := U13) (G := F138) to138

theorem to32 : toOk U14 F32 := by
  intro k (x : D14) hk hx
  unfold F32
  rw [to82 k x.2.2.1 hk (by simp only [U14, cost] at hx ⊢; omega), Option.bind_some]
  rw [to12 k x.2.2.2.1 hk (by simp only [U14, cost] at hx ⊢; omega), Option.bind_some]
  rw [to83 k x.2.2.2.2.1 hk (by simp only [U14, cost] at hx ⊢; omega), Option.bind_some]
  rw [to13 k x.2.2.2.2.2.1 hk (by simp only [U14, cost] at hx ⊢; omega), Option.bind_some]
  rw [to84 k x.2.2.2.2.2.2 hk (by simp only [U14, cost] at hx ⊢; omega), Option.bind_some]
end Go.Proofs.YteliolfafmmhlaaGreatDoor.Fns

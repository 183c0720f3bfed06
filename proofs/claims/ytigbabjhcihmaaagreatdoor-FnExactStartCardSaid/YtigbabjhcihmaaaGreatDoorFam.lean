/- The plain laws of the functions that each law uses: sizes, copies, comparisons. -/
import Derived.Test.YtigbabjhcihmaaaGreatDoorFns
import Derived.Test.YtigbabjhcihmaaaGreatDoorEv6
namespace Go.Proofs.YtigbabjhcihmaaaGreatDoor.Fns
open Go Go.RowKit Go.Proofs Go.Proofs.YtigbabjhcihmaaaGreatDoor.Ev Go.Proofs.YtigbabjhcihmaaaGreatDoor.Pl
set_option maxRecDepth 100000
set_option linter.unusedVariables false
set_option linter.unusedSimpArgs false
theorem sz70 : szOk (.slice .str) F70 := sz_strs

theorem sz259 : szOk U0 F259 := by
  intro k (x : D0) left hk hok h0 hl
  rw [show (cost U0 x : Int) = (x.1.size : Int) + ((x.2.size : Int) + (0)) from by simp only [U0, cost]; omega]
  unfold F259
  refine sz_str (hok.1) h0 hl (by omega) fun L1 w1 h1 l1 => ?_
  rw [w1]
  refine sz_str (hok.2) h1 l1 (by omega) fun L2 w2 h2 l2 => ?_
  rw [w2]
  exact sz_end h2

theorem sz192 : szOk (.slice U0) F192 := sz_list (e := U0) (G := F259) sz259

theorem sz249 : szOk U1 F249 := by
  intro k (x : D1) left hk hok h0 hl
  rw [show (cost U1 x : Int) = (x.1.size : Int) + ((x.2.1.size : Int) + ((cost (.slice U0) x.2.2.2.2.2.2 : Int) + (0))) from by simp only [U1, cost]; omega]
  unfold F249
  refine sz_str (hok.1) h0 hl (by omega) fun L1 w1 h1 l1 => ?_
  rw [w1]
  refine sz_str (hok.2.1) h1 l1 (by omega) fun L2 w2 h2 l2 => ?_
  rw [w2]
  refine sz_call (sz192 k _ L2 hk (hok.2.2.2.2.2.2) h2 l2) h2 l2 (by omega) fun L3 h3 l3 => ?_
  exact sz_end h3

theorem sz164 : szOk (.slice U1) F164 := sz_list (e := U1) (G := F249) sz249

theorem sz71 : szOk U2 F71 := by
  intro k (x : D2) left hk hok h0 hl
  rw [show (cost U2 x : Int) = (cost (.slice U1) x : Int) + (0) from by simp only [U2, cost]; omega]
  unfold F71
  refine sz_call (sz164 k _ left hk (hok) h0 hl) h0 hl (by omega) fun L1 h1 l1 => ?_
  exact sz_end h1

theorem sz165 : szOk U3 F165 := by
  intro k (x : D3) left hk hok h0 hl
  rw [show (cost U3 x : Int) = (x.2.2.size : Int) + (0) from by simp only [U3, cost]; omega]
  unfold F165
  refine sz_str (hok.2.2) h0 hl (by omega) fun L1 w1 h1 l1 => ?_
  rw [w1]
  exact sz_end h1

theorem sz72 : szOk (.slice U3) F72 := sz_list (e := U3) (G := F165) sz165

theorem sz23 : szOk U4 F23 := by
  intro k (x : D4) left hk hok h0 hl
  rw [show (cost U4 x : Int) = (cost (.slice .str) x.1 : Int) + ((cost U2 x.2.2.2.2.1 : Int) + ((cost (.slice U3) x.2.2.2.2.2 : Int) + (0))) from by simp only [U4, cost]; omega]
  unfold F23
  refine sz_call (sz70 k _ left hk (hok.1) h0 hl) h0 hl (by omega) fun L1 h1 l1 => ?_
  refine sz_call (sz71 k _ L1 hk (hok.2.2.2.2.1) h1 l1) h1 l1 (by omega) fun L2 h2 l2 => ?_
  refine sz_call (sz72 k _ L2 hk (hok.2.2.2.2.2) h2 l2) h2 l2 (by omega) fun L3 h3 l3 => ?_
  exact sz_end h3

theorem to75 : toOk (.slice .str) F75 := to_list0

theorem to264 : toOk U0 F264 := by
  intro k (x : D0) hk hx
  unfold F264
  rfl

theorem to203 : toOk (.slice U0) F203 := to_list (e := U0) (G := F264) to264

theorem to250 : toOk U1 F250 := by
  intro k (x : D1) hk hx
  unfold F250
  rw [to203 k x.2.2.2.2.2.2 hk (by simp only [U1, cost] at hx ⊢; omega), Option.bind_some]

theorem to171 : toOk (.slice U1) F171 := to_list (e := U1) (G := F250) to250

theorem to76 : toOk U2 F76 := by
  intro k (x : D2) hk hx
  unfold F76
  rw [to171 k x hk (by simp only [U2, cost] at hx ⊢; omega), Option.bind_some]

theorem to172 : toOk U3 F172 := by
  intro k (x : D3) hk hx
  unfold F172
  rfl

theorem to77 : toOk (.slice U3) F77 := to_list (e := U3) (G := F172) to172

theorem to25 : toOk U4 F25 := by
  intro k (x : D4) hk hx
  unfold F25
  rw [to75 k x.1 hk (by simp only [U4, cost] at hx ⊢; omega), Option.bind_some]
  rw [to76 k x.2.2.2.2.1 hk (by simp only [U4, cost] at hx ⊢; omega), Option.bind_some]
  rw [to77 k x.2.2.2.2.2 hk (by simp only [U4, cost] at hx ⊢; omega), Option.bind_some]

theorem eq163 : eqOk U0 F163 := by
  intro k (x : D0) hk hx
  unfold F163
  simp only [eq_self, decide_true, Bool.not_true, cond_false, Option.bind_some, beq_self_eq_true]

theorem eq65 : eqOk (.slice U0) F65 := eq_list (e := U0) (G := F163) eq163

theorem eq136 : eqOk U11 F136 := by
  intro k (x : D11) hk hx
  unfold F136
  have e0 := eq65 k x.2.2.1 hk (by simp only [U11, cost] at hx ⊢; omega)
  simp only [e0, eq_self, decide_true, Bool.not_true, cond_false, Option.bind_some, beq_self_eq_true]

theorem eq66 : eqOk U5 F66 := by
  intro k (x : D5) hk hx
  unfold F66
  have e0 := eq65 k x.2.1 hk (by simp only [U5, cost] at hx ⊢; omega)
  simp only [e0, eq_self, decide_true, Bool.not_true, cond_false, Option.bind_some, beq_self_eq_true]

theorem eq20 : eqOk U6 F20 := by
  intro k (x : D6) hk hx
  unfold F20
  have e0 := eq65 k x.2.1 hk (by simp only [U6, cost] at hx ⊢; omega)
  have e1 := eq66 k x.2.2.1 hk (by simp only [U6, cost] at hx ⊢; omega)
  simp only [e0, e1, eq_self, decide_true, Bool.not_true, cond_false, Option.bind_some, beq_self_eq_true]

theorem eq297 : eqOk U12 F297 := by
  intro k (x : D12) hk hx
  unfold F297
  have e0 := eq66 k x.2 hk (by simp only [U12, cost] at hx ⊢; omega)
  simp only [e0, eq_self, decide_true, Bool.not_true, cond_false, Option.bind_some, beq_self_eq_true]

theorem eq253 : eqOk (.slice U12) F253 := eq_list (e := U12) (G := F297) eq297

theorem eq180 : eqOk U13 F180 := by
  intro k (x : D13) hk hx
  unfold F180
  have e0 := eq136 k x.2.2.2.1 hk (by simp only [U13, cost] at hx ⊢; omega)
  have e1 := eq136 k x.2.2.2.2.1 hk (by simp only [U13, cost] at hx ⊢; omega)
  have e2 := eq20 k x.2.2.2.2.2.1 hk (by simp only [U13, cost] at hx ⊢; omega)
  have e3 := eq253 k x.2.2.2.2.2.2.2.2.2.2.2.2.2 hk (by simp only [U13, cost] at hx ⊢; omega)
  have e4 := eq66 k x.2.2.2.2.2.2.2.2.2.2.2.2.1 hk (by simp only [U13, cost] at hx ⊢; omega)
  simp only [e0, e1, e2, e3, e4, eq_self, decide_true, Bool.not_true, cond_false, Option.bind_some, beq_self_eq_true]

theorem eq80 : eqOk (.slice U13) F80 := eq_list (e := U13) (G := F180) eq180

theorem eq273 : eqOk U7 F273 := by
  intro k (x : D7) hk hx
  unfold F273
  have e0 := eq20 k x.1 hk (by simp only [U7, cost] at hx ⊢; omega)
  simp only [e0, eq_self, decide_true, Bool.not_true, cond_false, Option.bind_some, beq_self_eq_true]

theorem eq220 : eqOk (.slice U7) F220 := eq_list (e := U7) (G := F273) eq273

theorem eq134 : eqOk U8 F134 := by
  intro k (x : D8) hk hx
  unfold F134
  have e0 := eq220 k x.2.2.1 hk (by simp only [U8, cost] at hx ⊢; omega)
  simp only [e0, eq_self, decide_true, Bool.not_true, cond_false, Option.bind_some, beq_self_eq_true]

theorem eq48 : eqOk (.slice U8) F48 := eq_list (e := U8) (G := F134) eq134

theorem eq135 : eqOk U9 F135 := by
  intro k (x : D9) hk hx
  unfold F135
  simp only [eq_self, decide_true, Bool.not_true, cond_false, Option.bind_some, beq_self_eq_true]

theorem eq49 : eqOk (.slice U9) F49 := eq_list (e := U9) (G := F135) eq135

theorem eq13 : eqOk U10 F13 := by
  intro k (x : D10) hk hx
  unfold F13
  have e0 := eq48 k x.1 hk (by simp only [U10, cost] at hx ⊢; omega)
  have e1 := eq49 k x.2 hk (by simp only [U10, cost] at hx ⊢; omega)
  simp only [e0, e1, eq_self, decide_true, Bool.not_true, cond_false, Option.bind_some, beq_self_eq_true]

theorem eq181 : eqOk U14 F181 := by
  intro k (x : D14) hk hx
  unfold F181
  have e0 := eq136 k x.2.2.2.2.2.1 hk (by simp only [U14, cost] at hx ⊢; omega)
  have e1 := eq66 k x.2.2.2.2.2.2.1 hk (by simp only [U14, cost] at hx ⊢; omega)
  simp only [e0, e1, eq_self, decide_true, Bool.not_true, cond_false, Option.bind_some, beq_self_eq_true]

theorem eq81 : eqOk (.slice U14) F81 := eq_list (e := U14) (G := F181) eq181

theorem eq254 : eqOk U1 F254 := by
  intro k (x : D1) hk hx
  unfold F254
  have e0 := eq65 k x.2.2.2.2.2.2 hk (by simp only [U1, cost] at hx ⊢; omega)
  simp only [e0, eq_self, decide_true, Bool.not_true, cond_false, Option.bind_some, beq_self_eq_true]

theorem eq182 : eqOk (.slice U1) F182 := eq_list (e := U1) (G := F254) eq254

theorem eq82 : eqOk U2 F82 := by
  intro k (x : D2) hk hx
  unfold F82
  have e0 := eq182 k x hk (by simp only [U2, cost] at hx ⊢; omega)
  simp only [e0, eq_self, decide_true, Bool.not_true, cond_false, Option.bind_some, beq_self_eq_true]

theorem eq183 : eqOk U15 F183 := by
  intro k (x : D15) hk hx
  unfold F183
  simp only [eq_self, decide_true, Bool.not_true, cond_false, Option.bind_some, beq_self_eq_true]

theorem eq83 : eqOk (.slice U15) F83 := eq_list (e := U15) (G := F183) eq183

theorem eq27 : eqOk U16 F27 := by
  intro k (x : D16) hk hx
  unfold F27
  have e0 := eq13 k x.2.2.2.1 hk (by simp only [U16, cost] at hx ⊢; omega)
  have e1 := eq80 k x.2.2.1 hk (by simp only [U16, cost] at hx ⊢; omega)
  have e2 := eq81 k x.2.2.2.2.1 hk (by simp only [U16, cost] at hx ⊢; omega)
  have e3 := eq82 k x.2.2.2.2.2.1 hk (by simp only [U16, cost] at hx ⊢; omega)
  have e4 := eq83 k x.2.2.2.2.2.2 hk (by simp only [U16, cost] at hx ⊢; omega)
  simp only [e0, e1, e2, e3, e4, eq_self, decide_true, Bool.not_true, cond_false, Option.bind_some, beq_self_eq_true]

theorem eq84 : eqOk (.slice .str) F84 := eq_strs

theorem eq184 : eqOk U3 F184 := by
  intro k (x : D3) hk hx
  unfold F184
  simp only [eq_self, decide_true, Bool.not_true, cond_false, Option.bind_some, beq_self_eq_true]

theorem eq85 : eqOk (.slice U3) F85 := eq_list (e := U3) (G := F184) eq184

theorem eq28 : eqOk U4 F28 := by
  intro k (x : D4) hk hx
  unfold F28
  have e0 := eq82 k x.2.2.2.2.1 hk (by simp only [U4, cost] at hx ⊢; omega)
  have e1 := eq84 k x.1 hk (by simp only [U4, cost] at hx ⊢; omega)
  have e2 := eq85 k x.2.2.2.2.2 hk (by simp only [U4, cost] at hx ⊢; omega)
  simp only [e0, e1, e2, eq_self, decide_true, Bool.not_true, cond_false, Option.bind_some, beq_self_eq_true]
end Go.Proofs.YtigbabjhcihmaaaGreatDoor.Fns

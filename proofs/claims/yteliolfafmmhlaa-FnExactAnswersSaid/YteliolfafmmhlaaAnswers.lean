/- For every input FnExactAnswers answers true: the program's Answers tells what the reference's tells, and leaves its arguments as they were; no conditions. -/
import Derived.Test.YteliolfafmmhlaaAnswersCore
import Derived.Test.YteliolfafmmhlaaRows
import Derived.WalkKit
import Derived.ProofKit
import Derived.SizedLaws
namespace Go.Proofs.Yteliolfafmmhlaa.Answers
open Go Go.RowKit Go.Proofs Go.Proofs.Yteliolfafmmhlaa Go.Proofs.Yteliolfafmmhlaa.Ev Go.Proofs.Yteliolfafmmhlaa.Pl Go.Proofs.Yteliolfafmmhlaa.Fns
open Go.ChangeShapes Go.WideShapes Go.ChangeAt
set_option maxRecDepth 1000000
set_option linter.unusedVariables false
set_option linter.unusedSimpArgs false

theorem plain (k : Nat) (hk : fuel < k) (a0 : D14) (ok_a0 : Ty.Ok U14 a0) : F3 k a0 = some true := by
  unfold F3
  refine law_sz (sz4 k a0 (1048576 : Int) hk ok_a0 (by decide) (by decide)) (by decide) (by decide) fun L1 h1 l1 c_a0 => ?_
  obtain ⟨w, cw, hw, hw'⟩ := same k hk a0 ok_a0 c_a0
  have s0 := cno_small (Ty.inner U14) a0 (by decide) c_a0
  have m0 : mo10 k a0 (1 : Int) = some ((mov (txtV k) (Ty.inner U14) a0 (1 : Int)), ((1 : Int) + ((cno (Ty.inner U14) a0 : Nat) : Int))) := mo_all hk (Ty.inner U14) a0 (1 : Int) (by decide) (by decide) c_a0 (by omega) (by omega) _
  have n0 : decide (((1 : Int) + ((cno (Ty.inner U14) a0 : Nat) : Int)) < (0 : Int)) = false := dF (by omega)
  have s1 := cnt_small (.slice U4) w (by decide) cw
  have wd1 : Ty.wid (.slice U4) = 0 := rfl
  have m1 : mo11 k w (1 : Int) = some ((mkvs (mkv (txtV k) U4) (cnt U4) w (1 : Int)), ((1 : Int) + ((cnt (.slice U4) w : Nat) : Int))) := mk_all hk U4 w (1 : Int) (by decide) (by decide) cw (by omega) (by omega)
  have n1 : decide (((1 : Int) + ((cnt (.slice U4) w : Nat) : Int)) < (0 : Int)) = false := dF (by omega)
  have q0 : F12 k (mkvs (mkv (txtV k) U4) (cnt U4) w (1 : Int)) (1 : Int) = some ((1 : Int) + ((cnt (.slice U4) w : Nat) : Int)) := by rw [hd12]; exact hd_all hk U4 w (1 : Int) (by decide) (by decide) cw (by omega) (by omega)
  simp only [to6 k a0 hk c_a0, eq9 k a0 hk c_a0, eq8 k w hk cw, m0, n0, m1, n1, q0, Option.bind_some, hw, hw', decide_true, beq_self_eq_true, eq_self, Bool.not_true, cond_false]

theorem own : ownKnob Try.prog.godebug = none := by kernel_rfl

theorem lifted (os : Os) (started : os.Started) (H : Type) (enc : TypeId × Value → H) :
    ReturnsInHanded {} Try.checked os 3 .any (Rows.fnExactAnswersSpec.pre6 enc Try.prog Try.f3 Rows.fnExactAnswersRow.domain false) (Rows.fnExactAnswersSpec.post enc Try.prog Try.f3 false true false false) := by
  refine returnsInHanded_of_change_sized (C := Try.checked) own started (by kernel_rfl) Try.func3
    (ChangeSpec.witness6 (enc := enc) (C := Try.checked) false ⟨#[], #[zeroV U14], []⟩ 24 (by kernel_rfl) (by kernel_rfl) (by kernel_rfl) (by kernel_rfl)) ?_
  intro W base args ds gs before hval hW hcnd hsz _
  exact law_frame (C := Try.checked) (cx := (T (fun _ _ => ⟨[], [], [], false⟩) 0).cx []) (tys := [U14]) (sem := fun x => F3 2097153 x.1) (b := 4) (G := fun _ => True) Try.func3 (ok3 (fun _ _ _ _ => trivial) 2097153) rfl
    (by rw [Try.params3]; exact ⟨(tyB_sound _).1 33 (by kernel_rfl), trivial⟩) (by kernel_rfl) Try.underlying4 (by kernel_rfl)
    (by rw [Try.params3]; intro t ht; simp at ht; subst ht; exact ⟨by kernel_rfl, of_decide_eq_true (by kernel_rfl)⟩) rfl
    (fun H ds hd => by match ds, hd with | [d0], _ => rfl)
    (fun x hx => plain 2097153 (by decide) x.1 hx.1) hval hW trivial

theorem over : Rows.fnExactAnswersRow.holds Try.pinned (OpenSpec.ofChange Rows.fnExactAnswersSpec) :=
  OpenClaim.holds_of_wide 3 Try.f3 rfl rfl rfl rfl rfl rfl rfl ⟨rfl, rfl, rfl, rfl, rfl⟩ rfl rfl rfl rfl rfl (by kernel_rfl) Try.func3 (by kernel_rfl)
    (of_decide_eq_true (by kernel_rfl)) (by unfold Func.isWrapper; first | (rw [if_pos (by decide +kernel)]; kernel_rfl) | (rw [if_neg (by decide +kernel)]; exact ⟨rfl, rfl⟩))
    (fun os started H enc _ => lifted os started H enc)
end Go.Proofs.Yteliolfafmmhlaa.Answers
namespace Go.Proofs.Yteliolfafmmhlaa
/-- The row, under a short name, for the claim. -/
theorem fnExactAnswers_holds : Rows.FnExactAnswersSaid := Answers.over
end Go.Proofs.Yteliolfafmmhlaa

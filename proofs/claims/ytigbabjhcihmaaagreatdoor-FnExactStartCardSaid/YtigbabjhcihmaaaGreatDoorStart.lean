/- For every input FnExactStart answers true: the program's Start tells what the reference's tells, and leaves its arguments as they were; no conditions. -/
import Derived.Test.YtigbabjhcihmaaaGreatDoorStartCore
import Derived.Test.YtigbabjhcihmaaaGreatDoorStartRow
import Derived.Test.YtigbabjhcihmaaaGreatDoorRows
import Derived.WalkKit
import Derived.ProofKit
import Derived.SizedLaws
import Derived.Test.YtigbabjhcihmaaaGreatDoorTie
import Derived.Test.YtigbabjhcihmaaaGreatDoorCards
import Derived.LaidMore
import Derived.Lay
import Derived.Stop.Joined
import Derived.Stop.LaidErr
import Derived.Lib.LaidTab
import Derived.SevenTiedAt
import Derived.Shelf.Vars
import Derived.Test.YtigbabjhcihmaaaGreatDoorEvLm
namespace Go.Proofs.YtigbabjhcihmaaaGreatDoor.Start
open Go Go.RowKit Go.Proofs Go.Proofs.YtigbabjhcihmaaaGreatDoor Go.Proofs.YtigbabjhcihmaaaGreatDoor.Ev Go.Proofs.YtigbabjhcihmaaaGreatDoor.Pl Go.Proofs.YtigbabjhcihmaaaGreatDoor.Fns
open Go.ChangeShapes Go.WideShapes Go.ChangeAt
set_option maxRecDepth 1000000
set_option linter.unusedVariables false
set_option linter.unusedSimpArgs false

theorem plain (k : Nat) (hk : fuel < k) (a0 : D4) (ok_a0 : Ty.Ok U4 a0) : F5 k a0 = some true := by
  unfold F5
  refine law_sz (sz23 k a0 (1048576 : Int) hk ok_a0 (by decide) (by decide)) (by decide) (by decide) fun L1 h1 l1 c_a0 => ?_
  obtain ⟨w, cw, hw, hw'⟩ := same k hk a0 ok_a0 c_a0
  have s0 := cno_small (Ty.inner U4) a0 (by decide) c_a0
  have m0 : mo29 k a0 (1 : Int) = some ((mov (txtV k) (Ty.inner U4) a0 (1 : Int)), ((1 : Int) + ((cno (Ty.inner U4) a0 : Nat) : Int))) := mo_all hk (Ty.inner U4) a0 (1 : Int) (by decide) (by decide) c_a0 (by omega) (by omega) _
  have n0 : decide (((1 : Int) + ((cno (Ty.inner U4) a0 : Nat) : Int)) < (0 : Int)) = false := dF (by omega)
  have s1 := cno_small (Ty.inner U16) w (by decide) cw
  have m1 : mo30 k w (1 : Int) = some ((mov (txtV k) (Ty.inner U16) w (1 : Int)), ((1 : Int) + ((cno (Ty.inner U16) w : Nat) : Int))) := mo_all hk (Ty.inner U16) w (1 : Int) (by decide) (by decide) cw (by omega) (by omega) _
  have n1 : decide (((1 : Int) + ((cno (Ty.inner U16) w : Nat) : Int)) < (0 : Int)) = false := dF (by omega)
  have q0 : F31 k (w.1, w.2.1, (mov (txtV k) (Ty.inner U16) w (1 : Int)).2.2.1, (mov (txtV k) (Ty.inner U16) w (1 : Int)).2.2.2.1, (mov (txtV k) (Ty.inner U16) w (1 : Int)).2.2.2.2.1, (mov (txtV k) (Ty.inner U16) w (1 : Int)).2.2.2.2.2.1, (mov (txtV k) (Ty.inner U16) w (1 : Int)).2.2.2.2.2.2) (1 : Int) = some ((1 : Int) + ((cno (Ty.inner U16) w : Nat) : Int)) := by rw [hd31]; exact ho_all hk (Ty.inner U16) w (1 : Int) (by decide) (by decide) cw (by omega) (by omega) _
  simp only [to25 k a0 hk c_a0, eq28 k a0 hk c_a0, eq27 k w hk cw, m0, n0, m1, n1, q0, Option.bind_some, hw, hw', decide_true, beq_self_eq_true, eq_self, Bool.not_true, cond_false]

theorem own : ownKnob Tryz.prog.godebug = none := by kernel_rfl

/-- nothing need be known of the worlds of the call -/
def Known (w : World) : Prop := True
theorem good : Lasts Known := fun _ _ _ _ => trivial
theorem known_of_laid {W : World} (h : laidMetH Tryz.prog Rows.fnExactStartRow.laid W) (hs : W.ShapedOpen Tryz.prog) : Known W := trivial

theorem door_met (os : Os) (args : Array Value) : laidMetH Tryz.prog Rows.fnExactStartRow.laid ((World.laidAll Tryz.prog os Rows.fnExactStartRow.laid).forCall (fun _ _ => 0) ⟨#[], args, []⟩).memory := by
  rw [MakeChecks.laidMetH_plain _ _ _ (by kernel_rfl)]
  exact laidMet_laidAll _ (by kernel_rfl) (by kernel_rfl)

theorem lifted (os : Os) (started : os.Started) (H : Type) (enc : TypeId × Value → H) :
    ReturnsInHanded {} Tryz.checked os 5 .any (fun w args => (Rows.fnExactStartSpec.pre enc Tryz.prog Tryz.f5 [] false w args ∧ laidMetH Tryz.prog Rows.fnExactStartRow.laid w) ∧ sizedMet enc Tryz.prog Tryz.f5 (OpenSpec.ofChange Rows.fnExactStartSpec) false w args)
      (Rows.fnExactStartSpec.post enc Tryz.prog Tryz.f5 false true false false) := by
  refine returns_and_shaped (C := Tryz.checked) (X := fun w _ => laidMetH Tryz.prog Rows.fnExactStartRow.laid w) (fun _ _ _ hh h => h.of_heap hh) own started (by kernel_rfl) Tryz.func5
    (ChangeSpec.witness_shaped (enc := enc) (C := Tryz.checked) (os := os) (X := fun w _ => laidMetH Tryz.prog Rows.fnExactStartRow.laid w) false (World.laidAll Tryz.prog os Rows.fnExactStartRow.laid) #[zeroV U4] 24 (World.laidAll_os _ _ _) (World.shaped_of_ZipB (by kernel_rfl) (by kernel_rfl)) (by kernel_rfl) (by kernel_rfl) (by kernel_rfl) (door_met os _)) ?_
  intro W base args ds gs before hval hW _ _ hL hS _
  exact law_frame (C := Tryz.checked) (cx := (T (fun _ _ => ⟨[], [], [], false⟩) 0).cx []) (tys := [U4]) (sem := fun x => F5 2097153 x.1) (b := 4) (G := Known) Tryz.func5 (ok5 good 2097153) rfl
    (by rw [Tryz.params5]; exact ⟨(tyB_sound _).1 58 (by kernel_rfl), trivial⟩) (by kernel_rfl) Tryz.underlying4 (by kernel_rfl)
    (by rw [Tryz.params5]; intro t ht; simp at ht; subst ht; exact ⟨by kernel_rfl, of_decide_eq_true (by kernel_rfl)⟩) rfl
    (fun H ds hd => by match ds, hd with | [d0], _ => rfl)
    (fun x hx => plain 2097153 (by decide) x.1 hx.1) hval hW (known_of_laid hL hS)

theorem row_holds : Rows.FnExactStartSaid :=
  OpenClaim.holds_of_wide 5 Tryz.f5 rfl rfl rfl rfl rfl rfl rfl ⟨rfl, rfl, rfl, rfl, rfl⟩ rfl rfl rfl rfl rfl (by kernel_rfl) Tryz.func5 closed
    (of_decide_eq_true (by kernel_rfl)) (by unfold Func.isWrapper; first | (rw [if_pos (by decide +kernel)]; kernel_rfl) | (rw [if_neg (by decide +kernel)]; exact ⟨rfl, rfl⟩))
    (fun os started H enc _ => lifted os started H enc)

end Go.Proofs.YtigbabjhcihmaaaGreatDoor.Start

/- For every input FnExactWorldTick answers true: the program's WorldTick tells what the reference's tells, and leaves its arguments as they were; no conditions. -/
import Derived.Test.YteliolfafmmhlaaGreatDoorWorldTickCore
import Derived.Test.YteliolfafmmhlaaGreatDoorWorldTickRow
import Derived.Test.YteliolfafmmhlaaGreatDoorRows
import Derived.WalkKit
import Derived.ProofKit
import Derived.SizedLaws
import Derived.Test.YteliolfafmmhlaaGreatDoorTie
import Derived.Test.YteliolfafmmhlaaGreatDoorCards
import Derived.LaidMore
import Derived.Lay
import Derived.Stop.Joined
import Derived.Stop.LaidErr
import Derived.Lib.LaidTab
import Derived.SevenTiedAt
import Derived.Shelf.Vars
import Derived.Test.YteliolfafmmhlaaGreatDoorEvLm
namespace Go.Proofs.YteliolfafmmhlaaGreatDoor.WorldTick
open Go Go.RowKit Go.Proofs Go.Proofs.YteliolfafmmhlaaGreatDoor Go.Proofs.YteliolfafmmhlaaGreatDoor.Ev Go.Proofs.YteliolfafmmhlaaGreatDoor.Pl Go.Proofs.YteliolfafmmhlaaGreatDoor.Fns
open Go.ChangeShapes Go.WideShapes Go.ChangeAt
set_option maxRecDepth 1000000
set_option linter.unusedVariables false
set_option linter.unusedSimpArgs false

theorem plain (k : Nat) (hk : fuel < k) (a0 : D14) (a1 : Int) (ok_a0 : Ty.Ok U14 a0) (ok_a1 : Ty.Ok (.int .i64) a1) : F5 k a0 a1 = some true := by
  unfold F5
  refine law_sz2 (sz30 k a0 (1048576 : Int) hk ok_a0 (by decide) (by decide)) (by decide) (by decide) fun L1 h1 l1 c_a0 g1 => ?_
  obtain ⟨w, cw, hw, hw'⟩ := same k hk a0 a1 ok_a0 ok_a1 c_a0
  have s0 := cno_small (Ty.inner U14) a0 (by decide) c_a0
  have m0 : mo22 k a0 (1 : Int) = some ((mov (txtV k) (Ty.inner U14) a0 (1 : Int)), ((1 : Int) + ((cno (Ty.inner U14) a0 : Nat) : Int))) := mo_all hk (Ty.inner U14) a0 (1 : Int) (by decide) (by decide) c_a0 (by omega) (by omega) _
  have n0 : decide (((1 : Int) + ((cno (Ty.inner U14) a0 : Nat) : Int)) < (0 : Int)) = false := dF (by omega)
  have s1 := cno_small (Ty.inner U14) w (by decide) cw
  have m1 : mo22 k w (1 : Int) = some ((mov (txtV k) (Ty.inner U14) w (1 : Int)), ((1 : Int) + ((cno (Ty.inner U14) w : Nat) : Int))) := mo_all hk (Ty.inner U14) w (1 : Int) (by decide) (by decide) cw (by omega) (by omega) _
  have n1 : decide (((1 : Int) + ((cno (Ty.inner U14) w : Nat) : Int)) < (0 : Int)) = false := dF (by omega)
  have q0 : F23 k (w.1, w.2.1, (mov (txtV k) (Ty.inner U14) w (1 : Int)).2.2.1, (mov (txtV k) (Ty.inner U14) w (1 : Int)).2.2.2.1, (mov (txtV k) (Ty.inner U14) w (1 : Int)).2.2.2.2.1, (mov (txtV k) (Ty.inner U14) w (1 : Int)).2.2.2.2.2.1, (mov (txtV k) (Ty.inner U14) w (1 : Int)).2.2.2.2.2.2) (1 : Int) = some ((1 : Int) + ((cno (Ty.inner U14) w : Nat) : Int)) := by rw [hd23]; exact ho_all hk (Ty.inner U14) w (1 : Int) (by decide) (by decide) cw (by omega) (by omega) _
  simp only [to32 k a0 hk c_a0, eq15 k a0 hk c_a0, eq15 k w hk cw, m0, n0, m1, n1, q0, Option.bind_some, hw, hw', decide_true, beq_self_eq_true, eq_self, Bool.not_true, cond_false]

theorem own : ownKnob Tryz.prog.godebug = none := by kernel_rfl

/-- nothing need be known of the worlds of the call -/
def Known (w : World) : Prop := True
theorem good : Lasts Known := fun _ _ _ _ => trivial
theorem known_of_laid {W : World} (h : laidMetH Tryz.prog Rows.fnExactWorldTickRow.laid W) (hs : W.ShapedOpen Tryz.prog) : Known W := trivial

theorem door_met (os : Os) (args : Array Value) : laidMetH Tryz.prog Rows.fnExactWorldTickRow.laid ((World.laidAll Tryz.prog os Rows.fnExactWorldTickRow.laid).forCall (fun _ _ => 0) ⟨#[], args, []⟩).memory := by
  rw [MakeChecks.laidMetH_plain _ _ _ (by kernel_rfl)]
  exact laidMet_laidAll _ (by kernel_rfl) (by kernel_rfl)

theorem lifted (os : Os) (started : os.Started) (H : Type) (enc : TypeId × Value → H) :
    ReturnsInHanded {} Tryz.checked os 5 .any (fun w args => (Rows.fnExactWorldTickSpec.pre enc Tryz.prog Tryz.f5 [] false w args ∧ laidMetH Tryz.prog Rows.fnExactWorldTickRow.laid w) ∧ sizedMet enc Tryz.prog Tryz.f5 (OpenSpec.ofChange Rows.fnExactWorldTickSpec) false w args)
      (Rows.fnExactWorldTickSpec.post enc Tryz.prog Tryz.f5 false true false false) := by
  refine returns_and_shaped (C := Tryz.checked) (X := fun w _ => laidMetH Tryz.prog Rows.fnExactWorldTickRow.laid w) (fun _ _ _ hh h => h.of_heap hh) own started (by kernel_rfl) Tryz.func5
    (ChangeSpec.witness_shaped (enc := enc) (C := Tryz.checked) (os := os) (X := fun w _ => laidMetH Tryz.prog Rows.fnExactWorldTickRow.laid w) false (World.laidAll Tryz.prog os Rows.fnExactWorldTickRow.laid) #[zeroV U14, .int .i64 0] 24 (World.laidAll_os _ _ _) (World.shaped_of_ZipB (by kernel_rfl) (by kernel_rfl)) (by kernel_rfl) (by kernel_rfl) (by kernel_rfl) (door_met os _)) ?_
  intro W base args ds gs before hval hW _ _ hL hS _
  exact law_frame (C := Tryz.checked) (cx := (T (fun _ _ => ⟨[], [], [], false⟩) 0).cx []) (tys := [U14, (.int .i64)]) (sem := fun x => F5 2097153 x.1 x.2.1) (b := 4) (G := Known) Tryz.func5 (ok5 good 2097153) rfl
    (by rw [Tryz.params5]; exact ⟨(tyB_sound _).1 73 (by kernel_rfl), (tyB_sound _).1 3 (by kernel_rfl), trivial⟩) (by kernel_rfl) Tryz.underlying4 (by kernel_rfl)
    (by rw [Tryz.params5]; intro t ht; simp at ht; rcases ht with rfl | rfl <;> exact ⟨by kernel_rfl, of_decide_eq_true (by kernel_rfl)⟩) rfl
    (fun H ds hd => by match ds, hd with | [d0, d1], _ => rfl)
    (fun x hx => plain 2097153 (by decide) x.1 x.2.1 hx.1 hx.2.1) hval hW (known_of_laid hL hS)

theorem row_holds : Rows.FnExactWorldTickSaid :=
  OpenClaim.holds_of_wide 5 Tryz.f5 rfl rfl rfl rfl rfl rfl rfl ⟨rfl, rfl, rfl, rfl, rfl⟩ rfl rfl rfl rfl rfl (by kernel_rfl) Tryz.func5 closed
    (of_decide_eq_true (by kernel_rfl)) (by unfold Func.isWrapper; first | (rw [if_pos (by decide +kernel)]; kernel_rfl) | (rw [if_neg (by decide +kernel)]; exact ⟨rfl, rfl⟩))
    (fun os started H enc _ => lifted os started H enc)

theorem over : Rows.FnExactWorldTickCardSaid :=
  Claim7.holds_tied_plain_at .later [] [.data, .pinned] true (true, "49f49a30efdd762479fac14551cf6c66d15d4223dc563db540edde3a6db227c4") false
    row_holds (fun _ h => by cases h) (by kernel_rfl) (fun _ h => by cases h) fnExactWorldTick_row_tie rfl ⟨rfl, rfl⟩ (by kernel_rfl) rfl
    (fun f fn hf hfn => by
      obtain rfl : f = 5 := Option.some.inj ((show Tryz.prog.funcNamed "loop.example/g01402/laws.FnExactWorldTick" = some 5 by kernel_rfl).symm.trans hf) |>.symm
      obtain rfl : fn = Tryz.f5 := (Option.some.inj (Tryz.func5.symm.trans hfn)).symm
      exact ⟨by kernel_rfl, fun j t ht => by
        rw [Tryz.params5] at ht
        have hm : t ∈ [73, 3] := by simpa using Array.mem_of_getElem? ht
        have hall : ([73, 3].all fun u => !Tryz.prog.wantsStandIn u) = true := by kernel_rfl
        exact (show Tryz.prog.wantsStandIn t = false by simpa using List.all_eq_true.1 hall t hm)⟩)
    (by kernel_rfl)
end Go.Proofs.YteliolfafmmhlaaGreatDoor.WorldTick
namespace Go.Proofs.YteliolfafmmhlaaGreatDoor
/-- The card, under a short name, for the claim. -/
theorem fnExactWorldTick_holds : Rows.FnExactWorldTickCardSaid := WorldTick.over
end Go.Proofs.YteliolfafmmhlaaGreatDoor

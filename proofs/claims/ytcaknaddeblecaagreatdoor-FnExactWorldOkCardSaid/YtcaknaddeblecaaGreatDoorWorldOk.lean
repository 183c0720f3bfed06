/- For every input FnExactWorldOk answers true: the program's WorldOk tells what the reference's tells, and leaves its arguments as they were; no conditions. -/
import Derived.Test.YtcaknaddeblecaaGreatDoorWorldOkCore
import Derived.Test.YtcaknaddeblecaaGreatDoorRows
import Derived.WalkKit
import Derived.ProofKit
import Derived.SizedLaws
import Derived.Test.YtcaknaddeblecaaGreatDoorTie
import Derived.Test.YtcaknaddeblecaaGreatDoorCards
import Derived.LaidMore
import Derived.Lay
import Derived.Stop.Joined
import Derived.Stop.LaidErr
import Derived.Lib.LaidTab
import Derived.SevenTiedAt
namespace Go.Proofs.YtcaknaddeblecaaGreatDoor.WorldOk
open Go Go.RowKit Go.Proofs Go.Proofs.YtcaknaddeblecaaGreatDoor Go.Proofs.YtcaknaddeblecaaGreatDoor.Ev Go.Proofs.YtcaknaddeblecaaGreatDoor.Pl Go.Proofs.YtcaknaddeblecaaGreatDoor.Fns
open Go.ChangeShapes Go.WideShapes Go.ChangeAt
set_option maxRecDepth 1000000
set_option linter.unusedVariables false
set_option linter.unusedSimpArgs false

theorem plain (k : Nat) (hk : fuel < k) (a0 : D14) (ok_a0 : Ty.Ok U14 a0) : F7 k a0 = some true := by
  unfold F7
  refine law_sz (sz23 k a0 (1048576 : Int) hk ok_a0 (by decide) (by decide)) (by decide) (by decide) fun L1 h1 l1 c_a0 => ?_
  obtain ⟨w, hw, hw'⟩ := same k hk a0 ok_a0 c_a0
  simp only [Option.bind_some, to26 k a0 hk c_a0, eq29 k a0 hk c_a0, hw, hw', decide_true, beq_self_eq_true, eq_self, Bool.not_true, cond_false]

theorem own : ownKnob Tryz.prog.godebug = none := by kernel_rfl

/-- nothing need be known of the worlds of the call -/
def Known (w : World) : Prop := True
theorem good : Lasts Known := fun _ _ _ _ => trivial
theorem known_of_laid {W : World} (h : laidMetH Tryz.prog Rows.fnExactWorldOkRow.laid W) : Known W := trivial

theorem door_met (os : Os) (args : Array Value) : laidMetH Tryz.prog Rows.fnExactWorldOkRow.laid ((World.laidAll Tryz.prog os Rows.fnExactWorldOkRow.laid).forCall (fun _ _ => 0) ⟨#[], args, []⟩).memory := by
  rw [MakeChecks.laidMetH_plain _ _ _ (by kernel_rfl)]
  exact laidMet_laidAll _ (by kernel_rfl) (by kernel_rfl)

theorem lifted (os : Os) (started : os.Started) (H : Type) (enc : TypeId × Value → H) :
    ReturnsInHanded {} Tryz.checked os 7 .any (fun w args => (Rows.fnExactWorldOkSpec.pre enc Tryz.prog Tryz.f7 [] false w args ∧ laidMetH Tryz.prog Rows.fnExactWorldOkRow.laid w) ∧ sizedMet enc Tryz.prog Tryz.f7 (OpenSpec.ofChange Rows.fnExactWorldOkSpec) false w args)
      (Rows.fnExactWorldOkSpec.post enc Tryz.prog Tryz.f7 false true false false) := by
  refine returnsInHanded_of_change_and (C := Tryz.checked) (X := fun w _ => laidMetH Tryz.prog Rows.fnExactWorldOkRow.laid w) (fun _ _ _ hh h => h.of_heap hh) own started (by kernel_rfl) Tryz.func7
    (ChangeSpec.witness_shaped (enc := enc) (C := Tryz.checked) (os := os) (X := fun w _ => laidMetH Tryz.prog Rows.fnExactWorldOkRow.laid w) false (World.laidAll Tryz.prog os Rows.fnExactWorldOkRow.laid) #[zeroV U14] 24 (World.laidAll_os _ _ _) (World.shaped_of_ZipB (by kernel_rfl) (by kernel_rfl)) (by kernel_rfl) (by kernel_rfl) (by kernel_rfl) (door_met os _)) ?_
  intro W base args ds gs before hval hW _ _ hL _
  exact law_frame (C := Tryz.checked) (cx := (T (fun _ _ => ⟨[], [], [], false⟩) 0).cx []) (tys := [U14]) (sem := fun x => F7 2097153 x.1) (b := 4) (G := Known) Tryz.func7 (ok7 good 2097153) rfl
    (by rw [Tryz.params7]; exact ⟨(tyB_sound _).1 68 (by kernel_rfl), trivial⟩) (by kernel_rfl) Tryz.underlying4 (by kernel_rfl)
    (by rw [Tryz.params7]; intro t ht; simp at ht; subst ht; exact ⟨by kernel_rfl, of_decide_eq_true (by kernel_rfl)⟩) rfl
    (fun H ds hd => by match ds, hd with | [d0], _ => rfl)
    (fun x hx => plain 2097153 (by decide) x.1 hx.1) hval hW (known_of_laid hL)

theorem row_holds : Rows.FnExactWorldOkSaid :=
  OpenClaim.holds_of_wide 7 Tryz.f7 rfl rfl rfl rfl rfl rfl rfl ⟨rfl, rfl, rfl, rfl, rfl⟩ rfl rfl rfl rfl rfl (by kernel_rfl) Tryz.func7 (by kernel_rfl)
    (of_decide_eq_true (by kernel_rfl)) (by unfold Func.isWrapper; first | (rw [if_pos (by decide +kernel)]; kernel_rfl) | (rw [if_neg (by decide +kernel)]; exact ⟨rfl, rfl⟩))
    (fun os started H enc _ => lifted os started H enc)

theorem over : Rows.FnExactWorldOkCardSaid :=
  Claim7.holds_tied_plain_at .later [] [.data, .pinned] true (true, "7ec1b42f3dd7968ef98a3be2a78f2957d2fa8effba8d6314dd20ce9b734d0897") false
    row_holds (fun _ h => by cases h) (by kernel_rfl) (fun _ h => by cases h) fnExactWorldOk_row_tie rfl ⟨rfl, rfl⟩ (by kernel_rfl) rfl
    (fun f fn hf hfn => by
      obtain rfl : f = 7 := Option.some.inj ((show Tryz.prog.funcNamed "loop.example/g01402/laws.FnExactWorldOk" = some 7 by kernel_rfl).symm.trans hf) |>.symm
      obtain rfl : fn = Tryz.f7 := (Option.some.inj (Tryz.func7.symm.trans hfn)).symm
      exact ⟨by kernel_rfl, fun j t ht => by
        rw [Tryz.params7] at ht
        have hm : t ∈ [68] := by simpa using Array.mem_of_getElem? ht
        have hall : ([68].all fun u => !Tryz.prog.wantsStandIn u) = true := by kernel_rfl
        exact (show Tryz.prog.wantsStandIn t = false by simpa using List.all_eq_true.1 hall t hm)⟩)
    (by kernel_rfl)
end Go.Proofs.YtcaknaddeblecaaGreatDoor.WorldOk
namespace Go.Proofs.YtcaknaddeblecaaGreatDoor
/-- The card, under a short name, for the claim. -/
theorem fnExactWorldOk_holds : Rows.FnExactWorldOkCardSaid := WorldOk.over
end Go.Proofs.YtcaknaddeblecaaGreatDoor

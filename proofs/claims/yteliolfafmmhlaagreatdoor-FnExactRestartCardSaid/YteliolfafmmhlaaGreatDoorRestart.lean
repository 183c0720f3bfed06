/- For every input FnExactRestart answers true: the program's Restart tells what the reference's tells, and leaves its arguments as they were; no conditions. -/
import Derived.Test.YteliolfafmmhlaaGreatDoorRestartCore
import Derived.Test.YteliolfafmmhlaaGreatDoorRestartRow
import Derived.Test.YteliolfafmmhlaaGreatDoorRows
import Derived.WalkKit
import Derived.ProofKit
import Derived.SizedLaws
import Derived.Test.YteliolfafmmhlaaGreatDoorTie
import Derived.Test.YteliolfafmmhlaaGreatDoorCards
import Derived.LaidMore
import Derived.Lay
import Derived.Stop.Joined
import Derived.Stop.LaidErr
import Derived.Lib.LaidTab
import Derived.SevenTiedAt
import Derived.Shelf.Vars
import Derived.Test.YteliolfafmmhlaaGreatDoorEvLm
namespace Go.Proofs.YteliolfafmmhlaaGreatDoor.Restart
open Go Go.RowKit Go.Proofs Go.Proofs.YteliolfafmmhlaaGreatDoor Go.Proofs.YteliolfafmmhlaaGreatDoor.Ev Go.Proofs.YteliolfafmmhlaaGreatDoor.Pl Go.Proofs.YteliolfafmmhlaaGreatDoor.Fns
open Go.ChangeShapes Go.WideShapes Go.ChangeAt
set_option maxRecDepth 1000000
set_option linter.unusedVariables false
set_option linter.unusedSimpArgs false

theorem plain (k : Nat) (hk : fuel < k) (a0 : D14) (a1 : List ByteArray) (ok_a0 : Ty.Ok U14 a0) (ok_a1 : Ty.Ok (.slice .str) a1) : F6 k a0 a1 = some true := by
  unfold F6
  refine law_sz2 (sz30 k a0 (1048576 : Int) hk ok_a0 (by decide) (by decide)) (by decide) (by decide) fun L1 h1 l1 c_a0 g1 => ?_
  refine law_sz2 (sz7 k a1 L1 hk ok_a1 h1 l1) h1 l1 fun L2 h2 l2 c_a1 g2 => ?_
  obtain ⟨w, cw, hw, hw'⟩ := same k hk a0 a1 ok_a0 ok_a1 c_a0 c_a1 (by show _ ≤ 1048576; omega)
  have s0 := cno_small (Ty.inner U14) a0 (by decide) c_a0
  have m0 : mo22 k a0 (1 : Int) = some ((mov (txtV k) (Ty.inner U14) a0 (1 : Int)), ((1 : Int) + ((cno (Ty.inner U14) a0 : Nat) : Int))) := mo_all hk (Ty.inner U14) a0 (1 : Int) (by decide) (by decide) c_a0 (by omega) (by omega) _
  have n0 : decide (((1 : Int) + ((cno (Ty.inner U14) a0 : Nat) : Int)) < (0 : Int)) = false := dF (by omega)
  have s1 := cnt_small (.slice .str) a1 (by decide) c_a1
  have wd1 : Ty.wid (.slice .str) = 0 := rfl
  have m1 : mo19 k a1 ((1 : Int) + ((cno (Ty.inner U14) a0 : Nat) : Int)) = some ((mkvs (mkv (txtV k) .str) (cnt .str) a1 ((1 : Int) + ((cno (Ty.inner U14) a0 : Nat) : Int))), (((1 : Int) + ((cno (Ty.inner U14) a0 : Nat) : Int)) + ((cnt (.slice .str) a1 : Nat) : Int))) := mk_all hk .str a1 ((1 : Int) + ((cno (Ty.inner U14) a0 : Nat) : Int)) (by decide) (by decide) c_a1 (by omega) (by omega)
  have n1 : decide ((((1 : Int) + ((cno (Ty.inner U14) a0 : Nat) : Int)) + ((cnt (.slice .str) a1 : Nat) : Int)) < (0 : Int)) = false := dF (by omega)
  have s2 := cno_small (Ty.inner U14) w (by decide) cw
  have m2 : mo22 k w (1 : Int) = some ((mov (txtV k) (Ty.inner U14) w (1 : Int)), ((1 : Int) + ((cno (Ty.inner U14) w : Nat) : Int))) := mo_all hk (Ty.inner U14) w (1 : Int) (by decide) (by decide) cw (by omega) (by omega) _
  have n2 : decide (((1 : Int) + ((cno (Ty.inner U14) w : Nat) : Int)) < (0 : Int)) = false := dF (by omega)
  have q0 : F23 k (w.1, w.2.1, (mov (txtV k) (Ty.inner U14) w (1 : Int)).2.2.1, (mov (txtV k) (Ty.inner U14) w (1 : Int)).2.2.2.1, (mov (txtV k) (Ty.inner U14) w (1 : Int)).2.2.2.2.1, (mov (txtV k) (Ty.inner U14) w (1 : Int)).2.2.2.2.2.1, (mov (txtV k) (Ty.inner U14) w (1 : Int)).2.2.2.2.2.2) (1 : Int) = some ((1 : Int) + ((cno (Ty.inner U14) w : Nat) : Int)) := by rw [hd23]; exact ho_all hk (Ty.inner U14) w (1 : Int) (by decide) (by decide) cw (by omega) (by omega) _
  simp only [to11 k a1 hk c_a1, to32 k a0 hk c_a0, eq15 k a0 hk c_a0, eq16 k a1 hk c_a1, eq15 k w hk cw, m0, n0, m1, n1, m2, n2, q0, Option.bind_some, hw, hw', decide_true, beq_self_eq_true, eq_self, Bool.not_true, cond_false]

theorem own : ownKnob Tryz.prog.godebug = none := by kernel_rfl

/-- nothing need be known of the worlds of the call -/
def Known (w : World) : Prop := True
theorem good : Lasts Known := fun _ _ _ _ => trivial
theorem known_of_laid {W : World} (h : laidMetH Tryz.prog Rows.fnExactRestartRow.laid W) (hs : W.ShapedOpen Tryz.prog) : Known W := trivial

theorem door_met (os : Os) (args : Array Value) : laidMetH Tryz.prog Rows.fnExactRestartRow.laid ((World.laidAll Tryz.prog os Rows.fnExactRestartRow.laid).forCall (fun _ _ => 0) ⟨#[], args, []⟩).memory := by
  rw [MakeChecks.laidMetH_plain _ _ _ (by kernel_rfl)]
  exact laidMet_laidAll _ (by kernel_rfl) (by kernel_rfl)

theorem lifted (os : Os) (started : os.Started) (H : Type) (enc : TypeId × Value → H) :
    ReturnsInHanded {} Tryz.checked os 6 .any (fun w args => (Rows.fnExactRestartSpec.pre enc Tryz.prog Tryz.f6 [] false w args ∧ laidMetH Tryz.prog Rows.fnExactRestartRow.laid w) ∧ sizedMet enc Tryz.prog Tryz.f6 (OpenSpec.ofChange Rows.fnExactRestartSpec) false w args)
      (Rows.fnExactRestartSpec.post enc Tryz.prog Tryz.f6 false true false false) := by
  refine returns_and_shaped (C := Tryz.checked) (X := fun w _ => laidMetH Tryz.prog Rows.fnExactRestartRow.laid w) (fun _ _ _ hh h => h.of_heap hh) own started (by kernel_rfl) Tryz.func6
    (ChangeSpec.witness_shaped (enc := enc) (C := Tryz.checked) (os := os) (X := fun w _ => laidMetH Tryz.prog Rows.fnExactRestartRow.laid w) false (World.laidAll Tryz.prog os Rows.fnExactRestartRow.laid) #[zeroV U14, .slice none 0 0] 24 (World.laidAll_os _ _ _) (World.shaped_of_ZipB (by kernel_rfl) (by kernel_rfl)) (by kernel_rfl) (by kernel_rfl) (by kernel_rfl) (door_met os _)) ?_
  intro W base args ds gs before hval hW _ _ hL hS _
  exact law_frame (C := Tryz.checked) (cx := (T (fun _ _ => ⟨[], [], [], false⟩) 0).cx []) (tys := [U14, (.slice .str)]) (sem := fun x => F6 2097153 x.1 x.2.1) (b := 4) (G := Known) Tryz.func6 (ok6 good 2097153) rfl
    (by rw [Tryz.params6]; exact ⟨(tyB_sound _).1 73 (by kernel_rfl), (tyB_sound _).1 22 (by kernel_rfl), trivial⟩) (by kernel_rfl) Tryz.underlying4 (by kernel_rfl)
    (by rw [Tryz.params6]; intro t ht; simp at ht; rcases ht with rfl | rfl <;> exact ⟨by kernel_rfl, of_decide_eq_true (by kernel_rfl)⟩) rfl
    (fun H ds hd => by match ds, hd with | [d0, d1], _ => rfl)
    (fun x hx => plain 2097153 (by decide) x.1 x.2.1 hx.1 hx.2.1) hval hW (known_of_laid hL hS)

theorem row_holds : Rows.FnExactRestartSaid :=
  OpenClaim.holds_of_wide 6 Tryz.f6 rfl rfl rfl rfl rfl rfl rfl ⟨rfl, rfl, rfl, rfl, rfl⟩ rfl rfl rfl rfl rfl (by kernel_rfl) Tryz.func6 closed
    (of_decide_eq_true (by kernel_rfl)) (by unfold Func.isWrapper; first | (rw [if_pos (by decide +kernel)]; kernel_rfl) | (rw [if_neg (by decide +kernel)]; exact ⟨rfl, rfl⟩))
    (fun os started H enc _ => lifted os started H enc)

theorem over : Rows.FnExactRestartCardSaid :=
  Claim7.holds_tied_plain_at .later [] [.data, .pinned] true (true, "49f49a30efdd762479fac14551cf6c66d15d4223dc563db540edde3a6db227c4") false
    row_holds (fun _ h => by cases h) (by kernel_rfl) (fun _ h => by cases h) fnExactRestart_row_tie rfl ⟨rfl, rfl⟩ (by kernel_rfl) rfl
    (fun f fn hf hfn => by
      obtain rfl : f = 6 := Option.some.inj ((show Tryz.prog.funcNamed "loop.example/g01402/laws.FnExactRestart" = some 6 by kernel_rfl).symm.trans hf) |>.symm
      obtain rfl : fn = Tryz.f6 := (Option.some.inj (Tryz.func6.symm.trans hfn)).symm
      exact ⟨by kernel_rfl, fun j t ht => by
        rw [Tryz.params6] at ht
        have hm : t ∈ [73, 22] := by simpa using Array.mem_of_getElem? ht
        have hall : ([73, 22].all fun u => !Tryz.prog.wantsStandIn u) = true := by kernel_rfl
        exact (show Tryz.prog.wantsStandIn t = false by simpa using List.all_eq_true.1 hall t hm)⟩)
    (by kernel_rfl)
end Go.Proofs.YteliolfafmmhlaaGreatDoor.Restart
namespace Go.Proofs.YteliolfafmmhlaaGreatDoor
/-- The card, under a short name, for the claim. -/
theorem fnExactRestart_holds : Rows.FnExactRestartCardSaid := Restart.over
end Go.Proofs.YteliolfafmmhlaaGreatDoor

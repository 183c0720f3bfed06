/- For every input FnExactJoinable answers true: the program's Joinable tells what the reference's tells, and leaves its arguments as they were; no conditions. -/
import Derived.Test.YtcaknaddeblecaaGreatDoorJoinableCore
import Derived.Test.YtcaknaddeblecaaGreatDoorRows
import Derived.WalkKit
import Derived.ProofKit
import Derived.SizedLaws
import Derived.Test.YtcaknaddeblecaaGreatDoorTie
import Derived.Test.YtcaknaddeblecaaGreatDoorCards
import Derived.LaidMore
import Derived.Lay
import Derived.Stop.Joined
import Derived.Stop.LaidErr
import Derived.Lib.LaidTab
import Derived.SevenTiedAt
import Derived.Shelf.Vars
import Derived.Test.YtcaknaddeblecaaGreatDoorEvLm
namespace Go.Proofs.YtcaknaddeblecaaGreatDoor.Joinable
open Go Go.RowKit Go.Proofs Go.Proofs.YtcaknaddeblecaaGreatDoor Go.Proofs.YtcaknaddeblecaaGreatDoor.Ev Go.Proofs.YtcaknaddeblecaaGreatDoor.Pl Go.Proofs.YtcaknaddeblecaaGreatDoor.Fns
open Go.ChangeShapes Go.WideShapes Go.ChangeAt
set_option maxRecDepth 1000000
set_option linter.unusedVariables false
set_option linter.unusedSimpArgs false

theorem plain (k : Nat) (hk : fuel < k) (a0 : D14) (a1 : D7) (ok_a0 : Ty.Ok U14 a0) (ok_a1 : Ty.Ok U7 a1) : F6 k a0 a1 = some true := by
  unfold F6
  refine law_sz (sz23 k a0 (1048576 : Int) hk ok_a0 (by decide) (by decide)) (by decide) (by decide) fun L1 h1 l1 c_a0 => ?_
  refine law_sz (sz24 k a1 L1 hk ok_a1 h1 l1) h1 l1 fun L2 h2 l2 c_a1 => ?_
  obtain ⟨w, hw, hw'⟩ := same k hk a0 a1 ok_a0 ok_a1 c_a0 c_a1
  simp only [Option.bind_some, to26 k a0 hk c_a0, to27 k a1 hk c_a1, eq29 k a0 hk c_a0, eq30 k a1 hk c_a1, hw, hw', decide_true, beq_self_eq_true, eq_self, Bool.not_true, cond_false]

theorem own : ownKnob Tryz.prog.godebug = none := by kernel_rfl


/-- what is known of every world of the call -/
structure Known (w : World) : Prop where
  maxl : ∃ m, w.cell? ⟨0, 0, none⟩ = some (.int .i64 m)
theorem good : Lasts Known := fun _ _ h hb => ⟨h.maxl.imp fun _ q => cell_lasts q hb⟩
theorem maxs : Maxs 0 Known := fun _ h => h.maxl

theorem known_of_laid {W : World} (h : laidMetH Tryz.prog Rows.fnExactJoinableRow.laid W) (hs : W.ShapedOpen Tryz.prog) : Known W := by
  rw [MakeChecks.laidMetH_plain _ _ _ (by kernel_rfl)] at h
  exact ⟨cell_of_shapedOpen_int (P := Tryz.prog) (g := 0) (t := 3) (zero := #[.int .i64 0]) hs (of_decide_eq_true (by kernel_rfl)) (by kernel_rfl) rfl (by kernel_rfl) (by kernel_rfl) Tryz.underlying3⟩

theorem door_met (os : Os) (args : Array Value) : laidMetH Tryz.prog Rows.fnExactJoinableRow.laid ((World.laidAll Tryz.prog os Rows.fnExactJoinableRow.laid).forCall (fun _ _ => 0) ⟨#[], args, []⟩).memory := by
  rw [MakeChecks.laidMetH_plain _ _ _ (by kernel_rfl)]
  exact laidMet_laidAll _ (by kernel_rfl) (by kernel_rfl)

theorem lifted (os : Os) (started : os.Started) (H : Type) (enc : TypeId × Value → H) :
    ReturnsInHanded {} Tryz.checked os 6 .any (fun w args => (Rows.fnExactJoinableSpec.pre enc Tryz.prog Tryz.f6 [] false w args ∧ laidMetH Tryz.prog Rows.fnExactJoinableRow.laid w) ∧ sizedMet enc Tryz.prog Tryz.f6 (OpenSpec.ofChange Rows.fnExactJoinableSpec) false w args)
      (Rows.fnExactJoinableSpec.post enc Tryz.prog Tryz.f6 false true false false) := by
  refine returns_and_shaped (C := Tryz.checked) (X := fun w _ => laidMetH Tryz.prog Rows.fnExactJoinableRow.laid w) (fun _ _ _ hh h => h.of_heap hh) own started (by kernel_rfl) Tryz.func6
    (ChangeSpec.witness_shaped (enc := enc) (C := Tryz.checked) (os := os) (X := fun w _ => laidMetH Tryz.prog Rows.fnExactJoinableRow.laid w) false (World.laidAll Tryz.prog os Rows.fnExactJoinableRow.laid) #[zeroV U14, zeroV U7] 24 (World.laidAll_os _ _ _) (World.shaped_of_ZipB (by kernel_rfl) (by kernel_rfl)) (by kernel_rfl) (by kernel_rfl) (by kernel_rfl) (door_met os _)) ?_
  intro W base args ds gs before hval hW _ _ hL hS _
  exact law_frame (C := Tryz.checked) (cx := (T (fun _ _ => ⟨[], [], [], false⟩) 0).cx []) (tys := [U14, U7]) (sem := fun x => F6 2097153 x.1 x.2.1) (b := 4) (G := Known) Tryz.func6 (ok6 good maxs 2097153) rfl
    (by rw [Tryz.params6]; exact ⟨(tyB_sound _).1 68 (by kernel_rfl), (tyB_sound _).1 70 (by kernel_rfl), trivial⟩) (by kernel_rfl) Tryz.underlying4 (by kernel_rfl)
    (by rw [Tryz.params6]; intro t ht; simp at ht; rcases ht with rfl | rfl <;> exact ⟨by kernel_rfl, of_decide_eq_true (by kernel_rfl)⟩) rfl
    (fun H ds hd => by match ds, hd with | [d0, d1], _ => rfl)
    (fun x hx => plain 2097153 (by decide) x.1 x.2.1 hx.1 hx.2.1) hval hW (known_of_laid hL hS)

theorem row_holds : Rows.FnExactJoinableSaid :=
  OpenClaim.holds_of_wide 6 Tryz.f6 rfl rfl rfl rfl rfl rfl rfl ⟨rfl, rfl, rfl, rfl, rfl⟩ rfl rfl rfl rfl rfl (by kernel_rfl) Tryz.func6 (by kernel_rfl)
    (of_decide_eq_true (by kernel_rfl)) (by unfold Func.isWrapper; first | (rw [if_pos (by decide +kernel)]; kernel_rfl) | (rw [if_neg (by decide +kernel)]; exact ⟨rfl, rfl⟩))
    (fun os started H enc _ => lifted os started H enc)

theorem over : Rows.FnExactJoinableCardSaid :=
  Claim7.holds_tied_plain_at .later [] [.data, .pinned] true (true, "7ec1b42f3dd7968ef98a3be2a78f2957d2fa8effba8d6314dd20ce9b734d0897") false
    row_holds (fun _ h => by cases h) (by kernel_rfl) (fun _ h => by cases h) fnExactJoinable_row_tie rfl ⟨rfl, rfl⟩ (by kernel_rfl) rfl
    (fun f fn hf hfn => by
      obtain rfl : f = 6 := Option.some.inj ((show Tryz.prog.funcNamed "loop.example/g01402/laws.FnExactJoinable" = some 6 by kernel_rfl).symm.trans hf) |>.symm
      obtain rfl : fn = Tryz.f6 := (Option.some.inj (Tryz.func6.symm.trans hfn)).symm
      exact ⟨by kernel_rfl, fun j t ht => by
        rw [Tryz.params6] at ht
        have hm : t ∈ [68, 70] := by simpa using Array.mem_of_getElem? ht
        have hall : ([68, 70].all fun u => !Tryz.prog.wantsStandIn u) = true := by kernel_rfl
        exact (show Tryz.prog.wantsStandIn t = false by simpa using List.all_eq_true.1 hall t hm)⟩)
    (by kernel_rfl)
end Go.Proofs.YtcaknaddeblecaaGreatDoor.Joinable
namespace Go.Proofs.YtcaknaddeblecaaGreatDoor
/-- The card, under a short name, for the claim. -/
theorem fnExactJoinable_holds : Rows.FnExactJoinableCardSaid := Joinable.over
end Go.Proofs.YtcaknaddeblecaaGreatDoor

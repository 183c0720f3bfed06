/- For every input FnExactShowCache answers true: the program's ShowCache tells what the reference's tells, and leaves its arguments as they were; no conditions. -/
import Derived.Test.YtcaknaddeblecaaGreatDoorShowCacheCore
import Derived.Test.YtcaknaddeblecaaGreatDoorRows
import Derived.WalkKit
import Derived.ProofKit
import Derived.SizedLaws
import Derived.Test.YtcaknaddeblecaaGreatDoorTie
import Derived.Test.YtcaknaddeblecaaGreatDoorCards
import Derived.LaidMore
import Derived.Lay
import Derived.Stop.Joined
import Derived.Stop.LaidErr
import Derived.Lib.LaidTab
import Derived.SevenTiedAt
import Derived.Shelf.Vars
import Derived.Test.YtcaknaddeblecaaGreatDoorEvLm
namespace Go.Proofs.YtcaknaddeblecaaGreatDoor.ShowCache
open Go Go.RowKit Go.Proofs Go.Proofs.YtcaknaddeblecaaGreatDoor Go.Proofs.YtcaknaddeblecaaGreatDoor.Ev Go.Proofs.YtcaknaddeblecaaGreatDoor.Pl Go.Proofs.YtcaknaddeblecaaGreatDoor.Fns
open Go.ChangeShapes Go.WideShapes Go.ChangeAt
set_option maxRecDepth 1000000
set_option linter.unusedVariables false
set_option linter.unusedSimpArgs false

theorem plain (k : Nat) (hk : fuel < k) (a0 : D6) (ok_a0 : Ty.Ok U6 a0) : F5 k a0 = some true := by
  unfold F5
  refine law_sz (sz18 k a0 (1048576 : Int) hk ok_a0 (by decide) (by decide)) (by decide) (by decide) fun L1 h1 l1 c_a0 => ?_
  obtain ⟨w, hw, hw'⟩ := same k hk a0 ok_a0 c_a0
  simp only [Option.bind_some, to20 k a0 hk c_a0, eq22 k a0 hk c_a0, hw, hw', decide_true, beq_self_eq_true, eq_self, Bool.not_true, cond_false]

theorem own : ownKnob Tryz.prog.godebug = none := by kernel_rfl
theorem gPow : Tryz.prog.globalNamed "internal/strconv.uint64pow10" = some 1 := by kernel_rfl

/-- what is known of every world of the call -/
structure Known (w : World) : Prop where
  pow : Lib.TabIs Tryz.prog w "internal/strconv.uint64pow10" .u64 Lib.pow10Tab
theorem good : GoodW Tryz.prog Known := ⟨fun _ _ h hb => ⟨tab_below gPow h.pow hb⟩, fun _ h => h.pow⟩

theorem known_of_laid {W : World} (h : laidMetH Tryz.prog Rows.fnExactShowCacheRow.laid W) (hs : W.ShapedOpen Tryz.prog) : Known W := by
  rw [MakeChecks.laidMetH_plain _ _ _ (by kernel_rfl)] at h
  have e : (Rows.laid_internal_strconv_uint64pow10 : DataW Unit) = Lib.tabData .u64 Lib.pow10Tab := by kernel_rfl
  have h : laidMet Tryz.prog [("math/bits.deBruijn32tab", Rows.laid_math_bits_deBruijn32tab), ("math/bits.deBruijn64tab", Rows.laid_math_bits_deBruijn64tab), ("internal/strconv.uint64pow10", Rows.laid_internal_strconv_uint64pow10), ("unicode/utf8.acceptRanges", Rows.laid_unicode_utf8_acceptRanges), ("unicode/utf8.first", Rows.laid_unicode_utf8_first)] W := h
  rw [e] at h
  exact ⟨Lib.tabIs_of_head (t := 254) (e := 246) (n := 20) gPow (by kernel_rfl) (by kernel_rfl) (by kernel_rfl) (by kernel_rfl) (by kernel_rfl) (laidMet.tail (laidMet.tail h))⟩

theorem door_met (os : Os) (args : Array Value) : laidMetH Tryz.prog Rows.fnExactShowCacheRow.laid ((World.laidAll Tryz.prog os Rows.fnExactShowCacheRow.laid).forCall (fun _ _ => 0) ⟨#[], args, []⟩).memory := by
  rw [MakeChecks.laidMetH_plain _ _ _ (by kernel_rfl)]
  exact laidMet_laidAll _ (by kernel_rfl) (by kernel_rfl)

theorem lifted (os : Os) (started : os.Started) (H : Type) (enc : TypeId × Value → H) :
    ReturnsInHanded {} Tryz.checked os 5 .any (fun w args => (Rows.fnExactShowCacheSpec.pre enc Tryz.prog Tryz.f5 [] false w args ∧ laidMetH Tryz.prog Rows.fnExactShowCacheRow.laid w) ∧ sizedMet enc Tryz.prog Tryz.f5 (OpenSpec.ofChange Rows.fnExactShowCacheSpec) false w args)
      (Rows.fnExactShowCacheSpec.post enc Tryz.prog Tryz.f5 false true false false) := by
  refine returns_and_shaped (C := Tryz.checked) (X := fun w _ => laidMetH Tryz.prog Rows.fnExactShowCacheRow.laid w) (fun _ _ _ hh h => h.of_heap hh) own started (by kernel_rfl) Tryz.func5
    (ChangeSpec.witness_shaped (enc := enc) (C := Tryz.checked) (os := os) (X := fun w _ => laidMetH Tryz.prog Rows.fnExactShowCacheRow.laid w) false (World.laidAll Tryz.prog os Rows.fnExactShowCacheRow.laid) #[zeroV U6] 24 (World.laidAll_os _ _ _) (World.shaped_of_ZipB (by kernel_rfl) (by kernel_rfl)) (by kernel_rfl) (by kernel_rfl) (by kernel_rfl) (door_met os _)) ?_
  intro W base args ds gs before hval hW _ _ hL hS _
  exact law_frame (C := Tryz.checked) (cx := (T (fun _ _ => ⟨[], [], [], false⟩) 0).cx []) (tys := [U6]) (sem := fun x => F5 2097153 x.1) (b := 4) (G := Known) Tryz.func5 (ok5 good 2097153) rfl
    (by rw [Tryz.params5]; exact ⟨(tyB_sound _).1 51 (by kernel_rfl), trivial⟩) (by kernel_rfl) Tryz.underlying4 (by kernel_rfl)
    (by rw [Tryz.params5]; intro t ht; simp at ht; subst ht; exact ⟨by kernel_rfl, of_decide_eq_true (by kernel_rfl)⟩) rfl
    (fun H ds hd => by match ds, hd with | [d0], _ => rfl)
    (fun x hx => plain 2097153 (by decide) x.1 hx.1) hval hW (known_of_laid hL hS)

theorem row_holds : Rows.FnExactShowCacheSaid :=
  OpenClaim.holds_of_wide 5 Tryz.f5 rfl rfl rfl rfl rfl rfl rfl ⟨rfl, rfl, rfl, rfl, rfl⟩ rfl rfl rfl rfl rfl (by kernel_rfl) Tryz.func5 (by kernel_rfl)
    (of_decide_eq_true (by kernel_rfl)) (by unfold Func.isWrapper; first | (rw [if_pos (by decide +kernel)]; kernel_rfl) | (rw [if_neg (by decide +kernel)]; exact ⟨rfl, rfl⟩))
    (fun os started H enc _ => lifted os started H enc)

theorem over : Rows.FnExactShowCacheCardSaid :=
  Claim7.holds_tied_plain_at .later [] [.data, .data, .data, .data, .pinned] true (true, "7ec1b42f3dd7968ef98a3be2a78f2957d2fa8effba8d6314dd20ce9b734d0897") false
    row_holds (fun _ h => by cases h) (by kernel_rfl) (fun _ h => by cases h) fnExactShowCache_row_tie rfl ⟨rfl, rfl⟩ (by kernel_rfl) rfl
    (fun f fn hf hfn => by
      obtain rfl : f = 5 := Option.some.inj ((show Tryz.prog.funcNamed "loop.example/g01402/laws.FnExactShowCache" = some 5 by kernel_rfl).symm.trans hf) |>.symm
      obtain rfl : fn = Tryz.f5 := (Option.some.inj (Tryz.func5.symm.trans hfn)).symm
      exact ⟨by kernel_rfl, fun j t ht => by
        rw [Tryz.params5] at ht
        have hm : t ∈ [51] := by simpa using Array.mem_of_getElem? ht
        have hall : ([51].all fun u => !Tryz.prog.wantsStandIn u) = true := by kernel_rfl
        exact (show Tryz.prog.wantsStandIn t = false by simpa using List.all_eq_true.1 hall t hm)⟩)
    (by kernel_rfl)
end Go.Proofs.YtcaknaddeblecaaGreatDoor.ShowCache
namespace Go.Proofs.YtcaknaddeblecaaGreatDoor
/-- The card, under a short name, for the claim. -/
theorem fnExactShowCache_holds : Rows.FnExactShowCacheCardSaid := ShowCache.over
end Go.Proofs.YtcaknaddeblecaaGreatDoor

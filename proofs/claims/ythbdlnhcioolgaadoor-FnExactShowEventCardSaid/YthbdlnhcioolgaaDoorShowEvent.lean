/- For every input FnExactShowEvent answers true: the program's ShowEvent tells what the reference's tells, and leaves its arguments as they were; no conditions. -/
import Derived.Test.YthbdlnhcioolgaaDoorShowEventCore
import Derived.Test.YthbdlnhcioolgaaDoorRows
import Derived.WalkKit
import Derived.ProofKit
import Derived.SizedLaws
import Derived.Test.YthbdlnhcioolgaaDoorTie
import Derived.Test.YthbdlnhcioolgaaDoorCards
import Derived.LaidMore
import Derived.Stop.Joined
import Derived.Stop.LaidErr
import Derived.Lib.LaidTab
import Derived.SevenTiedAt
namespace Go.Proofs.YthbdlnhcioolgaaDoor.ShowEvent
open Go Go.RowKit Go.Proofs Go.Proofs.YthbdlnhcioolgaaDoor Go.Proofs.YthbdlnhcioolgaaDoor.Ev Go.Proofs.YthbdlnhcioolgaaDoor.Pl Go.Proofs.YthbdlnhcioolgaaDoor.Fns
open Go.ChangeShapes Go.WideShapes Go.ChangeAt
set_option maxRecDepth 1000000
set_option linter.unusedVariables false
set_option linter.unusedSimpArgs false

theorem plain (k : Nat) (hk : fuel < k) (a0 : D0) (ok_a0 : Ty.Ok U0 a0) : F3 k a0 = some true := by
  unfold F3
  refine law_sz (sz6 k a0 (1048576 : Int) hk ok_a0 (by decide) (by decide)) (by decide) (by decide) fun L1 h1 l1 c_a0 => ?_
  obtain ⟨w, hw, hw'⟩ := same k hk a0 ok_a0 c_a0
  simp only [Option.bind_some, to8 k a0 hk c_a0, hw, hw', decide_true, beq_self_eq_true, eq_self, Bool.not_true, cond_false]

theorem own : ownKnob Tryd.prog.godebug = none := by kernel_rfl
theorem gPow : Tryd.prog.globalNamed "internal/strconv.uint64pow10" = some 1 := by kernel_rfl

/-- what is known of every world of the call -/
def Known (w : World) : Prop := Lib.TabIs Tryd.prog w "internal/strconv.uint64pow10" .u64 Lib.pow10Tab
theorem good : GoodW Tryd.prog Known := ⟨fun _ _ h hb => tab_below gPow h hb, fun _ h => h⟩

theorem known_of_laid {W : World} (h : laidMetH Tryd.prog Rows.fnExactShowEventRow.laid W) : Known W := by
  rw [MakeChecks.laidMetH_plain _ _ _ (by kernel_rfl)] at h
  have e : (Rows.laid_internal_strconv_uint64pow10 : DataW Unit) = Lib.tabData .u64 Lib.pow10Tab := by kernel_rfl
  have h : laidMet Tryd.prog [("math/bits.deBruijn32tab", Rows.laid_math_bits_deBruijn32tab), ("math/bits.deBruijn64tab", Rows.laid_math_bits_deBruijn64tab), ("internal/strconv.uint64pow10", Rows.laid_internal_strconv_uint64pow10)] W := h
  rw [e] at h
  exact Lib.tabIs_of_head (t := 95) (e := 82) (n := 20) gPow (by kernel_rfl) (by kernel_rfl) (by kernel_rfl) (by kernel_rfl) (by kernel_rfl) (laidMet.tail (laidMet.tail h))

theorem door_met (os : Os) (args : Array Value) : laidMetH Tryd.prog Rows.fnExactShowEventRow.laid ((World.doorLaid Tryd.prog 400 os).forCall (fun _ _ => 0) ⟨#[], args, []⟩).memory :=
  laidMetH_of_parts3 (fuel := 8) (laidMet_of_run' 8 (by kernel_rfl) (by kernel_rfl)) (by kernel_rfl) (by kernel_rfl)

theorem lifted (os : Os) (started : os.Started) (H : Type) (enc : TypeId × Value → H) :
    ReturnsInHanded {} Tryd.checked os 3 .any (fun w args => (Rows.fnExactShowEventSpec.pre enc Tryd.prog Tryd.f3 [] false w args ∧ laidMetH Tryd.prog Rows.fnExactShowEventRow.laid w) ∧ sizedMet enc Tryd.prog Tryd.f3 (OpenSpec.ofChange Rows.fnExactShowEventSpec) false w args)
      (Rows.fnExactShowEventSpec.post enc Tryd.prog Tryd.f3 false true false false) := by
  refine returnsInHanded_of_change_and (C := Tryd.checked) (X := fun w _ => laidMetH Tryd.prog Rows.fnExactShowEventRow.laid w) (fun _ _ _ hh h => h.of_heap hh) own started (by kernel_rfl) Tryd.func3
    (ChangeSpec.witness_shaped (enc := enc) (C := Tryd.checked) (os := os) (X := fun w _ => laidMetH Tryd.prog Rows.fnExactShowEventRow.laid w) false (World.doorLaid Tryd.prog 400 os) #[zeroV U0] 24 rfl (World.shaped_of_RefB (by kernel_rfl) (by kernel_rfl)) (by kernel_rfl) (by kernel_rfl) (by kernel_rfl) (door_met os _)) ?_
  intro W base args ds gs before hval hW _ _ hL _
  exact law_frame (C := Tryd.checked) (cx := (T (fun _ _ => ⟨[], [], [], false⟩) 0).cx []) (tys := [U0]) (sem := fun x => F3 2097153 x.1) (b := 4) (G := Known) Tryd.func3 (ok3 good 2097153) rfl
    (by rw [Tryd.params3]; exact ⟨(tyB_sound _).1 23 (by kernel_rfl), trivial⟩) (by kernel_rfl) Tryd.underlying4 (by kernel_rfl)
    (by rw [Tryd.params3]; intro t ht; simp at ht; subst ht; exact ⟨by kernel_rfl, of_decide_eq_true (by kernel_rfl)⟩) rfl
    (fun H ds hd => by match ds, hd with | [d0], _ => rfl)
    (fun x hx => plain 2097153 (by decide) x.1 hx.1) hval hW (known_of_laid hL)

theorem row_holds : Rows.FnExactShowEventSaid :=
  OpenClaim.holds_of_wide 3 Tryd.f3 rfl rfl rfl rfl rfl rfl rfl ⟨rfl, rfl, rfl, rfl, rfl⟩ rfl rfl rfl rfl rfl (by kernel_rfl) Tryd.func3 (by kernel_rfl)
    (of_decide_eq_true (by kernel_rfl)) (by unfold Func.isWrapper; first | (rw [if_pos (by decide +kernel)]; kernel_rfl) | (rw [if_neg (by decide +kernel)]; exact ⟨rfl, rfl⟩))
    (fun os started H enc _ => lifted os started H enc)

theorem over : Rows.FnExactShowEventCardSaid :=
  Claim7.holds_tied_plain_at .later [] [.data, .data, .data] true (true, "2f9519100f93ca20db31827c7593327b3b41ed0a7def9bd68e811a7c47979787") true
    row_holds (fun _ h => by cases h) (by kernel_rfl) (fun _ h => by cases h) fnExactShowEvent_row_tie rfl ⟨rfl, rfl⟩ (by kernel_rfl) rfl
    (fun f fn hf hfn => by
      obtain rfl : f = 3 := Option.some.inj ((show Tryd.prog.funcNamed "loop.example/g01402/laws.FnExactShowEvent" = some 3 by kernel_rfl).symm.trans hf) |>.symm
      obtain rfl : fn = Tryd.f3 := (Option.some.inj (Tryd.func3.symm.trans hfn)).symm
      exact ⟨by kernel_rfl, fun j t ht => by
        rw [Tryd.params3] at ht
        have hm : t ∈ [23] := by simpa using Array.mem_of_getElem? ht
        have hall : ([23].all fun u => !Tryd.prog.wantsStandIn u) = true := by kernel_rfl
        exact (show Tryd.prog.wantsStandIn t = false by simpa using List.all_eq_true.1 hall t hm)⟩)
    (by kernel_rfl)
end Go.Proofs.YthbdlnhcioolgaaDoor.ShowEvent
namespace Go.Proofs.YthbdlnhcioolgaaDoor
/-- The card, under a short name, for the claim. -/
theorem fnExactShowEvent_holds : Rows.FnExactShowEventCardSaid := ShowEvent.over
end Go.Proofs.YthbdlnhcioolgaaDoor

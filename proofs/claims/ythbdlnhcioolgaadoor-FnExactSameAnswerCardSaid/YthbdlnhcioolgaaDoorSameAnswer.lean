/- For every input FnExactSameAnswer answers true: the program's SameAnswer tells what the reference's tells, and leaves its arguments as they were; no conditions. -/
import Derived.Test.YthbdlnhcioolgaaDoorSameAnswerCore
import Derived.Test.YthbdlnhcioolgaaDoorRows
import Derived.WalkKit
import Derived.ProofKit
import Derived.SizedLaws
import Derived.Test.YthbdlnhcioolgaaDoorTie
import Derived.Test.YthbdlnhcioolgaaDoorCards
import Derived.LaidMore
import Derived.Stop.Joined
import Derived.Stop.LaidErr
import Derived.Lib.LaidTab
import Derived.SevenTiedAt
namespace Go.Proofs.YthbdlnhcioolgaaDoor.SameAnswer
open Go Go.RowKit Go.Proofs Go.Proofs.YthbdlnhcioolgaaDoor Go.Proofs.YthbdlnhcioolgaaDoor.Ev Go.Proofs.YthbdlnhcioolgaaDoor.Pl Go.Proofs.YthbdlnhcioolgaaDoor.Fns
open Go.ChangeShapes Go.WideShapes Go.ChangeAt
set_option maxRecDepth 1000000
set_option linter.unusedVariables false
set_option linter.unusedSimpArgs false

theorem plain (k : Nat) (hk : fuel < k) (a0 : D2) (a1 : D2) (ok_a0 : Ty.Ok U2 a0) (ok_a1 : Ty.Ok U2 a1) : F5 k a0 a1 = some true := by
  unfold F5
  refine law_sz (sz15 k a0 (1048576 : Int) hk ok_a0 (by decide) (by decide)) (by decide) (by decide) fun L1 h1 l1 c_a0 => ?_
  refine law_sz (sz15 k a1 L1 hk ok_a1 h1 l1) h1 l1 fun L2 h2 l2 c_a1 => ?_
  obtain ⟨w, hw, hw'⟩ := same k hk a0 a1 ok_a0 ok_a1 c_a0 c_a1
  simp only [Option.bind_some, to17 k a0 hk c_a0, to17 k a1 hk c_a1, eq19 k a0 hk c_a0, eq19 k a1 hk c_a1, hw, hw', decide_true, beq_self_eq_true, eq_self, Bool.not_true, cond_false]

theorem own : ownKnob Tryd.prog.godebug = none := by kernel_rfl
theorem gPow : Tryd.prog.globalNamed "internal/strconv.uint64pow10" = some 1 := by kernel_rfl

theorem gSyn : Tryd.prog.globalNamed "strconv.ErrSyntax" = some 2 := by kernel_rfl
theorem gRng : Tryd.prog.globalNamed "strconv.ErrRange" = some 3 := by kernel_rfl

/-- what is known of every world of the call -/
def Known (w : World) : Prop := Lib.TabIs Tryd.prog w "internal/strconv.uint64pow10" .u64 Lib.pow10Tab ∧ (∃ ev, w.cell? ⟨2, 0, none⟩ = some ev ∧ (ev = .nilIface ∨ ∃ te pe, ev = .iface te pe)) ∧ (∃ ev, w.cell? ⟨3, 0, none⟩ = some ev ∧ (ev = .nilIface ∨ ∃ te pe, ev = .iface te pe))
theorem good : GoodW Tryd.prog Known := ⟨fun _ _ h hb => ⟨tab_below gPow h.1 hb, h.2.1.imp fun _ q => ⟨cell_lasts q.1 hb, q.2⟩, h.2.2.imp fun _ q => ⟨cell_lasts q.1 hb, q.2⟩⟩, fun _ h => h.1⟩
theorem errs : Errs 2 3 Known := ⟨fun _ h => h.2.1, fun _ h => h.2.2⟩

theorem known_of_laid {W : World} (h : laidMetH Tryd.prog Rows.fnExactSameAnswerRow.laid W) : Known W := by
  rw [MakeChecks.laidMetH_plain _ _ _ (by kernel_rfl)] at h
  have e : (Rows.laid_internal_strconv_uint64pow10 : DataW Unit) = Lib.tabData .u64 Lib.pow10Tab := by kernel_rfl
  have h : laidMet Tryd.prog [("math/bits.deBruijn32tab", Rows.laid_math_bits_deBruijn32tab), ("math/bits.deBruijn64tab", Rows.laid_math_bits_deBruijn64tab), ("internal/strconv.uint64pow10", Rows.laid_internal_strconv_uint64pow10), ("strconv.ErrRange", Rows.laid_strconv_ErrRange), ("strconv.ErrSyntax", Rows.laid_strconv_ErrSyntax)] W := h
  rw [e] at h
  exact ⟨Lib.tabIs_of_head (t := 95) (e := 82) (n := 20) gPow (by kernel_rfl) (by kernel_rfl) (by kernel_rfl) (by kernel_rfl) (by kernel_rfl) (laidMet.tail (laidMet.tail h)), err_of_laid (laidMet.tail (laidMet.tail (laidMet.tail (laidMet.tail h)))) gSyn (ti := 61) (by kernel_rfl) Tryd.underlying61, err_of_laid (laidMet.tail (laidMet.tail (laidMet.tail h))) gRng (ti := 61) (by kernel_rfl) Tryd.underlying61⟩

theorem door_met (os : Os) (args : Array Value) : laidMetH Tryd.prog Rows.fnExactSameAnswerRow.laid ((World.doorLaid Tryd.prog 400 os).forCall (fun _ _ => 0) ⟨#[], args, []⟩).memory :=
  laidMetH_of_parts3 (fuel := 8) (laidMet_of_run' 8 (by kernel_rfl) (by kernel_rfl)) (by kernel_rfl) (by kernel_rfl)

theorem lifted (os : Os) (started : os.Started) (H : Type) (enc : TypeId × Value → H) :
    ReturnsInHanded {} Tryd.checked os 5 .any (fun w args => (Rows.fnExactSameAnswerSpec.pre enc Tryd.prog Tryd.f5 [] false w args ∧ laidMetH Tryd.prog Rows.fnExactSameAnswerRow.laid w) ∧ sizedMet enc Tryd.prog Tryd.f5 (OpenSpec.ofChange Rows.fnExactSameAnswerSpec) false w args)
      (Rows.fnExactSameAnswerSpec.post enc Tryd.prog Tryd.f5 false true false false) := by
  refine returnsInHanded_of_change_and (C := Tryd.checked) (X := fun w _ => laidMetH Tryd.prog Rows.fnExactSameAnswerRow.laid w) (fun _ _ _ hh h => h.of_heap hh) own started (by kernel_rfl) Tryd.func5
    (ChangeSpec.witness_shaped (enc := enc) (C := Tryd.checked) (os := os) (X := fun w _ => laidMetH Tryd.prog Rows.fnExactSameAnswerRow.laid w) false (World.doorLaid Tryd.prog 400 os) #[zeroV U2, zeroV U2] 24 rfl (World.shaped_of_RefB (by kernel_rfl) (by kernel_rfl)) (by kernel_rfl) (by kernel_rfl) (by kernel_rfl) (door_met os _)) ?_
  intro W base args ds gs before hval hW _ _ hL _
  exact law_frame (C := Tryd.checked) (cx := (T (fun _ _ => ⟨[], [], [], false⟩) 0).cx []) (tys := [U2, U2]) (sem := fun x => F5 2097153 x.1 x.2.1) (b := 4) (G := Known) Tryd.func5 (ok5 good errs 2097153) rfl
    (by rw [Tryd.params5]; exact ⟨(tyB_sound _).1 38 (by kernel_rfl), (tyB_sound _).1 38 (by kernel_rfl), trivial⟩) (by kernel_rfl) Tryd.underlying4 (by kernel_rfl)
    (by rw [Tryd.params5]; intro t ht; simp at ht; rcases ht with rfl | rfl <;> exact ⟨by kernel_rfl, of_decide_eq_true (by kernel_rfl)⟩) rfl
    (fun H ds hd => by match ds, hd with | [d0, d1], _ => rfl)
    (fun x hx => plain 2097153 (by decide) x.1 x.2.1 hx.1 hx.2.1) hval hW (known_of_laid hL)

theorem row_holds : Rows.FnExactSameAnswerSaid :=
  OpenClaim.holds_of_wide 5 Tryd.f5 rfl rfl rfl rfl rfl rfl rfl ⟨rfl, rfl, rfl, rfl, rfl⟩ rfl rfl rfl rfl rfl (by kernel_rfl) Tryd.func5 (by kernel_rfl)
    (of_decide_eq_true (by kernel_rfl)) (by unfold Func.isWrapper; first | (rw [if_pos (by decide +kernel)]; kernel_rfl) | (rw [if_neg (by decide +kernel)]; exact ⟨rfl, rfl⟩))
    (fun os started H enc _ => lifted os started H enc)

theorem over : Rows.FnExactSameAnswerCardSaid :=
  Claim7.holds_tied_plain_at .later [] [.data, .data, .data, .sentinel, .sentinel] true (true, "2f9519100f93ca20db31827c7593327b3b41ed0a7def9bd68e811a7c47979787") true
    row_holds (fun _ h => by cases h) (by kernel_rfl) (fun _ h => by cases h) fnExactSameAnswer_row_tie rfl ⟨rfl, rfl⟩ (by kernel_rfl) rfl
    (fun f fn hf hfn => by
      obtain rfl : f = 5 := Option.some.inj ((show Tryd.prog.funcNamed "loop.example/g01402/laws.FnExactSameAnswer" = some 5 by kernel_rfl).symm.trans hf) |>.symm
      obtain rfl : fn = Tryd.f5 := (Option.some.inj (Tryd.func5.symm.trans hfn)).symm
      exact ⟨by kernel_rfl, fun j t ht => by
        rw [Tryd.params5] at ht
        have hm : t ∈ [38, 38] := by simpa using Array.mem_of_getElem? ht
        have hall : ([38, 38].all fun u => !Tryd.prog.wantsStandIn u) = true := by kernel_rfl
        exact (show Tryd.prog.wantsStandIn t = false by simpa using List.all_eq_true.1 hall t hm)⟩)
    (by kernel_rfl)
end Go.Proofs.YthbdlnhcioolgaaDoor.SameAnswer
namespace Go.Proofs.YthbdlnhcioolgaaDoor
/-- The card, under a short name, for the claim. -/
theorem fnExactSameAnswer_holds : Rows.FnExactSameAnswerCardSaid := SameAnswer.over
end Go.Proofs.YthbdlnhcioolgaaDoor

/- For every input FnExactInvalOk answers true: the program's InvalOk tells what the reference's tells, and leaves its arguments as they were; no conditions. -/
import Derived.Test.YthbdlnhcioolgaaInvalOkCore
import Derived.Test.YthbdlnhcioolgaaRows
import Derived.WalkKit
import Derived.ProofKit
import Derived.SizedLaws
namespace Go.Proofs.Ythbdlnhcioolgaa.InvalOk
open Go Go.RowKit Go.Proofs Go.Proofs.Ythbdlnhcioolgaa Go.Proofs.Ythbdlnhcioolgaa.Ev Go.Proofs.Ythbdlnhcioolgaa.Pl Go.Proofs.Ythbdlnhcioolgaa.Fns
open Go.ChangeShapes Go.WideShapes Go.ChangeAt
set_option maxRecDepth 1000000
set_option linter.unusedVariables false
set_option linter.unusedSimpArgs false

theorem plain (k : Nat) (hk : fuel < k) (a0 : List D0) (ok_a0 : Ty.Ok (.slice U0) a0) : F4 k a0 = some true := by
  unfold F4
  refine law_sz (sz6 k a0 (1048576 : Int) hk ok_a0 (by decide) (by decide)) (by decide) (by decide) fun L1 h1 l1 c_a0 => ?_
  obtain ⟨w, hw, hw'⟩ := same k hk a0 ok_a0 c_a0
  simp only [Option.bind_some, to8 k a0 hk c_a0, eq10 k a0 hk c_a0, hw, hw', decide_true, beq_self_eq_true, eq_self, Bool.not_true, cond_false]

theorem own : ownKnob Try.prog.godebug = none := by kernel_rfl

theorem lifted (os : Os) (started : os.Started) (H : Type) (enc : TypeId × Value → H) :
    ReturnsInHanded {} Try.checked os 4 .any (Rows.fnExactInvalOkSpec.pre6 enc Try.prog Try.f4 Rows.fnExactInvalOkRow.domain false) (Rows.fnExactInvalOkSpec.post enc Try.prog Try.f4 false true false false) := by
  refine returnsInHanded_of_change_sized (C := Try.checked) own started (by kernel_rfl) Try.func4
    (ChangeSpec.witness6 (enc := enc) (C := Try.checked) false ⟨#[], #[.slice none 0 0], []⟩ 24 (by kernel_rfl) (by kernel_rfl) (by kernel_rfl) (by kernel_rfl)) ?_
  intro W base args ds gs before hval hW hcnd hsz _
  exact law_frame (C := Try.checked) (cx := (T (fun _ _ => ⟨[], [], [], false⟩) 0).cx []) (tys := [(.slice U0)]) (sem := fun x => F4 2097153 x.1) (b := 4) (G := fun _ => True) Try.func4 (ok4 (fun _ _ _ _ => trivial) 2097153) rfl
    (by rw [Try.params4]; exact ⟨(tyB_sound _).1 22 (by kernel_rfl), trivial⟩) (by kernel_rfl) Try.underlying4 (by kernel_rfl)
    (by rw [Try.params4]; intro t ht; simp at ht; subst ht; exact ⟨by kernel_rfl, of_decide_eq_true (by kernel_rfl)⟩) rfl
    (fun H ds hd => by match ds, hd with | [d0], _ => rfl)
    (fun x hx => plain 2097153 (by decide) x.1 hx.1) hval hW trivial

theorem over : Rows.fnExactInvalOkRow.holds Try.pinned (OpenSpec.ofChange Rows.fnExactInvalOkSpec) :=
  OpenClaim.holds_of_wide 4 Try.f4 rfl rfl rfl rfl rfl rfl rfl ⟨rfl, rfl, rfl, rfl, rfl⟩ rfl rfl rfl rfl rfl (by kernel_rfl) Try.func4 (by kernel_rfl)
    (of_decide_eq_true (by kernel_rfl)) (by unfold Func.isWrapper; first | (rw [if_pos (by decide +kernel)]; kernel_rfl) | (rw [if_neg (by decide +kernel)]; exact ⟨rfl, rfl⟩))
    (fun os started H enc _ => lifted os started H enc)
end Go.Proofs.Ythbdlnhcioolgaa.InvalOk
namespace Go.Proofs.Ythbdlnhcioolgaa
/-- The row, under a short name, for the claim. -/
theorem fnExactInvalOk_holds : Rows.FnExactInvalOkSaid := InvalOk.over
end Go.Proofs.Ythbdlnhcioolgaa

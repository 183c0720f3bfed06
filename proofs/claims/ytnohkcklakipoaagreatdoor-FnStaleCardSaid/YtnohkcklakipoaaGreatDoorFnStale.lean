/- For every input FnStale answers true, and leaves it as it was; no conditions. -/
import Derived.Test.YtnohkcklakipoaaGreatDoorFnStaleCore
import Derived.Test.YtnohkcklakipoaaGreatDoorFnStaleRow
import Derived.Test.YtnohkcklakipoaaGreatDoorRows
import Derived.WalkKit
import Derived.ProofKit
import Derived.SizedLaws
import Derived.Test.YtnohkcklakipoaaGreatDoorTie
import Derived.Test.YtnohkcklakipoaaGreatDoorCards
import Derived.LaidMore
import Derived.Lay
import Derived.Stop.Joined
import Derived.Stop.LaidErr
import Derived.Lib.LaidTab
import Derived.SevenTiedAt
import Derived.Shelf.Vars
import Derived.Test.YtnohkcklakipoaaGreatDoorEvLm
namespace Go.Proofs.YtnohkcklakipoaaGreatDoor.FnStale
open Go Go.RowKit Go.Proofs Go.Proofs.YtnohkcklakipoaaGreatDoor Go.Proofs.YtnohkcklakipoaaGreatDoor.Ev Go.Proofs.YtnohkcklakipoaaGreatDoor.Fns
open Go.ChangeShapes Go.WideShapes Go.ChangeAt
set_option maxRecDepth 1000000
set_option linter.unusedVariables false
set_option linter.unusedSimpArgs false
theorem own:ownKnob Tryz.prog.godebug=none:=by kernel_rfl
theorem gPow:Tryz.prog.globalNamed "internal/strconv.uint64pow10" = some 3:=by kernel_rfl
theorem g_syn:Tryz.prog.globalNamed "strconv.ErrSyntax" = some 1:=by kernel_rfl
theorem g_rng:Tryz.prog.globalNamed "strconv.ErrRange" = some 2:=by kernel_rfl
structure Known (w:World):Prop where
  pow:Lib.TabIs Tryz.prog w "internal/strconv.uint64pow10" .u64 Lib.pow10Tab
  syn:∃ ev,w.cell? ⟨1,0,none⟩=some ev∧(ev = .nilIface∨∃ te pe,ev = .iface te pe)
  rng:∃ ev,w.cell? ⟨2,0,none⟩=some ev∧(ev = .nilIface∨∃ te pe,ev = .iface te pe)
  maxl:∃ m,w.cell? ⟨0,0,none⟩=some (.int .i64 m)
theorem good:GoodW Tryz.prog Known:=⟨fun _ _ h hb=>⟨tab_below gPow h.pow hb,h.syn.imp fun _ q=>⟨cell_lasts q.1 hb,q.2⟩,h.rng.imp fun _ q=>⟨cell_lasts q.1 hb,q.2⟩,h.maxl.imp fun _ q=>cell_lasts q hb⟩,fun _ h=>h.pow⟩
theorem errs:Errs 1 2 Known:=⟨fun _ h=>h.syn,fun _ h=>h.rng⟩
theorem maxs:Maxs 0 Known:=fun _ h=>h.maxl
theorem known_of_laid {W:World} (h:laidMetH Tryz.prog Rows.fnStaleRow.laid W) (hs:W.ShapedOpen Tryz.prog):Known W:=by
  rw [MakeChecks.laidMetH_plain _ _ _ (by kernel_rfl)] at h
  have e:(Rows.laid_internal_strconv_uint64pow10:DataW Unit)=Lib.tabData .u64 Lib.pow10Tab:=by kernel_rfl
  have h:laidMet Tryz.prog [("math/bits.deBruijn32tab", Rows.laid_math_bits_deBruijn32tab),("math/bits.deBruijn64tab", Rows.laid_math_bits_deBruijn64tab),("internal/strconv.uint64pow10", Rows.laid_internal_strconv_uint64pow10),("unicode/utf8.acceptRanges", Rows.laid_unicode_utf8_acceptRanges),("strconv.ErrRange", Rows.laid_strconv_ErrRange),("strconv.ErrSyntax", Rows.laid_strconv_ErrSyntax),("unicode/utf8.first", Rows.laid_unicode_utf8_first)] W:=h
  rw [e] at h
  exact ⟨Lib.tabIs_of_head (t:=283) (e:=158) (n:=20) gPow (by kernel_rfl) (by kernel_rfl) (by kernel_rfl) (by kernel_rfl) (by kernel_rfl) (laidMet.tail (laidMet.tail h)),err_of_laid (laidMet.tail (laidMet.tail (laidMet.tail (laidMet.tail (laidMet.tail h))))) g_syn (ti:=207) (by kernel_rfl) Tryz.underlying207,err_of_laid (laidMet.tail (laidMet.tail (laidMet.tail (laidMet.tail h)))) g_rng (ti:=207) (by kernel_rfl) Tryz.underlying207,cell_of_shapedOpen_int (P:=Tryz.prog) (g:=0) (t:=3) (zero:=#[.int .i64 0]) hs (of_decide_eq_true (by kernel_rfl)) (by kernel_rfl) rfl (by kernel_rfl) (by kernel_rfl) Tryz.underlying3⟩
theorem door_met (os:Os) (args:Array Value):laidMetH Tryz.prog Rows.fnStaleRow.laid ((World.laidAll Tryz.prog os Rows.fnStaleRow.laid).forCall (fun _ _=>0) ⟨#[],args,[]⟩).memory:=by
  rw [MakeChecks.laidMetH_plain _ _ _ (by kernel_rfl)]
  exact laidMet_laidAll _ (by kernel_rfl) (by kernel_rfl)
theorem lifted (os:Os) (started:os.Started) (H:Type) (enc:TypeId × Value→H) :
    ReturnsInHanded {} Tryz.checked os 4 .any (fun w args=>(Rows.fnStaleSpec.pre enc Tryz.prog Tryz.f4 [] false w args∧laidMetH Tryz.prog Rows.fnStaleRow.laid w)∧sizedMet enc Tryz.prog Tryz.f4 (OpenSpec.ofChange Rows.fnStaleSpec) false w args)
      (Rows.fnStaleSpec.post enc Tryz.prog Tryz.f4 false true false false):=by
  refine returns_and_shaped (C:=Tryz.checked) (X:=fun w _=>laidMetH Tryz.prog Rows.fnStaleRow.laid w) (fun _ _ _ hh h=>h.of_heap hh) own started (by kernel_rfl) Tryz.func4
    (ChangeSpec.witness_shaped (enc:=enc) (C:=Tryz.checked) (os:=os) (X:=fun w _=>laidMetH Tryz.prog Rows.fnStaleRow.laid w) false (World.laidAll Tryz.prog os Rows.fnStaleRow.laid) #[.slice none 0 0] 24 (World.laidAll_os _ _ _) (World.shaped_of_ZipB (by kernel_rfl) (by kernel_rfl)) (by kernel_rfl) (by kernel_rfl) (by kernel_rfl) (door_met os _)) ?_
  intro W base args ds gs before hval hW _ _ hL hS _
  exact law_frame (C:=Tryz.checked) (cx:=(T (fun _ _=>⟨[],[],[],false⟩) 0).cx []) (tys:=[(.slice (.int .u8))]) (sem:=fun x=>F4 2097153 x.1) (b:=4) (G:=Known) Tryz.func4 (ok4 good errs maxs 2097153) rfl
    (by rw [Tryz.params4];exact ⟨(tyB_sound _).1 22 (by kernel_rfl),trivial⟩) (by kernel_rfl) Tryz.underlying4 (by kernel_rfl)
    (by rw [Tryz.params4];intro t ht;simp at ht;subst ht;exact ⟨by kernel_rfl,of_decide_eq_true (by kernel_rfl)⟩) rfl
    (fun H ds hd=>by match ds,hd with | [d0],_=>rfl)
    (fun x hx=>plain 2097153 (by decide) x.1 hx.1) hval hW (known_of_laid hL hS)
theorem row_holds:Rows.FnStaleSaid :=
  OpenClaim.holds_of_wide 4 Tryz.f4 rfl rfl rfl rfl rfl rfl rfl ⟨rfl,rfl,rfl,rfl,rfl⟩ rfl rfl rfl rfl rfl (by kernel_rfl) Tryz.func4 closed
    (of_decide_eq_true (by kernel_rfl)) (by unfold Func.isWrapper;first | (rw [if_pos (by decide +kernel)];kernel_rfl) | (rw [if_neg (by decide +kernel)];exact ⟨rfl,rfl⟩))
    (fun os started H enc _=>lifted os started H enc)
end Go.Proofs.YtnohkcklakipoaaGreatDoor.FnStale

/- The card of ReadStored, out of its row. -/
import Derived.Test.YtigbabjhcihmaaaGreatDoorReadStored
import Derived.Test.YtigbabjhcihmaaaGreatDoorRows
import Derived.WalkKit
import Derived.ProofKit
import Derived.SizedLaws
import Derived.Test.YtigbabjhcihmaaaGreatDoorTie
import Derived.Test.YtigbabjhcihmaaaGreatDoorCards
import Derived.LaidMore
import Derived.Lay
import Derived.Stop.Joined
import Derived.Stop.LaidErr
import Derived.Lib.LaidTab
import Derived.SevenTiedAt
import Derived.Shelf.Vars
namespace Go.Proofs.YtigbabjhcihmaaaGreatDoor.ReadStored
open Go Go.RowKit Go.Proofs Go.Proofs.YtigbabjhcihmaaaGreatDoor
open Go.ChangeShapes Go.WideShapes Go.ChangeAt
set_option maxRecDepth 1000000
theorem card0:Rows.fnExactReadStoredRow.wfByText (OpenSpec.ofChange Rows.fnExactReadStoredSpec)=true:=by kernel_rfl
theorem card1:Tryz.pinned.checked.prog.mainIs=some (true,("24a6281af83b343ddf03fed1be0c662f7266c20b81aa520157f982b1db38dc00" : String).toList):=by kernel_rfl
theorem card2:Tryz.prog.funcNamed "loop.example/g01402/laws.FnExactReadStored" = some 4:=by kernel_rfl
theorem card3:true=Tryz.pinned.checked.prog.looks []:=by kernel_rfl
theorem card4:([9].all fun u=>!Tryz.prog.wantsStandIn u)=true:=by kernel_rfl
theorem card5:false=Rows.fnExactReadStoredRow.goesBy Tryz.pinned.checked.prog:=by kernel_rfl
theorem over:Rows.FnExactReadStoredCardSaid :=
  Claim7.holds_tied_plain_at .later [] [.data,.data,.data,.data,.sentinel,.sentinel,.pinned] true (true, "24a6281af83b343ddf03fed1be0c662f7266c20b81aa520157f982b1db38dc00") true
    row_holds (fun _ h=>by cases h) card0 (fun _ h=>by cases h) fnExactReadStored_row_tie rfl ⟨rfl,rfl⟩ card1 rfl
    (fun f fn hf hfn=>by
      obtain rfl:f=4:=Option.some.inj (card2.symm.trans hf) |>.symm
      obtain rfl:fn=Tryz.f4:=(Option.some.inj (Tryz.func4.symm.trans hfn)).symm
      exact ⟨card3,fun j t ht=>by
        rw [Tryz.params4] at ht
        have hm:t∈[9]:=by simpa using Array.mem_of_getElem? ht
        have hall:=card4
        exact (show Tryz.prog.wantsStandIn t=false by simpa using List.all_eq_true.1 hall t hm)⟩)
    card5
end Go.Proofs.YtigbabjhcihmaaaGreatDoor.ReadStored
namespace Go.Proofs.YtigbabjhcihmaaaGreatDoor
theorem fnExactReadStored_holds:Rows.FnExactReadStoredCardSaid:=ReadStored.over
end Go.Proofs.YtigbabjhcihmaaaGreatDoor

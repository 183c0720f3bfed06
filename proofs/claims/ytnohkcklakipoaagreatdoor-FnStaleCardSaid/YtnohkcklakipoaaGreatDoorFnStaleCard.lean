/- The card of FnStale, out of its row. -/
import Derived.Test.YtnohkcklakipoaaGreatDoorFnStale
import Derived.Test.YtnohkcklakipoaaGreatDoorRows
import Derived.WalkKit
import Derived.ProofKit
import Derived.SizedLaws
import Derived.Test.YtnohkcklakipoaaGreatDoorTie
import Derived.Test.YtnohkcklakipoaaGreatDoorCards
import Derived.LaidMore
import Derived.Lay
import Derived.Stop.Joined
import Derived.Stop.LaidErr
import Derived.Lib.LaidTab
import Derived.SevenTiedAt
import Derived.Shelf.Vars
namespace Go.Proofs.YtnohkcklakipoaaGreatDoor.FnStale
open Go Go.RowKit Go.Proofs Go.Proofs.YtnohkcklakipoaaGreatDoor
open Go.ChangeShapes Go.WideShapes Go.ChangeAt
set_option maxRecDepth 1000000
theorem card0:Rows.fnStaleRow.wfByText (OpenSpec.ofChange Rows.fnStaleSpec)=true:=by kernel_rfl
theorem card1:Tryz.pinned.checked.prog.mainIs=some (true,("a7ca71bc8f4e04a5e7bd5abcc6208745c3aa4e0a8e079ab6cc0a38f6195f0dbc" : String).toList):=by kernel_rfl
theorem card2:Tryz.prog.funcNamed "loop.example/g01402/laws.FnStale" = some 4:=by kernel_rfl
theorem card3:true=Tryz.pinned.checked.prog.looks []:=by kernel_rfl
theorem card4:([22].all fun u=>!Tryz.prog.wantsStandIn u)=true:=by kernel_rfl
theorem card5:false=Rows.fnStaleRow.goesBy Tryz.pinned.checked.prog:=by kernel_rfl
theorem over:Rows.FnStaleCardSaid :=
  Claim7.holds_tied_plain_at .later [] [.data,.data,.data,.data,.sentinel,.sentinel,.pinned] true (true, "a7ca71bc8f4e04a5e7bd5abcc6208745c3aa4e0a8e079ab6cc0a38f6195f0dbc") true
    row_holds (fun _ h=>by cases h) card0 (fun _ h=>by cases h) fnStale_row_tie rfl ⟨rfl,rfl⟩ card1 rfl
    (fun f fn hf hfn=>by
      obtain rfl:f=4:=Option.some.inj (card2.symm.trans hf) |>.symm
      obtain rfl:fn=Tryz.f4:=(Option.some.inj (Tryz.func4.symm.trans hfn)).symm
      exact ⟨card3,fun j t ht=>by
        rw [Tryz.params4] at ht
        have hm:t∈[22]:=by simpa using Array.mem_of_getElem? ht
        have hall:=card4
        exact (show Tryz.prog.wantsStandIn t=false by simpa using List.all_eq_true.1 hall t hm)⟩)
    card5
end Go.Proofs.YtnohkcklakipoaaGreatDoor.FnStale
namespace Go.Proofs.YtnohkcklakipoaaGreatDoor
theorem fnStale_holds:Rows.FnStaleCardSaid:=FnStale.over
end Go.Proofs.YtnohkcklakipoaaGreatDoor

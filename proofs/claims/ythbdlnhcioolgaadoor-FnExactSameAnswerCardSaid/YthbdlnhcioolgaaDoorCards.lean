/-
  DERIVED. GIVEN WITH THE SEED: THE CARDS: each row of YthbdlnhcioolgaaDoorRows.lean that lists a variable, with what it lists TIED to the program's text (the seventh form; the later family's looks); each row that meets fmt, with fmt's text TOLD by the authors' own Lean function (tested against real Go, not proved from fmt's source: count such statements apart). THE CARD IS WHAT COUNTS. Prove the row's statement (the work); the ties are given (YthbdlnhcioolgaaDoorTie.lean); close each card by the builder's one call (the guide's Derived/Test/ToyasCard.lean, 'card_holds'). Laid BY PROGRAM, IN A SANDBOX (cutbox-door.mjs). By AI agents, Wed Nov 11 2026. No macro, syntax, notation, axiom, sorry.
-/
import Derived.Test.YthbdlnhcioolgaaDoorRows
import GoSem.ClaimSeven
namespace Go.Proofs.YthbdlnhcioolgaaDoor
namespace Rows

/-- THE TIED CARD OF 'laws.FnExactShowEvent'. -/
def fnExactShowEventCard : Claim7 := { stood := { row := fnExactShowEventRow, standIns := [], harness := (true, "2f9519100f93ca20db31827c7593327b3b41ed0a7def9bd68e811a7c47979787"), looks := true }, kinds := [], alts := [], laidByText := true, laidKinds := [.data, .data, .data], laidTests := true, laidLooks := .later }
def FnExactShowEventCardSaid : Prop := Claim7.holds Tryd.pinned (.plain (OpenSpec.ofChange fnExactShowEventSpec)) fnExactShowEventCard

/-- THE TIED CARD OF 'laws.FnExactShowLog'. -/
def fnExactShowLogCard : Claim7 := { stood := { row := fnExactShowLogRow, standIns := [], harness := (true, "2f9519100f93ca20db31827c7593327b3b41ed0a7def9bd68e811a7c47979787"), looks := true }, kinds := [], alts := [], laidByText := true, laidKinds := [.data, .data, .data], laidTests := true, laidLooks := .later }
def FnExactShowLogCardSaid : Prop := Claim7.holds Tryd.pinned (.plain (OpenSpec.ofChange fnExactShowLogSpec)) fnExactShowLogCard

/-- THE TIED CARD OF 'laws.FnExactSameAnswer'. -/
def fnExactSameAnswerCard : Claim7 := { stood := { row := fnExactSameAnswerRow, standIns := [], harness := (true, "2f9519100f93ca20db31827c7593327b3b41ed0a7def9bd68e811a7c47979787"), looks := true }, kinds := [], alts := [], laidByText := true, laidKinds := [.data, .data, .data, .sentinel, .sentinel], laidTests := true, laidLooks := .later }
def FnExactSameAnswerCardSaid : Prop := Claim7.holds Tryd.pinned (.plain (OpenSpec.ofChange fnExactSameAnswerSpec)) fnExactSameAnswerCard

/-- THE SECOND FORM's CARD OF 'laws.FnExactShowEvent'. -/
def fnExactShowEventUptoCard : Claim7 := { stood := { row := fnExactShowEventUptoRow, standIns := [], harness := (true, "2f9519100f93ca20db31827c7593327b3b41ed0a7def9bd68e811a7c47979787"), looks := true }, kinds := [], alts := [], laidByText := true, laidKinds := [.data, .data, .data], laidTests := true, laidLooks := .later }
def FnExactShowEventUptoCardSaid : Prop := Claim7.holds Tryd.pinned (.plain (OpenSpec.upto fnExactShowEventSpec)) fnExactShowEventUptoCard

/-- THE SECOND FORM's CARD OF 'laws.FnExactShowLog'. -/
def fnExactShowLogUptoCard : Claim7 := { stood := { row := fnExactShowLogUptoRow, standIns := [], harness := (true, "2f9519100f93ca20db31827c7593327b3b41ed0a7def9bd68e811a7c47979787"), looks := true }, kinds := [], alts := [], laidByText := true, laidKinds := [.data, .data, .data], laidTests := true, laidLooks := .later }
def FnExactShowLogUptoCardSaid : Prop := Claim7.holds Tryd.pinned (.plain (OpenSpec.upto fnExactShowLogSpec)) fnExactShowLogUptoCard

/-- THE SECOND FORM's CARD OF 'laws.FnExactSameAnswer'. -/
def fnExactSameAnswerUptoCard : Claim7 := { stood := { row := fnExactSameAnswerUptoRow, standIns := [], harness := (true, "2f9519100f93ca20db31827c7593327b3b41ed0a7def9bd68e811a7c47979787"), looks := true }, kinds := [], alts := [], laidByText := true, laidKinds := [.data, .data, .data, .sentinel, .sentinel], laidTests := true, laidLooks := .later }
def FnExactSameAnswerUptoCardSaid : Prop := Claim7.holds Tryd.pinned (.plain (OpenSpec.upto fnExactSameAnswerSpec)) fnExactSameAnswerUptoCard
end Rows
end Go.Proofs.YthbdlnhcioolgaaDoor

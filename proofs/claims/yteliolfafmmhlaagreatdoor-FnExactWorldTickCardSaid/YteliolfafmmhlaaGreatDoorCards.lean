/-
  DERIVED. GIVEN WITH THE SEED: THE CARDS: each row of YteliolfafmmhlaaGreatDoorRows.lean that lists a variable, with what it lists TIED to the program's text (the seventh form; the later family's looks); each row that meets fmt, with fmt's text TOLD by the authors' own Lean function (tested against real Go, not proved from fmt's source: count such statements apart). THE CARD IS WHAT COUNTS. Prove the row's statement (the work); the ties are given (YteliolfafmmhlaaGreatDoorTie.lean); close each card by the builder's one call (the guide's Derived/Test/ToyasCard.lean, 'card_holds'). Laid BY PROGRAM, IN A SANDBOX (cutbox-door.mjs). By AI agents, Wed Nov 11 2026. No macro, syntax, notation, axiom, sorry.
-/
import Derived.Test.YteliolfafmmhlaaGreatDoorRows
import GoSem.ClaimSeven
namespace Go.Proofs.YteliolfafmmhlaaGreatDoor
namespace Rows

/-- THE TIED CARD OF 'laws.FnExactWorldNew'. -/
def fnExactWorldNewCard : Claim7 := { stood := { row := fnExactWorldNewRow, standIns := [], harness := (true, "49f49a30efdd762479fac14551cf6c66d15d4223dc563db540edde3a6db227c4"), looks := false }, kinds := [], alts := [], laidByText := true, laidKinds := [.data, .pinned], laidTests := true, laidLooks := .later }
def FnExactWorldNewCardSaid : Prop := Claim7.holds Tryz.pinned (.plain (OpenSpec.ofChange fnExactWorldNewSpec)) fnExactWorldNewCard

/-- THE TIED CARD OF 'laws.FnExactStart'. -/
def fnExactStartCard : Claim7 := { stood := { row := fnExactStartRow, standIns := [], harness := (true, "49f49a30efdd762479fac14551cf6c66d15d4223dc563db540edde3a6db227c4"), looks := false }, kinds := [], alts := [], laidByText := true, laidKinds := [.data, .pinned], laidTests := true, laidLooks := .later }
def FnExactStartCardSaid : Prop := Claim7.holds Tryz.pinned (.plain (OpenSpec.ofChange fnExactStartSpec)) fnExactStartCard

/-- THE TIED CARD OF 'laws.FnExactWorldTick'. -/
def fnExactWorldTickCard : Claim7 := { stood := { row := fnExactWorldTickRow, standIns := [], harness := (true, "49f49a30efdd762479fac14551cf6c66d15d4223dc563db540edde3a6db227c4"), looks := false }, kinds := [], alts := [], laidByText := true, laidKinds := [.data, .pinned], laidTests := true, laidLooks := .later }
def FnExactWorldTickCardSaid : Prop := Claim7.holds Tryz.pinned (.plain (OpenSpec.ofChange fnExactWorldTickSpec)) fnExactWorldTickCard

/-- THE TIED CARD OF 'laws.FnExactRestart'. -/
def fnExactRestartCard : Claim7 := { stood := { row := fnExactRestartRow, standIns := [], harness := (true, "49f49a30efdd762479fac14551cf6c66d15d4223dc563db540edde3a6db227c4"), looks := false }, kinds := [], alts := [], laidByText := true, laidKinds := [.data, .pinned], laidTests := true, laidLooks := .later }
def FnExactRestartCardSaid : Prop := Claim7.holds Tryz.pinned (.plain (OpenSpec.ofChange fnExactRestartSpec)) fnExactRestartCard

/-- THE SECOND FORM's CARD OF 'laws.FnExactWorldNew'. -/
def fnExactWorldNewUptoCard : Claim7 := { stood := { row := fnExactWorldNewUptoRow, standIns := [], harness := (true, "49f49a30efdd762479fac14551cf6c66d15d4223dc563db540edde3a6db227c4"), looks := false }, kinds := [], alts := [], laidByText := true, laidKinds := [.data, .pinned], laidTests := true, laidLooks := .later }
def FnExactWorldNewUptoCardSaid : Prop := Claim7.holds Tryz.pinned (.plain (OpenSpec.upto fnExactWorldNewSpec)) fnExactWorldNewUptoCard

/-- THE SECOND FORM's CARD OF 'laws.FnExactStart'. -/
def fnExactStartUptoCard : Claim7 := { stood := { row := fnExactStartUptoRow, standIns := [], harness := (true, "49f49a30efdd762479fac14551cf6c66d15d4223dc563db540edde3a6db227c4"), looks := false }, kinds := [], alts := [], laidByText := true, laidKinds := [.data, .pinned], laidTests := true, laidLooks := .later }
def FnExactStartUptoCardSaid : Prop := Claim7.holds Tryz.pinned (.plain (OpenSpec.upto fnExactStartSpec)) fnExactStartUptoCard

/-- THE SECOND FORM's CARD OF 'laws.FnExactWorldTick'. -/
def fnExactWorldTickUptoCard : Claim7 := { stood := { row := fnExactWorldTickUptoRow, standIns := [], harness := (true, "49f49a30efdd762479fac14551cf6c66d15d4223dc563db540edde3a6db227c4"), looks := false }, kinds := [], alts := [], laidByText := true, laidKinds := [.data, .pinned], laidTests := true, laidLooks := .later }
def FnExactWorldTickUptoCardSaid : Prop := Claim7.holds Tryz.pinned (.plain (OpenSpec.upto fnExactWorldTickSpec)) fnExactWorldTickUptoCard

/-- THE SECOND FORM's CARD OF 'laws.FnExactRestart'. -/
def fnExactRestartUptoCard : Claim7 := { stood := { row := fnExactRestartUptoRow, standIns := [], harness := (true, "49f49a30efdd762479fac14551cf6c66d15d4223dc563db540edde3a6db227c4"), looks := false }, kinds := [], alts := [], laidByText := true, laidKinds := [.data, .pinned], laidTests := true, laidLooks := .later }
def FnExactRestartUptoCardSaid : Prop := Claim7.holds Tryz.pinned (.plain (OpenSpec.upto fnExactRestartSpec)) fnExactRestartUptoCard
end Rows
end Go.Proofs.YteliolfafmmhlaaGreatDoor

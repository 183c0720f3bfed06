/-
  DERIVED. GIVEN WITH THE SEED: THE CARDS: each row of YtcaknaddeblecaaGreatDoorRows.lean that lists a variable, with what it lists TIED to the program's text (the seventh form; the later family's looks); each row that meets fmt, with fmt's text TOLD by the authors' own Lean function (tested against real Go, not proved from fmt's source: count such statements apart). THE CARD IS WHAT COUNTS. Prove the row's statement (the work); the ties are given (YtcaknaddeblecaaGreatDoorTie.lean); close each card by the builder's one call (the guide's Derived/Test/ToyasCard.lean, 'card_holds'). Laid BY PROGRAM, IN A SANDBOX (cutbox-door.mjs). By AI agents, Wed Nov 11 2026. No macro, syntax, notation, axiom, sorry.
-/
import Derived.Test.YtcaknaddeblecaaGreatDoorRows
import GoSem.ClaimSeven
namespace Go.Proofs.YtcaknaddeblecaaGreatDoor
namespace Rows

/-- THE TIED CARD OF 'laws.FnExactShowStored'. -/
def fnExactShowStoredCard : Claim7 := { stood := { row := fnExactShowStoredRow, standIns := [], harness := (true, "7ec1b42f3dd7968ef98a3be2a78f2957d2fa8effba8d6314dd20ce9b734d0897"), looks := false }, kinds := [], alts := [], laidByText := true, laidKinds := [.data, .data, .data, .data, .pinned], laidTests := true, laidLooks := .later }
def FnExactShowStoredCardSaid : Prop := Claim7.holds Tryz.pinned (.plain (OpenSpec.ofChange fnExactShowStoredSpec)) fnExactShowStoredCard

/-- THE TIED CARD OF 'laws.FnExactShowShard'. -/
def fnExactShowShardCard : Claim7 := { stood := { row := fnExactShowShardRow, standIns := [], harness := (true, "7ec1b42f3dd7968ef98a3be2a78f2957d2fa8effba8d6314dd20ce9b734d0897"), looks := false }, kinds := [], alts := [], laidByText := true, laidKinds := [.data, .data, .data, .data, .pinned], laidTests := true, laidLooks := .later }
def FnExactShowShardCardSaid : Prop := Claim7.holds Tryz.pinned (.plain (OpenSpec.ofChange fnExactShowShardSpec)) fnExactShowShardCard

/-- THE TIED CARD OF 'laws.FnExactShowCache'. -/
def fnExactShowCacheCard : Claim7 := { stood := { row := fnExactShowCacheRow, standIns := [], harness := (true, "7ec1b42f3dd7968ef98a3be2a78f2957d2fa8effba8d6314dd20ce9b734d0897"), looks := false }, kinds := [], alts := [], laidByText := true, laidKinds := [.data, .data, .data, .data, .pinned], laidTests := true, laidLooks := .later }
def FnExactShowCacheCardSaid : Prop := Claim7.holds Tryz.pinned (.plain (OpenSpec.ofChange fnExactShowCacheSpec)) fnExactShowCacheCard

/-- THE TIED CARD OF 'laws.FnExactJoinable'. -/
def fnExactJoinableCard : Claim7 := { stood := { row := fnExactJoinableRow, standIns := [], harness := (true, "7ec1b42f3dd7968ef98a3be2a78f2957d2fa8effba8d6314dd20ce9b734d0897"), looks := false }, kinds := [], alts := [], laidByText := true, laidKinds := [.data, .pinned], laidTests := true, laidLooks := .later }
def FnExactJoinableCardSaid : Prop := Claim7.holds Tryz.pinned (.plain (OpenSpec.ofChange fnExactJoinableSpec)) fnExactJoinableCard

/-- THE TIED CARD OF 'laws.FnExactWorldOk'. -/
def fnExactWorldOkCard : Claim7 := { stood := { row := fnExactWorldOkRow, standIns := [], harness := (true, "7ec1b42f3dd7968ef98a3be2a78f2957d2fa8effba8d6314dd20ce9b734d0897"), looks := false }, kinds := [], alts := [], laidByText := true, laidKinds := [.data, .pinned], laidTests := true, laidLooks := .later }
def FnExactWorldOkCardSaid : Prop := Claim7.holds Tryz.pinned (.plain (OpenSpec.ofChange fnExactWorldOkSpec)) fnExactWorldOkCard

/-- THE SECOND FORM's CARD OF 'laws.FnExactShowStored'. -/
def fnExactShowStoredUptoCard : Claim7 := { stood := { row := fnExactShowStoredUptoRow, standIns := [], harness := (true, "7ec1b42f3dd7968ef98a3be2a78f2957d2fa8effba8d6314dd20ce9b734d0897"), looks := false }, kinds := [], alts := [], laidByText := true, laidKinds := [.data, .data, .data, .data, .pinned], laidTests := true, laidLooks := .later }
def FnExactShowStoredUptoCardSaid : Prop := Claim7.holds Tryz.pinned (.plain (OpenSpec.upto fnExactShowStoredSpec)) fnExactShowStoredUptoCard

/-- THE SECOND FORM's CARD OF 'laws.FnExactShowShard'. -/
def fnExactShowShardUptoCard : Claim7 := { stood := { row := fnExactShowShardUptoRow, standIns := [], harness := (true, "7ec1b42f3dd7968ef98a3be2a78f2957d2fa8effba8d6314dd20ce9b734d0897"), looks := false }, kinds := [], alts := [], laidByText := true, laidKinds := [.data, .data, .data, .data, .pinned], laidTests := true, laidLooks := .later }
def FnExactShowShardUptoCardSaid : Prop := Claim7.holds Tryz.pinned (.plain (OpenSpec.upto fnExactShowShardSpec)) fnExactShowShardUptoCard

/-- THE SECOND FORM's CARD OF 'laws.FnExactShowCache'. -/
def fnExactShowCacheUptoCard : Claim7 := { stood := { row := fnExactShowCacheUptoRow, standIns := [], harness := (true, "7ec1b42f3dd7968ef98a3be2a78f2957d2fa8effba8d6314dd20ce9b734d0897"), looks := false }, kinds := [], alts := [], laidByText := true, laidKinds := [.data, .data, .data, .data, .pinned], laidTests := true, laidLooks := .later }
def FnExactShowCacheUptoCardSaid : Prop := Claim7.holds Tryz.pinned (.plain (OpenSpec.upto fnExactShowCacheSpec)) fnExactShowCacheUptoCard

/-- THE SECOND FORM's CARD OF 'laws.FnExactJoinable'. -/
def fnExactJoinableUptoCard : Claim7 := { stood := { row := fnExactJoinableUptoRow, standIns := [], harness := (true, "7ec1b42f3dd7968ef98a3be2a78f2957d2fa8effba8d6314dd20ce9b734d0897"), looks := false }, kinds := [], alts := [], laidByText := true, laidKinds := [.data, .pinned], laidTests := true, laidLooks := .later }
def FnExactJoinableUptoCardSaid : Prop := Claim7.holds Tryz.pinned (.plain (OpenSpec.upto fnExactJoinableSpec)) fnExactJoinableUptoCard

/-- THE SECOND FORM's CARD OF 'laws.FnExactWorldOk'. -/
def fnExactWorldOkUptoCard : Claim7 := { stood := { row := fnExactWorldOkUptoRow, standIns := [], harness := (true, "7ec1b42f3dd7968ef98a3be2a78f2957d2fa8effba8d6314dd20ce9b734d0897"), looks := false }, kinds := [], alts := [], laidByText := true, laidKinds := [.data, .pinned], laidTests := true, laidLooks := .later }
def FnExactWorldOkUptoCardSaid : Prop := Claim7.holds Tryz.pinned (.plain (OpenSpec.upto fnExactWorldOkSpec)) fnExactWorldOkUptoCard
end Rows
end Go.Proofs.YtcaknaddeblecaaGreatDoor

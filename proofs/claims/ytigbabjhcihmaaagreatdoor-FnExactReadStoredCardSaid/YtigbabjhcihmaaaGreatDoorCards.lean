/-
  DERIVED. GIVEN WITH THE SEED: THE CARDS: each row of YtigbabjhcihmaaaGreatDoorRows.lean that lists a variable, with what it lists TIED to the program's text (the seventh form; the later family's looks); each row that meets fmt, with fmt's text TOLD by the authors' own Lean function (tested against real Go, not proved from fmt's source: count such statements apart). THE CARD IS WHAT COUNTS. Prove the row's statement (the work); the ties are given (YtigbabjhcihmaaaGreatDoorTie.lean); close each card by the builder's one call (the guide's Derived/Test/ToyasCard.lean, 'card_holds'). Laid BY PROGRAM, IN A SANDBOX (cutbox-door.mjs). By AI agents, Wed Nov 11 2026. No macro, syntax, notation, axiom, sorry.
-/
import Derived.Test.YtigbabjhcihmaaaGreatDoorRows
import GoSem.ClaimSeven
namespace Go.Proofs.YtigbabjhcihmaaaGreatDoor
namespace Rows

/-- THE TIED CARD OF 'laws.FnExactReplay'. -/
def fnExactReplayCard : Claim7 := { stood := { row := fnExactReplayRow, standIns := [], harness := (true, "24a6281af83b343ddf03fed1be0c662f7266c20b81aa520157f982b1db38dc00"), looks := true }, kinds := [], alts := [], laidByText := true, laidKinds := [.data, .pinned], laidTests := true, laidLooks := .later }
def FnExactReplayCardSaid : Prop := Claim7.holds Tryz.pinned (.plain (OpenSpec.ofChange fnExactReplaySpec)) fnExactReplayCard

/-- THE TIED CARD OF 'laws.FnExactReadStored'. -/
def fnExactReadStoredCard : Claim7 := { stood := { row := fnExactReadStoredRow, standIns := [], harness := (true, "24a6281af83b343ddf03fed1be0c662f7266c20b81aa520157f982b1db38dc00"), looks := true }, kinds := [], alts := [], laidByText := true, laidKinds := [.data, .data, .data, .data, .sentinel, .sentinel, .pinned], laidTests := true, laidLooks := .later }
def FnExactReadStoredCardSaid : Prop := Claim7.holds Tryz.pinned (.plain (OpenSpec.ofChange fnExactReadStoredSpec)) fnExactReadStoredCard

/-- THE TIED CARD OF 'laws.FnExactStart'. -/
def fnExactStartCard : Claim7 := { stood := { row := fnExactStartRow, standIns := [], harness := (true, "24a6281af83b343ddf03fed1be0c662f7266c20b81aa520157f982b1db38dc00"), looks := true }, kinds := [], alts := [], laidByText := true, laidKinds := [.data, .pinned], laidTests := true, laidLooks := .later }
def FnExactStartCardSaid : Prop := Claim7.holds Tryz.pinned (.plain (OpenSpec.ofChange fnExactStartSpec)) fnExactStartCard

/-- THE TIED CARD OF 'laws.FnExactReadCache'. -/
def fnExactReadCacheCard : Claim7 := { stood := { row := fnExactReadCacheRow, standIns := [], harness := (true, "24a6281af83b343ddf03fed1be0c662f7266c20b81aa520157f982b1db38dc00"), looks := true }, kinds := [], alts := [], laidByText := true, laidKinds := [.data, .data, .data, .data, .sentinel, .sentinel, .pinned], laidTests := true, laidLooks := .later }
def FnExactReadCacheCardSaid : Prop := Claim7.holds Tryz.pinned (.plain (OpenSpec.ofChange fnExactReadCacheSpec)) fnExactReadCacheCard

/-- THE SECOND FORM's CARD OF 'laws.FnExactReplay'. -/
def fnExactReplayUptoCard : Claim7 := { stood := { row := fnExactReplayUptoRow, standIns := [], harness := (true, "24a6281af83b343ddf03fed1be0c662f7266c20b81aa520157f982b1db38dc00"), looks := true }, kinds := [], alts := [], laidByText := true, laidKinds := [.data, .pinned], laidTests := true, laidLooks := .later }
def FnExactReplayUptoCardSaid : Prop := Claim7.holds Tryz.pinned (.plain (OpenSpec.upto fnExactReplaySpec)) fnExactReplayUptoCard

/-- THE SECOND FORM's CARD OF 'laws.FnExactReadStored'. -/
def fnExactReadStoredUptoCard : Claim7 := { stood := { row := fnExactReadStoredUptoRow, standIns := [], harness := (true, "24a6281af83b343ddf03fed1be0c662f7266c20b81aa520157f982b1db38dc00"), looks := true }, kinds := [], alts := [], laidByText := true, laidKinds := [.data, .data, .data, .data, .sentinel, .sentinel, .pinned], laidTests := true, laidLooks := .later }
def FnExactReadStoredUptoCardSaid : Prop := Claim7.holds Tryz.pinned (.plain (OpenSpec.upto fnExactReadStoredSpec)) fnExactReadStoredUptoCard

/-- THE SECOND FORM's CARD OF 'laws.FnExactStart'. -/
def fnExactStartUptoCard : Claim7 := { stood := { row := fnExactStartUptoRow, standIns := [], harness := (true, "24a6281af83b343ddf03fed1be0c662f7266c20b81aa520157f982b1db38dc00"), looks := true }, kinds := [], alts := [], laidByText := true, laidKinds := [.data, .pinned], laidTests := true, laidLooks := .later }
def FnExactStartUptoCardSaid : Prop := Claim7.holds Tryz.pinned (.plain (OpenSpec.upto fnExactStartSpec)) fnExactStartUptoCard

/-- THE SECOND FORM's CARD OF 'laws.FnExactReadCache'. -/
def fnExactReadCacheUptoCard : Claim7 := { stood := { row := fnExactReadCacheUptoRow, standIns := [], harness := (true, "24a6281af83b343ddf03fed1be0c662f7266c20b81aa520157f982b1db38dc00"), looks := true }, kinds := [], alts := [], laidByText := true, laidKinds := [.data, .data, .data, .data, .sentinel, .sentinel, .pinned], laidTests := true, laidLooks := .later }
def FnExactReadCacheUptoCardSaid : Prop := Claim7.holds Tryz.pinned (.plain (OpenSpec.upto fnExactReadCacheSpec)) fnExactReadCacheUptoCard
end Rows
end Go.Proofs.YtigbabjhcihmaaaGreatDoor

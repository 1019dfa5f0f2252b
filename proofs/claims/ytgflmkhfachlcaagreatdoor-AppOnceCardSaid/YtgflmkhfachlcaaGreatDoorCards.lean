/-
  DERIVED. GIVEN WITH THE SEED: THE CARDS: each row of YtgflmkhfachlcaaGreatDoorRows.lean that lists a variable, with what it lists TIED to the program's text (the seventh form; the later family's looks); each row that meets fmt, with fmt's text TOLD by the authors' own Lean function (tested against real Go, not proved from fmt's source: count such statements apart). THE CARD IS WHAT COUNTS. Prove the row's statement (the work); the ties are given (YtgflmkhfachlcaaGreatDoorTie.lean); close each card by the builder's one call (the guide's Derived/Test/ToyasCard.lean, 'card_holds'). Laid BY PROGRAM, IN A SANDBOX (cutbox-door.mjs). By AI agents, Wed Nov 11 2026. No macro, syntax, notation, axiom, sorry.
-/
import Derived.Test.YtgflmkhfachlcaaGreatDoorRows
import GoSem.ClaimSeven
namespace Go.Proofs.YtgflmkhfachlcaaGreatDoor
namespace Rows

/-- THE TIED CARD OF 'changeoverlaw28.AppRuns'. -/
def appRunsCard : Claim7 := { stood := { row := appRunsRow, standIns := [], harness := (true, "2f5db0dcbc29208b188700c6b2c1284a2f7749a46ed37062090280d6de48292d"), looks := true }, kinds := [], alts := [], laidByText := true, laidKinds := [.data, .pinned], laidTests := true, laidLooks := .later }
def AppRunsCardSaid : Prop := Claim7.holds Tryz.pinned (.plain (OpenSpec.ofChange appRunsSpec)) appRunsCard

/-- THE TIED CARD OF 'changeoverlaw28.AppOnce'. -/
def appOnceCard : Claim7 := { stood := { row := appOnceRow, standIns := [], harness := (true, "2f5db0dcbc29208b188700c6b2c1284a2f7749a46ed37062090280d6de48292d"), looks := true }, kinds := [], alts := [], laidByText := true, laidKinds := [.data, .pinned], laidTests := true, laidLooks := .later }
def AppOnceCardSaid : Prop := Claim7.holds Tryz.pinned (.plain (OpenSpec.ofChange appOnceSpec)) appOnceCard

/-- THE TIED CARD OF 'changeoverlaw28.AppMigrated'. -/
def appMigratedCard : Claim7 := { stood := { row := appMigratedRow, standIns := [], harness := (true, "2f5db0dcbc29208b188700c6b2c1284a2f7749a46ed37062090280d6de48292d"), looks := true }, kinds := [], alts := [], laidByText := true, laidKinds := [.data, .pinned], laidTests := true, laidLooks := .later }
def AppMigratedCardSaid : Prop := Claim7.holds Tryz.pinned (.plain (OpenSpec.ofChange appMigratedSpec)) appMigratedCard

/-- THE SECOND FORM's CARD OF 'changeoverlaw28.AppRuns'. -/
def appRunsUptoCard : Claim7 := { stood := { row := appRunsUptoRow, standIns := [], harness := (true, "2f5db0dcbc29208b188700c6b2c1284a2f7749a46ed37062090280d6de48292d"), looks := true }, kinds := [], alts := [], laidByText := true, laidKinds := [.data, .pinned], laidTests := true, laidLooks := .later }
def AppRunsUptoCardSaid : Prop := Claim7.holds Tryz.pinned (.plain (OpenSpec.upto appRunsSpec)) appRunsUptoCard

/-- THE SECOND FORM's CARD OF 'changeoverlaw28.AppOnce'. -/
def appOnceUptoCard : Claim7 := { stood := { row := appOnceUptoRow, standIns := [], harness := (true, "2f5db0dcbc29208b188700c6b2c1284a2f7749a46ed37062090280d6de48292d"), looks := true }, kinds := [], alts := [], laidByText := true, laidKinds := [.data, .pinned], laidTests := true, laidLooks := .later }
def AppOnceUptoCardSaid : Prop := Claim7.holds Tryz.pinned (.plain (OpenSpec.upto appOnceSpec)) appOnceUptoCard

/-- THE SECOND FORM's CARD OF 'changeoverlaw28.AppMigrated'. -/
def appMigratedUptoCard : Claim7 := { stood := { row := appMigratedUptoRow, standIns := [], harness := (true, "2f5db0dcbc29208b188700c6b2c1284a2f7749a46ed37062090280d6de48292d"), looks := true }, kinds := [], alts := [], laidByText := true, laidKinds := [.data, .pinned], laidTests := true, laidLooks := .later }
def AppMigratedUptoCardSaid : Prop := Claim7.holds Tryz.pinned (.plain (OpenSpec.upto appMigratedSpec)) appMigratedUptoCard
end Rows
end Go.Proofs.YtgflmkhfachlcaaGreatDoor

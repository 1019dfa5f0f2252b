/-
  DERIVED. GIVEN WITH THE SEED: THE CARDS: each row of YtmdeeokejdkceaaDoorRows.lean that lists a variable, with what it lists TIED to the program's text (the seventh form; the later family's looks); each row that meets fmt, with fmt's text TOLD by the authors' own Lean function (tested against real Go, not proved from fmt's source: count such statements apart). THE CARD IS WHAT COUNTS. Prove the row's statement (the work); the ties are given (YtmdeeokejdkceaaDoorTie.lean); close each card by the builder's one call (the guide's Derived/Test/ToyasCard.lean, 'card_holds'). Laid BY PROGRAM, IN A SANDBOX (cutbox-door.mjs). By AI agents, Wed Nov 11 2026. No macro, syntax, notation, axiom, sorry.
-/
import Derived.Test.YtmdeeokejdkceaaDoorRows
import GoSem.ClaimSeven
namespace Go.Proofs.YtmdeeokejdkceaaDoor
namespace Rows

/-- THE TIED CARD OF 'changeoverlaw29.SpecRuns'. -/
def specRunsCard : Claim7 := { stood := { row := specRunsRow, standIns := [], harness := (true, "cb3208942cbea52ba89b64995542cc00a05b546696cc2cf574df974d810c620d"), looks := true }, kinds := [], alts := [], laidByText := true, laidKinds := [.data, .pinned], laidTests := true, laidLooks := .later }
def SpecRunsCardSaid : Prop := Claim7.holds Tryd.pinned (.plain (OpenSpec.ofChange specRunsSpec)) specRunsCard

/-- THE TIED CARD OF 'changeoverlaw33.PropWins'. -/
def propWinsCard : Claim7 := { stood := { row := propWinsRow, standIns := [], harness := (true, "cb3208942cbea52ba89b64995542cc00a05b546696cc2cf574df974d810c620d"), looks := true }, kinds := [], alts := [], laidByText := true, laidKinds := [.data, .pinned], laidTests := true, laidLooks := .later }
def PropWinsCardSaid : Prop := Claim7.holds Tryd.pinned (.plain (OpenSpec.ofChange propWinsSpec)) propWinsCard

/-- THE SECOND FORM's CARD OF 'changeoverlaw29.SpecRuns'. -/
def specRunsUptoCard : Claim7 := { stood := { row := specRunsUptoRow, standIns := [], harness := (true, "cb3208942cbea52ba89b64995542cc00a05b546696cc2cf574df974d810c620d"), looks := true }, kinds := [], alts := [], laidByText := true, laidKinds := [.data, .pinned], laidTests := true, laidLooks := .later }
def SpecRunsUptoCardSaid : Prop := Claim7.holds Tryd.pinned (.plain (OpenSpec.upto specRunsSpec)) specRunsUptoCard

/-- THE SECOND FORM's CARD OF 'changeoverlaw33.PropWins'. -/
def propWinsUptoCard : Claim7 := { stood := { row := propWinsUptoRow, standIns := [], harness := (true, "cb3208942cbea52ba89b64995542cc00a05b546696cc2cf574df974d810c620d"), looks := true }, kinds := [], alts := [], laidByText := true, laidKinds := [.data, .pinned], laidTests := true, laidLooks := .later }
def PropWinsUptoCardSaid : Prop := Claim7.holds Tryd.pinned (.plain (OpenSpec.upto propWinsSpec)) propWinsUptoCard
end Rows
end Go.Proofs.YtmdeeokejdkceaaDoor

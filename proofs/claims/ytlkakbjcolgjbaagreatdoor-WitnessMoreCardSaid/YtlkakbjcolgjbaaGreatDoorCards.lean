/-
  DERIVED. GIVEN WITH THE SEED: THE CARDS: each row of YtlkakbjcolgjbaaGreatDoorRows.lean that lists a variable, with what it lists TIED to the program's text (the seventh form; the later family's looks); each row that meets fmt, with fmt's text TOLD by the authors' own Lean function (tested against real Go, not proved from fmt's source: count such statements apart). THE CARD IS WHAT COUNTS. Prove the row's statement (the work); the ties are given (YtlkakbjcolgjbaaGreatDoorTie.lean); close each card by the builder's one call (the guide's Derived/Test/ToyasCard.lean, 'card_holds'). Laid BY PROGRAM, IN A SANDBOX (cutbox-door.mjs). By AI agents, Wed Nov 11 2026. No macro, syntax, notation, axiom, sorry.
-/
import Derived.Test.YtlkakbjcolgjbaaGreatDoorRows
import GoSem.ClaimSeven
namespace Go.Proofs.YtlkakbjcolgjbaaGreatDoor
namespace Rows

/-- THE TIED CARD OF 'changeoverlaw43.WitnessMore'. -/
def witnessMoreCard : Claim7 := { stood := { row := witnessMoreRow, standIns := [], harness := (true, "81df6a9a11614189dd1c037bff4f71181fabbdec560e79111ed5da0421f3601b"), looks := true }, kinds := [], alts := [], laidByText := true, laidKinds := [.data, .pinned], laidTests := true, laidLooks := .later }
def WitnessMoreCardSaid : Prop := Claim7.holds Tryz.pinned (.plain (OpenSpec.ofChange witnessMoreSpec)) witnessMoreCard

/-- THE SECOND FORM's CARD OF 'changeoverlaw43.WitnessMore'. -/
def witnessMoreUptoCard : Claim7 := { stood := { row := witnessMoreUptoRow, standIns := [], harness := (true, "81df6a9a11614189dd1c037bff4f71181fabbdec560e79111ed5da0421f3601b"), looks := true }, kinds := [], alts := [], laidByText := true, laidKinds := [.data, .pinned], laidTests := true, laidLooks := .later }
def WitnessMoreUptoCardSaid : Prop := Claim7.holds Tryz.pinned (.plain (OpenSpec.upto witnessMoreSpec)) witnessMoreUptoCard
end Rows
end Go.Proofs.YtlkakbjcolgjbaaGreatDoor

/-
  DERIVED. GIVEN WITH THE SEED: THE CARDS: each row of YtnoiahlpmgbhfaaDoorRows.lean that lists a variable, with what it lists TIED to the program's text (the seventh form; the later family's looks); each row that meets fmt, with fmt's text TOLD by the authors' own Lean function (tested against real Go, not proved from fmt's source: count such statements apart). THE CARD IS WHAT COUNTS. Prove the row's statement (the work); the ties are given (YtnoiahlpmgbhfaaDoorTie.lean); close each card by the builder's one call (the guide's Derived/Test/ToyasCard.lean, 'card_holds'). Laid BY PROGRAM, IN A SANDBOX (cutbox-door.mjs). By AI agents, Wed Nov 11 2026. No macro, syntax, notation, axiom, sorry.
-/
import Derived.Test.YtnoiahlpmgbhfaaDoorRows
import GoSem.ClaimSeven
namespace Go.Proofs.YtnoiahlpmgbhfaaDoor
namespace Rows

/-- THE TIED CARD OF 'changeoverlaw16.ReconeDecodes'. -/
def reconeDecodesCard : Claim7 := { stood := { row := reconeDecodesRow, standIns := [], harness := (true, "b46bdd78ec193aa323afeb3e80993fb0d774a9779e8fbe5c27792af606e84c0b"), looks := true }, kinds := [], alts := [], laidByText := true, laidKinds := [.data, .pinned], laidTests := true, laidLooks := .later }
def ReconeDecodesCardSaid : Prop := Claim7.holds Tryd.pinned (.plain (OpenSpec.ofChange reconeDecodesSpec)) reconeDecodesCard

/-- THE TIED CARD OF 'changeoverlaw19.HardOf'. -/
def hardOfCard : Claim7 := { stood := { row := hardOfRow, standIns := [], harness := (true, "b46bdd78ec193aa323afeb3e80993fb0d774a9779e8fbe5c27792af606e84c0b"), looks := true }, kinds := [], alts := [], laidByText := true, laidKinds := [.data, .pinned], laidTests := true, laidLooks := .later }
def HardOfCardSaid : Prop := Claim7.holds Tryd.pinned (.plain (OpenSpec.ofChange hardOfSpec)) hardOfCard

/-- THE TIED CARD OF 'changeoverlaw19.HardApplies'. -/
def hardAppliesCard : Claim7 := { stood := { row := hardAppliesRow, standIns := [], harness := (true, "b46bdd78ec193aa323afeb3e80993fb0d774a9779e8fbe5c27792af606e84c0b"), looks := true }, kinds := [], alts := [], laidByText := true, laidKinds := [.data, .pinned], laidTests := true, laidLooks := .later }
def HardAppliesCardSaid : Prop := Claim7.holds Tryd.pinned (.plain (OpenSpec.ofChange hardAppliesSpec)) hardAppliesCard

/-- THE TIED CARD OF 'changeoverlaw17.RectwoRewrites'. -/
def rectwoRewritesCard : Claim7 := { stood := { row := rectwoRewritesRow, standIns := [], harness := (true, "b46bdd78ec193aa323afeb3e80993fb0d774a9779e8fbe5c27792af606e84c0b"), looks := true }, kinds := [], alts := [], laidByText := true, laidKinds := [.data, .pinned], laidTests := true, laidLooks := .later }
def RectwoRewritesCardSaid : Prop := Claim7.holds Tryd.pinned (.plain (OpenSpec.ofChange rectwoRewritesSpec)) rectwoRewritesCard

/-- THE TIED CARD OF 'changeoverlaw17.RectwoGets'. -/
def rectwoGetsCard : Claim7 := { stood := { row := rectwoGetsRow, standIns := [], harness := (true, "b46bdd78ec193aa323afeb3e80993fb0d774a9779e8fbe5c27792af606e84c0b"), looks := true }, kinds := [], alts := [], laidByText := true, laidKinds := [.data, .pinned], laidTests := true, laidLooks := .later }
def RectwoGetsCardSaid : Prop := Claim7.holds Tryd.pinned (.plain (OpenSpec.ofChange rectwoGetsSpec)) rectwoGetsCard

/-- THE TIED CARD OF 'changeoverlaw17.RectwoPuts'. -/
def rectwoPutsCard : Claim7 := { stood := { row := rectwoPutsRow, standIns := [], harness := (true, "b46bdd78ec193aa323afeb3e80993fb0d774a9779e8fbe5c27792af606e84c0b"), looks := true }, kinds := [], alts := [], laidByText := true, laidKinds := [.data, .pinned], laidTests := true, laidLooks := .later }
def RectwoPutsCardSaid : Prop := Claim7.holds Tryd.pinned (.plain (OpenSpec.ofChange rectwoPutsSpec)) rectwoPutsCard

/-- THE TIED CARD OF 'changeoverlaw12.EntryBack'. -/
def entryBackCard : Claim7 := { stood := { row := entryBackRow, standIns := [], harness := (true, "b46bdd78ec193aa323afeb3e80993fb0d774a9779e8fbe5c27792af606e84c0b"), looks := true }, kinds := [], alts := [], laidByText := true, laidKinds := [.data, .pinned], laidTests := true, laidLooks := .later }
def EntryBackCardSaid : Prop := Claim7.holds Tryd.pinned (.plain (OpenSpec.ofChange entryBackSpec)) entryBackCard

/-- THE TIED CARD OF 'changeoverlaw19.HardBack'. -/
def hardBackCard : Claim7 := { stood := { row := hardBackRow, standIns := [], harness := (true, "b46bdd78ec193aa323afeb3e80993fb0d774a9779e8fbe5c27792af606e84c0b"), looks := true }, kinds := [], alts := [], laidByText := true, laidKinds := [.data, .pinned], laidTests := true, laidLooks := .later }
def HardBackCardSaid : Prop := Claim7.holds Tryd.pinned (.plain (OpenSpec.ofChange hardBackSpec)) hardBackCard

/-- THE SECOND FORM's CARD OF 'changeoverlaw16.ReconeDecodes'. -/
def reconeDecodesUptoCard : Claim7 := { stood := { row := reconeDecodesUptoRow, standIns := [], harness := (true, "b46bdd78ec193aa323afeb3e80993fb0d774a9779e8fbe5c27792af606e84c0b"), looks := true }, kinds := [], alts := [], laidByText := true, laidKinds := [.data, .pinned], laidTests := true, laidLooks := .later }
def ReconeDecodesUptoCardSaid : Prop := Claim7.holds Tryd.pinned (.plain (OpenSpec.upto reconeDecodesSpec)) reconeDecodesUptoCard

/-- THE SECOND FORM's CARD OF 'changeoverlaw19.HardOf'. -/
def hardOfUptoCard : Claim7 := { stood := { row := hardOfUptoRow, standIns := [], harness := (true, "b46bdd78ec193aa323afeb3e80993fb0d774a9779e8fbe5c27792af606e84c0b"), looks := true }, kinds := [], alts := [], laidByText := true, laidKinds := [.data, .pinned], laidTests := true, laidLooks := .later }
def HardOfUptoCardSaid : Prop := Claim7.holds Tryd.pinned (.plain (OpenSpec.upto hardOfSpec)) hardOfUptoCard

/-- THE SECOND FORM's CARD OF 'changeoverlaw19.HardApplies'. -/
def hardAppliesUptoCard : Claim7 := { stood := { row := hardAppliesUptoRow, standIns := [], harness := (true, "b46bdd78ec193aa323afeb3e80993fb0d774a9779e8fbe5c27792af606e84c0b"), looks := true }, kinds := [], alts := [], laidByText := true, laidKinds := [.data, .pinned], laidTests := true, laidLooks := .later }
def HardAppliesUptoCardSaid : Prop := Claim7.holds Tryd.pinned (.plain (OpenSpec.upto hardAppliesSpec)) hardAppliesUptoCard

/-- THE SECOND FORM's CARD OF 'changeoverlaw17.RectwoRewrites'. -/
def rectwoRewritesUptoCard : Claim7 := { stood := { row := rectwoRewritesUptoRow, standIns := [], harness := (true, "b46bdd78ec193aa323afeb3e80993fb0d774a9779e8fbe5c27792af606e84c0b"), looks := true }, kinds := [], alts := [], laidByText := true, laidKinds := [.data, .pinned], laidTests := true, laidLooks := .later }
def RectwoRewritesUptoCardSaid : Prop := Claim7.holds Tryd.pinned (.plain (OpenSpec.upto rectwoRewritesSpec)) rectwoRewritesUptoCard

/-- THE SECOND FORM's CARD OF 'changeoverlaw17.RectwoGets'. -/
def rectwoGetsUptoCard : Claim7 := { stood := { row := rectwoGetsUptoRow, standIns := [], harness := (true, "b46bdd78ec193aa323afeb3e80993fb0d774a9779e8fbe5c27792af606e84c0b"), looks := true }, kinds := [], alts := [], laidByText := true, laidKinds := [.data, .pinned], laidTests := true, laidLooks := .later }
def RectwoGetsUptoCardSaid : Prop := Claim7.holds Tryd.pinned (.plain (OpenSpec.upto rectwoGetsSpec)) rectwoGetsUptoCard

/-- THE SECOND FORM's CARD OF 'changeoverlaw17.RectwoPuts'. -/
def rectwoPutsUptoCard : Claim7 := { stood := { row := rectwoPutsUptoRow, standIns := [], harness := (true, "b46bdd78ec193aa323afeb3e80993fb0d774a9779e8fbe5c27792af606e84c0b"), looks := true }, kinds := [], alts := [], laidByText := true, laidKinds := [.data, .pinned], laidTests := true, laidLooks := .later }
def RectwoPutsUptoCardSaid : Prop := Claim7.holds Tryd.pinned (.plain (OpenSpec.upto rectwoPutsSpec)) rectwoPutsUptoCard

/-- THE SECOND FORM's CARD OF 'changeoverlaw12.EntryBack'. -/
def entryBackUptoCard : Claim7 := { stood := { row := entryBackUptoRow, standIns := [], harness := (true, "b46bdd78ec193aa323afeb3e80993fb0d774a9779e8fbe5c27792af606e84c0b"), looks := true }, kinds := [], alts := [], laidByText := true, laidKinds := [.data, .pinned], laidTests := true, laidLooks := .later }
def EntryBackUptoCardSaid : Prop := Claim7.holds Tryd.pinned (.plain (OpenSpec.upto entryBackSpec)) entryBackUptoCard

/-- THE SECOND FORM's CARD OF 'changeoverlaw19.HardBack'. -/
def hardBackUptoCard : Claim7 := { stood := { row := hardBackUptoRow, standIns := [], harness := (true, "b46bdd78ec193aa323afeb3e80993fb0d774a9779e8fbe5c27792af606e84c0b"), looks := true }, kinds := [], alts := [], laidByText := true, laidKinds := [.data, .pinned], laidTests := true, laidLooks := .later }
def HardBackUptoCardSaid : Prop := Claim7.holds Tryd.pinned (.plain (OpenSpec.upto hardBackSpec)) hardBackUptoCard
end Rows
end Go.Proofs.YtnoiahlpmgbhfaaDoor

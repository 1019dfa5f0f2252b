/-
  DERIVED. GIVEN WITH THE SEED: THE CARDS: each row of YtfckggkmiegokaaDoorRows.lean that lists a variable, with what it lists TIED to the program's text (the seventh form; the later family's looks); each row that meets fmt, with fmt's text TOLD by the authors' own Lean function (tested against real Go, not proved from fmt's source: count such statements apart). THE CARD IS WHAT COUNTS. Prove the row's statement (the work); the ties are given (YtfckggkmiegokaaDoorTie.lean); close each card by the builder's one call (the guide's Derived/Test/ToyasCard.lean, 'card_holds'). Laid BY PROGRAM, IN A SANDBOX (cutbox-door.mjs). By AI agents, Wed Nov 11 2026. No macro, syntax, notation, axiom, sorry.
-/
import Derived.Test.YtfckggkmiegokaaDoorRows
import GoSem.ClaimSeven
namespace Go.Proofs.YtfckggkmiegokaaDoor
namespace Rows

/-- THE TIED CARD OF 'changeoverlaw16.ReconeChecks'. -/
def reconeChecksCard : Claim7 := { stood := { row := reconeChecksRow, standIns := [], harness := (true, "87c983616337943a2135ee4a21871a5d29d126710278566de668430411b2902f"), looks := true }, kinds := [], alts := [], laidByText := true, laidKinds := [.data, .pinned], laidTests := true, laidLooks := .later }
def ReconeChecksCardSaid : Prop := Claim7.holds Tryd.pinned (.plain (OpenSpec.ofChange reconeChecksSpec)) reconeChecksCard

/-- THE TIED CARD OF 'changeoverlaw12.EntryLists'. -/
def entryListsCard : Claim7 := { stood := { row := entryListsRow, standIns := [], harness := (true, "87c983616337943a2135ee4a21871a5d29d126710278566de668430411b2902f"), looks := true }, kinds := [], alts := [], laidByText := true, laidKinds := [.data, .pinned], laidTests := true, laidLooks := .later }
def EntryListsCardSaid : Prop := Claim7.holds Tryd.pinned (.plain (OpenSpec.ofChange entryListsSpec)) entryListsCard

/-- THE TIED CARD OF 'changeoverlaw12.EntryChecks'. -/
def entryChecksCard : Claim7 := { stood := { row := entryChecksRow, standIns := [], harness := (true, "87c983616337943a2135ee4a21871a5d29d126710278566de668430411b2902f"), looks := true }, kinds := [], alts := [], laidByText := true, laidKinds := [.data, .pinned], laidTests := true, laidLooks := .later }
def EntryChecksCardSaid : Prop := Claim7.holds Tryd.pinned (.plain (OpenSpec.ofChange entryChecksSpec)) entryChecksCard

/-- THE TIED CARD OF 'changeoverlaw16.ReconeEncodes'. -/
def reconeEncodesCard : Claim7 := { stood := { row := reconeEncodesRow, standIns := [], harness := (true, "87c983616337943a2135ee4a21871a5d29d126710278566de668430411b2902f"), looks := true }, kinds := [], alts := [], laidByText := true, laidKinds := [.data, .pinned], laidTests := true, laidLooks := .later }
def ReconeEncodesCardSaid : Prop := Claim7.holds Tryd.pinned (.plain (OpenSpec.ofChange reconeEncodesSpec)) reconeEncodesCard

/-- THE SECOND FORM's CARD OF 'changeoverlaw16.ReconeChecks'. -/
def reconeChecksUptoCard : Claim7 := { stood := { row := reconeChecksUptoRow, standIns := [], harness := (true, "87c983616337943a2135ee4a21871a5d29d126710278566de668430411b2902f"), looks := true }, kinds := [], alts := [], laidByText := true, laidKinds := [.data, .pinned], laidTests := true, laidLooks := .later }
def ReconeChecksUptoCardSaid : Prop := Claim7.holds Tryd.pinned (.plain (OpenSpec.upto reconeChecksSpec)) reconeChecksUptoCard

/-- THE SECOND FORM's CARD OF 'changeoverlaw12.EntryLists'. -/
def entryListsUptoCard : Claim7 := { stood := { row := entryListsUptoRow, standIns := [], harness := (true, "87c983616337943a2135ee4a21871a5d29d126710278566de668430411b2902f"), looks := true }, kinds := [], alts := [], laidByText := true, laidKinds := [.data, .pinned], laidTests := true, laidLooks := .later }
def EntryListsUptoCardSaid : Prop := Claim7.holds Tryd.pinned (.plain (OpenSpec.upto entryListsSpec)) entryListsUptoCard

/-- THE SECOND FORM's CARD OF 'changeoverlaw12.EntryChecks'. -/
def entryChecksUptoCard : Claim7 := { stood := { row := entryChecksUptoRow, standIns := [], harness := (true, "87c983616337943a2135ee4a21871a5d29d126710278566de668430411b2902f"), looks := true }, kinds := [], alts := [], laidByText := true, laidKinds := [.data, .pinned], laidTests := true, laidLooks := .later }
def EntryChecksUptoCardSaid : Prop := Claim7.holds Tryd.pinned (.plain (OpenSpec.upto entryChecksSpec)) entryChecksUptoCard

/-- THE SECOND FORM's CARD OF 'changeoverlaw16.ReconeEncodes'. -/
def reconeEncodesUptoCard : Claim7 := { stood := { row := reconeEncodesUptoRow, standIns := [], harness := (true, "87c983616337943a2135ee4a21871a5d29d126710278566de668430411b2902f"), looks := true }, kinds := [], alts := [], laidByText := true, laidKinds := [.data, .pinned], laidTests := true, laidLooks := .later }
def ReconeEncodesUptoCardSaid : Prop := Claim7.holds Tryd.pinned (.plain (OpenSpec.upto reconeEncodesSpec)) reconeEncodesUptoCard
end Rows
end Go.Proofs.YtfckggkmiegokaaDoor

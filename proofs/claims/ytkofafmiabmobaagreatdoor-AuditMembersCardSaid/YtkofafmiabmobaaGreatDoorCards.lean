/-
  DERIVED. GIVEN WITH THE SEED: THE CARDS: each row of YtkofafmiabmobaaGreatDoorRows.lean that lists a variable, with what it lists TIED to the program's text (the seventh form; the later family's looks); each row that meets fmt, with fmt's text TOLD by the authors' own Lean function (tested against real Go, not proved from fmt's source: count such statements apart). THE CARD IS WHAT COUNTS. Prove the row's statement (the work); the ties are given (YtkofafmiabmobaaGreatDoorTie.lean); close each card by the builder's one call (the guide's Derived/Test/ToyasCard.lean, 'card_holds'). Laid BY PROGRAM, IN A SANDBOX (cutbox-door.mjs). By AI agents, Wed Nov 11 2026. No macro, syntax, notation, axiom, sorry.
-/
import Derived.Test.YtkofafmiabmobaaGreatDoorRows
import GoSem.ClaimSeven
namespace Go.Proofs.YtkofafmiabmobaaGreatDoor
namespace Rows

/-- THE TIED CARD OF 'changeoverlaw44.AuditMembers'. -/
def auditMembersCard : Claim7 := { stood := { row := auditMembersRow, standIns := [], harness := (true, "65108399512b8523a40e9adb35ccd139bb5a0413b437be7cbe7acd934aacdeba"), looks := true }, kinds := [], alts := [], laidByText := true, laidKinds := [.data, .data, .pinned], laidTests := true, laidLooks := .later }
def AuditMembersCardSaid : Prop := Claim7.holds Tryz.pinned (.plain (OpenSpec.ofChange auditMembersSpec)) auditMembersCard

/-- THE TIED CARD OF 'changeoverlaw46.ReportReads'. -/
def reportReadsCard : Claim7 := { stood := { row := reportReadsRow, standIns := [], harness := (true, "65108399512b8523a40e9adb35ccd139bb5a0413b437be7cbe7acd934aacdeba"), looks := true }, kinds := [], alts := [], laidByText := true, laidKinds := [.data, .data, .data, .data, .sentinel, .sentinel, .data, .pinned], laidTests := true, laidLooks := .later }
def ReportReadsCardSaid : Prop := Claim7.holds Tryz.pinned (.plain (OpenSpec.ofChange reportReadsSpec)) reportReadsCard

/-- THE SECOND FORM's CARD OF 'changeoverlaw44.AuditMembers'. -/
def auditMembersUptoCard : Claim7 := { stood := { row := auditMembersUptoRow, standIns := [], harness := (true, "65108399512b8523a40e9adb35ccd139bb5a0413b437be7cbe7acd934aacdeba"), looks := true }, kinds := [], alts := [], laidByText := true, laidKinds := [.data, .data, .pinned], laidTests := true, laidLooks := .later }
def AuditMembersUptoCardSaid : Prop := Claim7.holds Tryz.pinned (.plain (OpenSpec.upto auditMembersSpec)) auditMembersUptoCard

/-- THE SECOND FORM's CARD OF 'changeoverlaw46.ReportReads'. -/
def reportReadsUptoCard : Claim7 := { stood := { row := reportReadsUptoRow, standIns := [], harness := (true, "65108399512b8523a40e9adb35ccd139bb5a0413b437be7cbe7acd934aacdeba"), looks := true }, kinds := [], alts := [], laidByText := true, laidKinds := [.data, .data, .data, .data, .sentinel, .sentinel, .data, .pinned], laidTests := true, laidLooks := .later }
def ReportReadsUptoCardSaid : Prop := Claim7.holds Tryz.pinned (.plain (OpenSpec.upto reportReadsSpec)) reportReadsUptoCard
end Rows
end Go.Proofs.YtkofafmiabmobaaGreatDoor

/-
  DERIVED. GIVEN WITH THE SEED: THE CARDS: each row of YtpemabgfmnhhnaaGreatDoorRows.lean that lists a variable, with what it lists TIED to the program's text (the seventh form; the later family's looks); each row that meets fmt, with fmt's text TOLD by the authors' own Lean function (tested against real Go, not proved from fmt's source: count such statements apart). THE CARD IS WHAT COUNTS. Prove the row's statement (the work); the ties are given (YtpemabgfmnhhnaaGreatDoorTie.lean); close each card by the builder's one call (the guide's Derived/Test/ToyasCard.lean, 'card_holds'). Laid BY PROGRAM, IN A SANDBOX (cutbox-door.mjs). By AI agents, Wed Nov 11 2026. No macro, syntax, notation, axiom, sorry.
-/
import Derived.Test.YtpemabgfmnhhnaaGreatDoorRows
import GoSem.ClaimSeven
namespace Go.Proofs.YtpemabgfmnhhnaaGreatDoor
namespace Rows

/-- THE TIED CARD OF 'changeoverlaw20.SegmHeads'. -/
def segmHeadsCard : Claim7 := { stood := { row := segmHeadsRow, standIns := [], harness := (true, "ff985d4a2c195d2b053ff752d8f9403905b3d56cfab988831be32c96f38effc7"), looks := true }, kinds := [], alts := [], laidByText := true, laidKinds := [.data, .data, .pinned], laidTests := true, laidLooks := .later }
def SegmHeadsCardSaid : Prop := Claim7.holds Tryz.pinned (.plain (OpenSpec.ofChange segmHeadsSpec)) segmHeadsCard

/-- THE TIED CARD OF 'changeoverlaw20.SegmAdds'. -/
def segmAddsCard : Claim7 := { stood := { row := segmAddsRow, standIns := [], harness := (true, "ff985d4a2c195d2b053ff752d8f9403905b3d56cfab988831be32c96f38effc7"), looks := true }, kinds := [], alts := [], laidByText := true, laidKinds := [.data, .data, .pinned], laidTests := true, laidLooks := .later }
def SegmAddsCardSaid : Prop := Claim7.holds Tryz.pinned (.plain (OpenSpec.ofChange segmAddsSpec)) segmAddsCard

/-- THE TIED CARD OF 'changeoverlaw20.SegmCut'. -/
def segmCutCard : Claim7 := { stood := { row := segmCutRow, standIns := [], harness := (true, "ff985d4a2c195d2b053ff752d8f9403905b3d56cfab988831be32c96f38effc7"), looks := true }, kinds := [], alts := [], laidByText := true, laidKinds := [.data, .data, .pinned], laidTests := true, laidLooks := .later }
def SegmCutCardSaid : Prop := Claim7.holds Tryz.pinned (.plain (OpenSpec.ofChange segmCutSpec)) segmCutCard

/-- THE TIED CARD OF 'changeoverlaw20.SegmReads'. -/
def segmReadsCard : Claim7 := { stood := { row := segmReadsRow, standIns := [], harness := (true, "ff985d4a2c195d2b053ff752d8f9403905b3d56cfab988831be32c96f38effc7"), looks := true }, kinds := [], alts := [], laidByText := true, laidKinds := [.data, .data, .pinned], laidTests := true, laidLooks := .later }
def SegmReadsCardSaid : Prop := Claim7.holds Tryz.pinned (.plain (OpenSpec.ofChange segmReadsSpec)) segmReadsCard

/-- THE TIED CARD OF 'changeoverlaw21.WalOpens'. -/
def walOpensCard : Claim7 := { stood := { row := walOpensRow, standIns := [], harness := (true, "ff985d4a2c195d2b053ff752d8f9403905b3d56cfab988831be32c96f38effc7"), looks := true }, kinds := [], alts := [], laidByText := true, laidKinds := [.data, .data, .pinned], laidTests := true, laidLooks := .later }
def WalOpensCardSaid : Prop := Claim7.holds Tryz.pinned (.plain (OpenSpec.ofChange walOpensSpec)) walOpensCard

/-- THE TIED CARD OF 'changeoverlaw21.WalNobody'. -/
def walNobodyCard : Claim7 := { stood := { row := walNobodyRow, standIns := [], harness := (true, "ff985d4a2c195d2b053ff752d8f9403905b3d56cfab988831be32c96f38effc7"), looks := true }, kinds := [], alts := [], laidByText := true, laidKinds := [.data, .data, .pinned], laidTests := true, laidLooks := .later }
def WalNobodyCardSaid : Prop := Claim7.holds Tryz.pinned (.plain (OpenSpec.ofChange walNobodySpec)) walNobodyCard

/-- THE TIED CARD OF 'changeoverlaw21.WalCrashes'. -/
def walCrashesCard : Claim7 := { stood := { row := walCrashesRow, standIns := [], harness := (true, "ff985d4a2c195d2b053ff752d8f9403905b3d56cfab988831be32c96f38effc7"), looks := true }, kinds := [], alts := [], laidByText := true, laidKinds := [.data, .data, .pinned], laidTests := true, laidLooks := .later }
def WalCrashesCardSaid : Prop := Claim7.holds Tryz.pinned (.plain (OpenSpec.ofChange walCrashesSpec)) walCrashesCard

/-- THE SECOND FORM's CARD OF 'changeoverlaw20.SegmHeads'. -/
def segmHeadsUptoCard : Claim7 := { stood := { row := segmHeadsUptoRow, standIns := [], harness := (true, "ff985d4a2c195d2b053ff752d8f9403905b3d56cfab988831be32c96f38effc7"), looks := true }, kinds := [], alts := [], laidByText := true, laidKinds := [.data, .data, .pinned], laidTests := true, laidLooks := .later }
def SegmHeadsUptoCardSaid : Prop := Claim7.holds Tryz.pinned (.plain (OpenSpec.upto segmHeadsSpec)) segmHeadsUptoCard

/-- THE SECOND FORM's CARD OF 'changeoverlaw20.SegmAdds'. -/
def segmAddsUptoCard : Claim7 := { stood := { row := segmAddsUptoRow, standIns := [], harness := (true, "ff985d4a2c195d2b053ff752d8f9403905b3d56cfab988831be32c96f38effc7"), looks := true }, kinds := [], alts := [], laidByText := true, laidKinds := [.data, .data, .pinned], laidTests := true, laidLooks := .later }
def SegmAddsUptoCardSaid : Prop := Claim7.holds Tryz.pinned (.plain (OpenSpec.upto segmAddsSpec)) segmAddsUptoCard

/-- THE SECOND FORM's CARD OF 'changeoverlaw20.SegmCut'. -/
def segmCutUptoCard : Claim7 := { stood := { row := segmCutUptoRow, standIns := [], harness := (true, "ff985d4a2c195d2b053ff752d8f9403905b3d56cfab988831be32c96f38effc7"), looks := true }, kinds := [], alts := [], laidByText := true, laidKinds := [.data, .data, .pinned], laidTests := true, laidLooks := .later }
def SegmCutUptoCardSaid : Prop := Claim7.holds Tryz.pinned (.plain (OpenSpec.upto segmCutSpec)) segmCutUptoCard

/-- THE SECOND FORM's CARD OF 'changeoverlaw20.SegmReads'. -/
def segmReadsUptoCard : Claim7 := { stood := { row := segmReadsUptoRow, standIns := [], harness := (true, "ff985d4a2c195d2b053ff752d8f9403905b3d56cfab988831be32c96f38effc7"), looks := true }, kinds := [], alts := [], laidByText := true, laidKinds := [.data, .data, .pinned], laidTests := true, laidLooks := .later }
def SegmReadsUptoCardSaid : Prop := Claim7.holds Tryz.pinned (.plain (OpenSpec.upto segmReadsSpec)) segmReadsUptoCard

/-- THE SECOND FORM's CARD OF 'changeoverlaw21.WalOpens'. -/
def walOpensUptoCard : Claim7 := { stood := { row := walOpensUptoRow, standIns := [], harness := (true, "ff985d4a2c195d2b053ff752d8f9403905b3d56cfab988831be32c96f38effc7"), looks := true }, kinds := [], alts := [], laidByText := true, laidKinds := [.data, .data, .pinned], laidTests := true, laidLooks := .later }
def WalOpensUptoCardSaid : Prop := Claim7.holds Tryz.pinned (.plain (OpenSpec.upto walOpensSpec)) walOpensUptoCard

/-- THE SECOND FORM's CARD OF 'changeoverlaw21.WalNobody'. -/
def walNobodyUptoCard : Claim7 := { stood := { row := walNobodyUptoRow, standIns := [], harness := (true, "ff985d4a2c195d2b053ff752d8f9403905b3d56cfab988831be32c96f38effc7"), looks := true }, kinds := [], alts := [], laidByText := true, laidKinds := [.data, .data, .pinned], laidTests := true, laidLooks := .later }
def WalNobodyUptoCardSaid : Prop := Claim7.holds Tryz.pinned (.plain (OpenSpec.upto walNobodySpec)) walNobodyUptoCard

/-- THE SECOND FORM's CARD OF 'changeoverlaw21.WalCrashes'. -/
def walCrashesUptoCard : Claim7 := { stood := { row := walCrashesUptoRow, standIns := [], harness := (true, "ff985d4a2c195d2b053ff752d8f9403905b3d56cfab988831be32c96f38effc7"), looks := true }, kinds := [], alts := [], laidByText := true, laidKinds := [.data, .data, .pinned], laidTests := true, laidLooks := .later }
def WalCrashesUptoCardSaid : Prop := Claim7.holds Tryz.pinned (.plain (OpenSpec.upto walCrashesSpec)) walCrashesUptoCard
end Rows
end Go.Proofs.YtpemabgfmnhhnaaGreatDoor

/-
  DERIVED. GIVEN WITH THE SEED: THE CARDS: each row of YtmdeeokejdkceaaGreatDoorRows.lean that lists a variable, with what it lists TIED to the program's text (the seventh form; the later family's looks); each row that meets fmt, with fmt's text TOLD by the authors' own Lean function (tested against real Go, not proved from fmt's source: count such statements apart). THE CARD IS WHAT COUNTS. Prove the row's statement (the work); the ties are given (YtmdeeokejdkceaaGreatDoorTie.lean); close each card by the builder's one call (the guide's Derived/Test/ToyasCard.lean, 'card_holds'). Laid BY PROGRAM, IN A SANDBOX (cutbox-door.mjs). By AI agents, Wed Nov 11 2026. No macro, syntax, notation, axiom, sorry.
-/
import Derived.Test.YtmdeeokejdkceaaGreatDoorRows
import GoSem.ClaimSeven
namespace Go.Proofs.YtmdeeokejdkceaaGreatDoor
namespace Rows

/-- THE TIED CARD OF 'changeoverlaw29.SpecApp'. -/
def specAppCard : Claim7 := { stood := { row := specAppRow, standIns := [], harness := (true, "fd00f198de0f1bbff99678f964db4a91607ae39a2c1c259642fb503572231bd3"), looks := true }, kinds := [], alts := [], laidByText := true, laidKinds := [.data, .pinned], laidTests := true, laidLooks := .later }
def SpecAppCardSaid : Prop := Claim7.holds Tryz.pinned (.plain (OpenSpec.ofChange specAppSpec)) specAppCard

/-- THE TIED CARD OF 'changeoverlaw30.WindowMembers'. -/
def windowMembersCard : Claim7 := { stood := { row := windowMembersRow, standIns := [], harness := (true, "fd00f198de0f1bbff99678f964db4a91607ae39a2c1c259642fb503572231bd3"), looks := true }, kinds := [], alts := [], laidByText := true, laidKinds := [.data, .pinned], laidTests := true, laidLooks := .later }
def WindowMembersCardSaid : Prop := Claim7.holds Tryz.pinned (.plain (OpenSpec.ofChange windowMembersSpec)) windowMembersCard

/-- THE TIED CARD OF 'changeoverlaw30.WindowOnce'. -/
def windowOnceCard : Claim7 := { stood := { row := windowOnceRow, standIns := [], harness := (true, "fd00f198de0f1bbff99678f964db4a91607ae39a2c1c259642fb503572231bd3"), looks := true }, kinds := [], alts := [], laidByText := true, laidKinds := [.data, .pinned], laidTests := true, laidLooks := .later }
def WindowOnceCardSaid : Prop := Claim7.holds Tryz.pinned (.plain (OpenSpec.ofChange windowOnceSpec)) windowOnceCard

/-- THE TIED CARD OF 'changeoverlaw30.WindowApplies'. -/
def windowAppliesCard : Claim7 := { stood := { row := windowAppliesRow, standIns := [], harness := (true, "fd00f198de0f1bbff99678f964db4a91607ae39a2c1c259642fb503572231bd3"), looks := true }, kinds := [], alts := [], laidByText := true, laidKinds := [.data, .pinned], laidTests := true, laidLooks := .later }
def WindowAppliesCardSaid : Prop := Claim7.holds Tryz.pinned (.plain (OpenSpec.ofChange windowAppliesSpec)) windowAppliesCard

/-- THE TIED CARD OF 'changeoverlaw43.WitnessMore'. -/
def witnessMoreCard : Claim7 := { stood := { row := witnessMoreRow, standIns := [], harness := (true, "fd00f198de0f1bbff99678f964db4a91607ae39a2c1c259642fb503572231bd3"), looks := true }, kinds := [], alts := [], laidByText := true, laidKinds := [.data, .pinned], laidTests := true, laidLooks := .later }
def WitnessMoreCardSaid : Prop := Claim7.holds Tryz.pinned (.plain (OpenSpec.ofChange witnessMoreSpec)) witnessMoreCard

/-- THE TIED CARD OF 'changeoverlaw33.PropLearns'. -/
def propLearnsCard : Claim7 := { stood := { row := propLearnsRow, standIns := [], harness := (true, "fd00f198de0f1bbff99678f964db4a91607ae39a2c1c259642fb503572231bd3"), looks := true }, kinds := [], alts := [], laidByText := true, laidKinds := [.data, .pinned], laidTests := true, laidLooks := .later }
def PropLearnsCardSaid : Prop := Claim7.holds Tryz.pinned (.plain (OpenSpec.ofChange propLearnsSpec)) propLearnsCard

/-- THE TIED CARD OF 'changeoverlaw33.PropFinds'. -/
def propFindsCard : Claim7 := { stood := { row := propFindsRow, standIns := [], harness := (true, "fd00f198de0f1bbff99678f964db4a91607ae39a2c1c259642fb503572231bd3"), looks := true }, kinds := [], alts := [], laidByText := true, laidKinds := [.data, .pinned], laidTests := true, laidLooks := .later }
def PropFindsCardSaid : Prop := Claim7.holds Tryz.pinned (.plain (OpenSpec.ofChange propFindsSpec)) propFindsCard

/-- THE SECOND FORM's CARD OF 'changeoverlaw29.SpecApp'. -/
def specAppUptoCard : Claim7 := { stood := { row := specAppUptoRow, standIns := [], harness := (true, "fd00f198de0f1bbff99678f964db4a91607ae39a2c1c259642fb503572231bd3"), looks := true }, kinds := [], alts := [], laidByText := true, laidKinds := [.data, .pinned], laidTests := true, laidLooks := .later }
def SpecAppUptoCardSaid : Prop := Claim7.holds Tryz.pinned (.plain (OpenSpec.upto specAppSpec)) specAppUptoCard

/-- THE SECOND FORM's CARD OF 'changeoverlaw30.WindowMembers'. -/
def windowMembersUptoCard : Claim7 := { stood := { row := windowMembersUptoRow, standIns := [], harness := (true, "fd00f198de0f1bbff99678f964db4a91607ae39a2c1c259642fb503572231bd3"), looks := true }, kinds := [], alts := [], laidByText := true, laidKinds := [.data, .pinned], laidTests := true, laidLooks := .later }
def WindowMembersUptoCardSaid : Prop := Claim7.holds Tryz.pinned (.plain (OpenSpec.upto windowMembersSpec)) windowMembersUptoCard

/-- THE SECOND FORM's CARD OF 'changeoverlaw30.WindowOnce'. -/
def windowOnceUptoCard : Claim7 := { stood := { row := windowOnceUptoRow, standIns := [], harness := (true, "fd00f198de0f1bbff99678f964db4a91607ae39a2c1c259642fb503572231bd3"), looks := true }, kinds := [], alts := [], laidByText := true, laidKinds := [.data, .pinned], laidTests := true, laidLooks := .later }
def WindowOnceUptoCardSaid : Prop := Claim7.holds Tryz.pinned (.plain (OpenSpec.upto windowOnceSpec)) windowOnceUptoCard

/-- THE SECOND FORM's CARD OF 'changeoverlaw30.WindowApplies'. -/
def windowAppliesUptoCard : Claim7 := { stood := { row := windowAppliesUptoRow, standIns := [], harness := (true, "fd00f198de0f1bbff99678f964db4a91607ae39a2c1c259642fb503572231bd3"), looks := true }, kinds := [], alts := [], laidByText := true, laidKinds := [.data, .pinned], laidTests := true, laidLooks := .later }
def WindowAppliesUptoCardSaid : Prop := Claim7.holds Tryz.pinned (.plain (OpenSpec.upto windowAppliesSpec)) windowAppliesUptoCard

/-- THE SECOND FORM's CARD OF 'changeoverlaw43.WitnessMore'. -/
def witnessMoreUptoCard : Claim7 := { stood := { row := witnessMoreUptoRow, standIns := [], harness := (true, "fd00f198de0f1bbff99678f964db4a91607ae39a2c1c259642fb503572231bd3"), looks := true }, kinds := [], alts := [], laidByText := true, laidKinds := [.data, .pinned], laidTests := true, laidLooks := .later }
def WitnessMoreUptoCardSaid : Prop := Claim7.holds Tryz.pinned (.plain (OpenSpec.upto witnessMoreSpec)) witnessMoreUptoCard

/-- THE SECOND FORM's CARD OF 'changeoverlaw33.PropLearns'. -/
def propLearnsUptoCard : Claim7 := { stood := { row := propLearnsUptoRow, standIns := [], harness := (true, "fd00f198de0f1bbff99678f964db4a91607ae39a2c1c259642fb503572231bd3"), looks := true }, kinds := [], alts := [], laidByText := true, laidKinds := [.data, .pinned], laidTests := true, laidLooks := .later }
def PropLearnsUptoCardSaid : Prop := Claim7.holds Tryz.pinned (.plain (OpenSpec.upto propLearnsSpec)) propLearnsUptoCard

/-- THE SECOND FORM's CARD OF 'changeoverlaw33.PropFinds'. -/
def propFindsUptoCard : Claim7 := { stood := { row := propFindsUptoRow, standIns := [], harness := (true, "fd00f198de0f1bbff99678f964db4a91607ae39a2c1c259642fb503572231bd3"), looks := true }, kinds := [], alts := [], laidByText := true, laidKinds := [.data, .pinned], laidTests := true, laidLooks := .later }
def PropFindsUptoCardSaid : Prop := Claim7.holds Tryz.pinned (.plain (OpenSpec.upto propFindsSpec)) propFindsUptoCard
end Rows
end Go.Proofs.YtmdeeokejdkceaaGreatDoor

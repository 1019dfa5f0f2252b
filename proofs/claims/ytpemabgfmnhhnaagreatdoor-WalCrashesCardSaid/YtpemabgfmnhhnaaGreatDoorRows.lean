/-
  NARROWER THAN 'FOR EVERY INPUT', by the rows' own cells (each row's printed sentence says how): SegmHeads: laid · SegmAdds: laid · SegmCut: laid · SegmReads: laid · WalOpens: laid · WalNobody: laid · WalCrashes: laid.
  DERIVED. THE GIVEN ROWS OF THIS SEAT. 7 by the template 'for every input the law returns true; each argument reads behind the call as it read before'; 0 by the template 'total and deterministic' (their statements: YtpemabgfmnhhnaaGreatDoorTotals.lean).
  GIVEN WITH THE SEED: the statements are not yours to turn. If you find one false, say at which input.
  Laid BY PROGRAM, IN A SANDBOX (cutbox-rows.mjs): the forced cells as the released guide's own fill.sh prints them over the translation 45cf41cf532ea961… (all of the seat's roots in one cut). By AI agents, Wed Nov 11 2026. No macro, syntax, notation, axiom, sorry.
-/
import Derived.Test.YtpemabgfmnhhnaaGreatDoorChecked
import GoSem.PinnedTables
import GoSem.Claim
import GoSem.ClaimJoined
import GoSem.ClaimMapViews
import Derived.JoinedTies
import Derived.KernelRfl
namespace Go.Proofs.YtpemabgfmnhhnaaGreatDoor
/- THE CELL 'sum', in the pinned program and in every row, IS THE sha256 OF THE DUMP (.gsa) THAT YtpemabgfmnhhnaaGreatDoorProg.lean LOADS. Nothing in Lean hashes anything: it is a label: what it is worth is what the hold of that sum in a sandbox is worth. -/
noncomputable def Tryz.pinned : Pinned := { name := "ytpemabgfmnhhnaagreatdoor", sum := "45cf41cf532ea961acb5f1db12b27ff8dc202f42ed3aa069cf3131e427db14e3", checked := Tryz.checked }
namespace Rows
def none {H : Type} : Left H := { results := [], args := [] }

/- WHAT THE LISTED PACKAGE-LEVEL VARIABLES READ AS WHEN THE CALL BEGINS. Each datum BY PROGRAM (the guide's laid-datum.mjs) off the statement by which the dump's own 'gosem.cut.vars' lays the variable. In a bare row this is a premise. The card (YtpemabgfmnhhnaaGreatDoorCards.lean) ties it to the program's text. -/
def laid_unicode_utf8_acceptRanges {H : Type} : DataW H := .agg [.agg [.lit (.int .u8 128), .lit (.int .u8 191)], .agg [.lit (.int .u8 160), .lit (.int .u8 191)], .agg [.lit (.int .u8 128), .lit (.int .u8 159)], .agg [.lit (.int .u8 144), .lit (.int .u8 191)], .agg [.lit (.int .u8 128), .lit (.int .u8 143)], .agg [.lit (.int .u8 0), .lit (.int .u8 0)], .agg [.lit (.int .u8 0), .lit (.int .u8 0)], .agg [.lit (.int .u8 0), .lit (.int .u8 0)], .agg [.lit (.int .u8 0), .lit (.int .u8 0)], .agg [.lit (.int .u8 0), .lit (.int .u8 0)], .agg [.lit (.int .u8 0), .lit (.int .u8 0)], .agg [.lit (.int .u8 0), .lit (.int .u8 0)], .agg [.lit (.int .u8 0), .lit (.int .u8 0)], .agg [.lit (.int .u8 0), .lit (.int .u8 0)], .agg [.lit (.int .u8 0), .lit (.int .u8 0)], .agg [.lit (.int .u8 0), .lit (.int .u8 0)]]
def laid_changeover_crc_table {H : Type} : DataW H := .agg [.lit (.int .u32 0), .lit (.int .u32 498536548), .lit (.int .u32 997073096), .lit (.int .u32 651767980), .lit (.int .u32 1994146192), .lit (.int .u32 1802195444), .lit (.int .u32 1303535960), .lit (.int .u32 1342533948), .lit (.int .u32 3988292384), .lit (.int .u32 4027552580), .lit (.int .u32 3604390888), .lit (.int .u32 3412177804), .lit (.int .u32 2607071920), .lit (.int .u32 2262029012), .lit (.int .u32 2685067896), .lit (.int .u32 3183342108)]
/-- One of Go's own tables, pinned by name: the form's constant. -/
def laid_unicode_utf8_first : DataW Unit := Go.Pinned.utf8First

/-- 'changeoverlaw20.SegmHeads': WHATEVER THE INPUT: true; the input reads as it did. -/
def segmHeadsSpec : ChangeSpec := { name := "segmHeads", fn := fun _ => fun
  | [d1, d2] => { results := [.lit (.bool true)], args := [d1, d2] }
  | _ => none }
def segmHeadsRow : OpenClaim := { program := "ytpemabgfmnhhnaagreatdoor", sum := "45cf41cf532ea961acb5f1db12b27ff8dc202f42ed3aa069cf3131e427db14e3", func := "changeover/changeoverlaw20.SegmHeads", spec := "segmHeads", inPlace := ["slices.overlaps[changeover/api.Entry]"], unfollowed := true, recurses := true, named := ["unicode/utf8.first", "unicode/utf8.acceptRanges", "changeover/crc.table"], apart := false, laid := [("unicode/utf8.acceptRanges", laid_unicode_utf8_acceptRanges), ("changeover/crc.table", laid_changeover_crc_table), ("unicode/utf8.first", laid_unicode_utf8_first)] }
def SegmHeadsSaid : Prop := segmHeadsRow.holds Tryz.pinned (OpenSpec.ofChange segmHeadsSpec)

/-- ITS FALSE NEIGHBOUR: 'it returns false'. Refute it at one input. -/
def segmHeadsWrong : ChangeSpec := { name := "segmHeads", fn := fun _ => fun
  | [d1, d2] => { results := [.lit (.bool false)], args := [d1, d2] }
  | _ => none }
def SegmHeadsWrongFalsely : Prop := segmHeadsRow.holds Tryz.pinned (OpenSpec.ofChange segmHeadsWrong)

/-- 'changeoverlaw20.SegmAdds': WHATEVER THE INPUT: true; the input reads as it did. -/
def segmAddsSpec : ChangeSpec := { name := "segmAdds", fn := fun _ => fun
  | [d1, d2] => { results := [.lit (.bool true)], args := [d1, d2] }
  | _ => none }
def segmAddsRow : OpenClaim := { program := "ytpemabgfmnhhnaagreatdoor", sum := "45cf41cf532ea961acb5f1db12b27ff8dc202f42ed3aa069cf3131e427db14e3", func := "changeover/changeoverlaw20.SegmAdds", spec := "segmAdds", inPlace := ["slices.overlaps[changeover/api.Entry]"], unfollowed := true, recurses := true, named := ["unicode/utf8.first", "unicode/utf8.acceptRanges", "changeover/crc.table"], apart := false, laid := [("unicode/utf8.acceptRanges", laid_unicode_utf8_acceptRanges), ("changeover/crc.table", laid_changeover_crc_table), ("unicode/utf8.first", laid_unicode_utf8_first)] }
def SegmAddsSaid : Prop := segmAddsRow.holds Tryz.pinned (OpenSpec.ofChange segmAddsSpec)

/-- ITS FALSE NEIGHBOUR: 'it returns false'. Refute it at one input. -/
def segmAddsWrong : ChangeSpec := { name := "segmAdds", fn := fun _ => fun
  | [d1, d2] => { results := [.lit (.bool false)], args := [d1, d2] }
  | _ => none }
def SegmAddsWrongFalsely : Prop := segmAddsRow.holds Tryz.pinned (OpenSpec.ofChange segmAddsWrong)

/-- 'changeoverlaw20.SegmCut': WHATEVER THE INPUT: true; the input reads as it did. -/
def segmCutSpec : ChangeSpec := { name := "segmCut", fn := fun _ => fun
  | [d1, d2, d3] => { results := [.lit (.bool true)], args := [d1, d2, d3] }
  | _ => none }
def segmCutRow : OpenClaim := { program := "ytpemabgfmnhhnaagreatdoor", sum := "45cf41cf532ea961acb5f1db12b27ff8dc202f42ed3aa069cf3131e427db14e3", func := "changeover/changeoverlaw20.SegmCut", spec := "segmCut", inPlace := ["slices.overlaps[changeover/api.Entry]"], unfollowed := true, recurses := true, named := ["unicode/utf8.first", "unicode/utf8.acceptRanges", "changeover/crc.table"], apart := false, laid := [("unicode/utf8.acceptRanges", laid_unicode_utf8_acceptRanges), ("changeover/crc.table", laid_changeover_crc_table), ("unicode/utf8.first", laid_unicode_utf8_first)] }
def SegmCutSaid : Prop := segmCutRow.holds Tryz.pinned (OpenSpec.ofChange segmCutSpec)

/-- ITS FALSE NEIGHBOUR: 'it returns false'. Refute it at one input. -/
def segmCutWrong : ChangeSpec := { name := "segmCut", fn := fun _ => fun
  | [d1, d2, d3] => { results := [.lit (.bool false)], args := [d1, d2, d3] }
  | _ => none }
def SegmCutWrongFalsely : Prop := segmCutRow.holds Tryz.pinned (OpenSpec.ofChange segmCutWrong)

/-- 'changeoverlaw20.SegmReads': WHATEVER THE INPUT: true; the input reads as it did. -/
def segmReadsSpec : ChangeSpec := { name := "segmReads", fn := fun _ => fun
  | [d] => { results := [.lit (.bool true)], args := [d] }
  | _ => none }
def segmReadsRow : OpenClaim := { program := "ytpemabgfmnhhnaagreatdoor", sum := "45cf41cf532ea961acb5f1db12b27ff8dc202f42ed3aa069cf3131e427db14e3", func := "changeover/changeoverlaw20.SegmReads", spec := "segmReads", inPlace := ["slices.overlaps[changeover/api.Entry]"], unfollowed := true, recurses := true, named := ["unicode/utf8.first", "unicode/utf8.acceptRanges", "changeover/crc.table"], apart := false, laid := [("unicode/utf8.acceptRanges", laid_unicode_utf8_acceptRanges), ("changeover/crc.table", laid_changeover_crc_table), ("unicode/utf8.first", laid_unicode_utf8_first)] }
def SegmReadsSaid : Prop := segmReadsRow.holds Tryz.pinned (OpenSpec.ofChange segmReadsSpec)

/-- ITS FALSE NEIGHBOUR: 'it returns false'. Refute it at one input. -/
def segmReadsWrong : ChangeSpec := { name := "segmReads", fn := fun _ => fun
  | [d] => { results := [.lit (.bool false)], args := [d] }
  | _ => none }
def SegmReadsWrongFalsely : Prop := segmReadsRow.holds Tryz.pinned (OpenSpec.ofChange segmReadsWrong)

/-- 'changeoverlaw21.WalOpens': WHATEVER THE INPUT: true; the input reads as it did. -/
def walOpensSpec : ChangeSpec := { name := "walOpens", fn := fun _ => fun
  | [d1, d2, d3] => { results := [.lit (.bool true)], args := [d1, d2, d3] }
  | _ => none }
def walOpensRow : OpenClaim := { program := "ytpemabgfmnhhnaagreatdoor", sum := "45cf41cf532ea961acb5f1db12b27ff8dc202f42ed3aa069cf3131e427db14e3", func := "changeover/changeoverlaw21.WalOpens", spec := "walOpens", inPlace := ["maps.clone", "slices.overlaps[changeover/api.Entry]"], unfollowed := true, recurses := true, named := ["changeover/crc.table", "unicode/utf8.first", "unicode/utf8.acceptRanges"], apart := false, laid := [("unicode/utf8.acceptRanges", laid_unicode_utf8_acceptRanges), ("changeover/crc.table", laid_changeover_crc_table), ("unicode/utf8.first", laid_unicode_utf8_first)] }
def WalOpensSaid : Prop := walOpensRow.holds Tryz.pinned (OpenSpec.ofChange walOpensSpec)

/-- ITS FALSE NEIGHBOUR: 'it returns false'. Refute it at one input. -/
def walOpensWrong : ChangeSpec := { name := "walOpens", fn := fun _ => fun
  | [d1, d2, d3] => { results := [.lit (.bool false)], args := [d1, d2, d3] }
  | _ => none }
def WalOpensWrongFalsely : Prop := walOpensRow.holds Tryz.pinned (OpenSpec.ofChange walOpensWrong)

/-- 'changeoverlaw21.WalNobody': WHATEVER THE INPUT: true; the input reads as it did. -/
def walNobodySpec : ChangeSpec := { name := "walNobody", fn := fun _ => fun
  | [d1, d2] => { results := [.lit (.bool true)], args := [d1, d2] }
  | _ => none }
def walNobodyRow : OpenClaim := { program := "ytpemabgfmnhhnaagreatdoor", sum := "45cf41cf532ea961acb5f1db12b27ff8dc202f42ed3aa069cf3131e427db14e3", func := "changeover/changeoverlaw21.WalNobody", spec := "walNobody", inPlace := ["maps.clone", "slices.overlaps[changeover/api.Entry]"], unfollowed := true, recurses := true, named := ["changeover/crc.table", "unicode/utf8.first", "unicode/utf8.acceptRanges"], apart := false, laid := [("unicode/utf8.acceptRanges", laid_unicode_utf8_acceptRanges), ("changeover/crc.table", laid_changeover_crc_table), ("unicode/utf8.first", laid_unicode_utf8_first)] }
def WalNobodySaid : Prop := walNobodyRow.holds Tryz.pinned (OpenSpec.ofChange walNobodySpec)

/-- ITS FALSE NEIGHBOUR: 'it returns false'. Refute it at one input. -/
def walNobodyWrong : ChangeSpec := { name := "walNobody", fn := fun _ => fun
  | [d1, d2] => { results := [.lit (.bool false)], args := [d1, d2] }
  | _ => none }
def WalNobodyWrongFalsely : Prop := walNobodyRow.holds Tryz.pinned (OpenSpec.ofChange walNobodyWrong)

/-- 'changeoverlaw21.WalCrashes': WHATEVER THE INPUT: true; the input reads as it did. -/
def walCrashesSpec : ChangeSpec := { name := "walCrashes", fn := fun _ => fun
  | [d] => { results := [.lit (.bool true)], args := [d] }
  | _ => none }
def walCrashesRow : OpenClaim := { program := "ytpemabgfmnhhnaagreatdoor", sum := "45cf41cf532ea961acb5f1db12b27ff8dc202f42ed3aa069cf3131e427db14e3", func := "changeover/changeoverlaw21.WalCrashes", spec := "walCrashes", inPlace := ["maps.clone", "slices.overlaps[changeover/api.Entry]"], unfollowed := true, recurses := true, named := ["changeover/crc.table", "unicode/utf8.first", "unicode/utf8.acceptRanges"], apart := false, laid := [("unicode/utf8.acceptRanges", laid_unicode_utf8_acceptRanges), ("changeover/crc.table", laid_changeover_crc_table), ("unicode/utf8.first", laid_unicode_utf8_first)] }
def WalCrashesSaid : Prop := walCrashesRow.holds Tryz.pinned (OpenSpec.ofChange walCrashesSpec)

/-- ITS FALSE NEIGHBOUR: 'it returns false'. Refute it at one input. -/
def walCrashesWrong : ChangeSpec := { name := "walCrashes", fn := fun _ => fun
  | [d] => { results := [.lit (.bool false)], args := [d] }
  | _ => none }
def WalCrashesWrongFalsely : Prop := walCrashesRow.holds Tryz.pinned (OpenSpec.ofChange walCrashesWrong)

/- THE SECOND FORM. 'bulk': how many values and letters a reading holds, each counted each time it is reached (what is shared counts as often as it is met; a slice's spare places count too). A statement '..UptoSaid' is the law's where the arguments, and the package variables that the reading takes, are together of bulk at most 1048576: NARROWER than '..Said'. Prove '..Said' where nothing that the law and all that it calls make is longer than what came in: it says more and counts as full. Else prove '..UptoSaid'. A law counts once. -/
mutual
def uptoBulk {H : Type} : DataW H → Nat
  | .lit (.string bytes) => bytes.length + 1
  | .lit _ => 1
  | .nil => 1
  | .ptr d => uptoBulk d + 1
  | .slice elems spare => uptoBulkAll elems + uptoBulkAll spare + 1
  | .agg parts => uptoBulkAll parts + 1
  | .iface _ d => uptoBulk d + 1
  | .map entries => uptoBulkEntries entries + 1
  | .held _ => 1
def uptoBulkAll {H : Type} : List (DataW H) → Nat
  | [] => 0
  | d :: r => uptoBulk d + uptoBulkAll r
def uptoBulkEntries {H : Type} : List (Lit × DataW H) → Nat
  | [] => 0
  | x :: r => uptoBulkEntry x + uptoBulkEntries r
def uptoBulkEntry {H : Type} : Lit × DataW H → Nat
  | (.string bytes, d) => bytes.length + uptoBulk d + 1
  | (_, d) => uptoBulk d + 1
 end
def uptoSmall : (H : Type) → List (DataW H) → Bool := fun _ ds => decide (uptoBulkAll ds ≤ 1048576)
def OpenSpec.upto (s : _root_.Go.ChangeSpec) : _root_.Go.OpenSpec := { _root_.Go.OpenSpec.ofChange s with cond := some uptoSmall }

/-- 'changeoverlaw20.SegmHeads', WHERE WHAT IT READS IS OF BULK AT MOST 1048576: true; the input reads as it did. -/
def segmHeadsUptoRow : OpenClaim := { program := "ytpemabgfmnhhnaagreatdoor", sum := "45cf41cf532ea961acb5f1db12b27ff8dc202f42ed3aa069cf3131e427db14e3", func := "changeover/changeoverlaw20.SegmHeads", spec := "segmHeads", inPlace := ["slices.overlaps[changeover/api.Entry]"], unfollowed := true, recurses := true, named := ["unicode/utf8.first", "unicode/utf8.acceptRanges", "changeover/crc.table"], apart := false, laid := [("unicode/utf8.acceptRanges", laid_unicode_utf8_acceptRanges), ("changeover/crc.table", laid_changeover_crc_table), ("unicode/utf8.first", laid_unicode_utf8_first)], narrowed := true }
def SegmHeadsUptoSaid : Prop := segmHeadsUptoRow.holds Tryz.pinned (OpenSpec.upto segmHeadsSpec)

/-- 'changeoverlaw20.SegmAdds', WHERE WHAT IT READS IS OF BULK AT MOST 1048576: true; the input reads as it did. -/
def segmAddsUptoRow : OpenClaim := { program := "ytpemabgfmnhhnaagreatdoor", sum := "45cf41cf532ea961acb5f1db12b27ff8dc202f42ed3aa069cf3131e427db14e3", func := "changeover/changeoverlaw20.SegmAdds", spec := "segmAdds", inPlace := ["slices.overlaps[changeover/api.Entry]"], unfollowed := true, recurses := true, named := ["unicode/utf8.first", "unicode/utf8.acceptRanges", "changeover/crc.table"], apart := false, laid := [("unicode/utf8.acceptRanges", laid_unicode_utf8_acceptRanges), ("changeover/crc.table", laid_changeover_crc_table), ("unicode/utf8.first", laid_unicode_utf8_first)], narrowed := true }
def SegmAddsUptoSaid : Prop := segmAddsUptoRow.holds Tryz.pinned (OpenSpec.upto segmAddsSpec)

/-- 'changeoverlaw20.SegmCut', WHERE WHAT IT READS IS OF BULK AT MOST 1048576: true; the input reads as it did. -/
def segmCutUptoRow : OpenClaim := { program := "ytpemabgfmnhhnaagreatdoor", sum := "45cf41cf532ea961acb5f1db12b27ff8dc202f42ed3aa069cf3131e427db14e3", func := "changeover/changeoverlaw20.SegmCut", spec := "segmCut", inPlace := ["slices.overlaps[changeover/api.Entry]"], unfollowed := true, recurses := true, named := ["unicode/utf8.first", "unicode/utf8.acceptRanges", "changeover/crc.table"], apart := false, laid := [("unicode/utf8.acceptRanges", laid_unicode_utf8_acceptRanges), ("changeover/crc.table", laid_changeover_crc_table), ("unicode/utf8.first", laid_unicode_utf8_first)], narrowed := true }
def SegmCutUptoSaid : Prop := segmCutUptoRow.holds Tryz.pinned (OpenSpec.upto segmCutSpec)

/-- 'changeoverlaw20.SegmReads', WHERE WHAT IT READS IS OF BULK AT MOST 1048576: true; the input reads as it did. -/
def segmReadsUptoRow : OpenClaim := { program := "ytpemabgfmnhhnaagreatdoor", sum := "45cf41cf532ea961acb5f1db12b27ff8dc202f42ed3aa069cf3131e427db14e3", func := "changeover/changeoverlaw20.SegmReads", spec := "segmReads", inPlace := ["slices.overlaps[changeover/api.Entry]"], unfollowed := true, recurses := true, named := ["unicode/utf8.first", "unicode/utf8.acceptRanges", "changeover/crc.table"], apart := false, laid := [("unicode/utf8.acceptRanges", laid_unicode_utf8_acceptRanges), ("changeover/crc.table", laid_changeover_crc_table), ("unicode/utf8.first", laid_unicode_utf8_first)], narrowed := true }
def SegmReadsUptoSaid : Prop := segmReadsUptoRow.holds Tryz.pinned (OpenSpec.upto segmReadsSpec)

/-- 'changeoverlaw21.WalOpens', WHERE WHAT IT READS IS OF BULK AT MOST 1048576: true; the input reads as it did. -/
def walOpensUptoRow : OpenClaim := { program := "ytpemabgfmnhhnaagreatdoor", sum := "45cf41cf532ea961acb5f1db12b27ff8dc202f42ed3aa069cf3131e427db14e3", func := "changeover/changeoverlaw21.WalOpens", spec := "walOpens", inPlace := ["maps.clone", "slices.overlaps[changeover/api.Entry]"], unfollowed := true, recurses := true, named := ["changeover/crc.table", "unicode/utf8.first", "unicode/utf8.acceptRanges"], apart := false, laid := [("unicode/utf8.acceptRanges", laid_unicode_utf8_acceptRanges), ("changeover/crc.table", laid_changeover_crc_table), ("unicode/utf8.first", laid_unicode_utf8_first)], narrowed := true }
def WalOpensUptoSaid : Prop := walOpensUptoRow.holds Tryz.pinned (OpenSpec.upto walOpensSpec)

/-- 'changeoverlaw21.WalNobody', WHERE WHAT IT READS IS OF BULK AT MOST 1048576: true; the input reads as it did. -/
def walNobodyUptoRow : OpenClaim := { program := "ytpemabgfmnhhnaagreatdoor", sum := "45cf41cf532ea961acb5f1db12b27ff8dc202f42ed3aa069cf3131e427db14e3", func := "changeover/changeoverlaw21.WalNobody", spec := "walNobody", inPlace := ["maps.clone", "slices.overlaps[changeover/api.Entry]"], unfollowed := true, recurses := true, named := ["changeover/crc.table", "unicode/utf8.first", "unicode/utf8.acceptRanges"], apart := false, laid := [("unicode/utf8.acceptRanges", laid_unicode_utf8_acceptRanges), ("changeover/crc.table", laid_changeover_crc_table), ("unicode/utf8.first", laid_unicode_utf8_first)], narrowed := true }
def WalNobodyUptoSaid : Prop := walNobodyUptoRow.holds Tryz.pinned (OpenSpec.upto walNobodySpec)

/-- 'changeoverlaw21.WalCrashes', WHERE WHAT IT READS IS OF BULK AT MOST 1048576: true; the input reads as it did. -/
def walCrashesUptoRow : OpenClaim := { program := "ytpemabgfmnhhnaagreatdoor", sum := "45cf41cf532ea961acb5f1db12b27ff8dc202f42ed3aa069cf3131e427db14e3", func := "changeover/changeoverlaw21.WalCrashes", spec := "walCrashes", inPlace := ["maps.clone", "slices.overlaps[changeover/api.Entry]"], unfollowed := true, recurses := true, named := ["changeover/crc.table", "unicode/utf8.first", "unicode/utf8.acceptRanges"], apart := false, laid := [("unicode/utf8.acceptRanges", laid_unicode_utf8_acceptRanges), ("changeover/crc.table", laid_changeover_crc_table), ("unicode/utf8.first", laid_unicode_utf8_first)], narrowed := true }
def WalCrashesUptoSaid : Prop := walCrashesUptoRow.holds Tryz.pinned (OpenSpec.upto walCrashesSpec)

end Rows
end Go.Proofs.YtpemabgfmnhhnaaGreatDoor

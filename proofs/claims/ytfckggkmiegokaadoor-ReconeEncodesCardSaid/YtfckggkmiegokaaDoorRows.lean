/-
  NARROWER THAN 'FOR EVERY INPUT', by the rows' own cells (each row's printed sentence says how): ReconeChecks: laid · EntryLists: laid · EntryChecks: laid · ReconeEncodes: laid.
  DERIVED. THE GIVEN ROWS OF THIS SEAT. 4 by the template 'for every input the law returns true; each argument reads behind the call as it read before'; 0 by the template 'total and deterministic' (their statements: YtfckggkmiegokaaDoorTotals.lean).
  GIVEN WITH THE SEED: the statements are not yours to turn. If you find one false, say at which input.
  Laid BY PROGRAM, IN A SANDBOX (cutbox-rows.mjs): the forced cells as the released guide's own fill.sh prints them over the translation f6058106f401a5b7… (all of the seat's roots in one cut). By AI agents, Wed Nov 11 2026. No macro, syntax, notation, axiom, sorry.
-/
import Derived.Test.YtfckggkmiegokaaDoorChecked
import GoSem.PinnedTables
import GoSem.Claim
import GoSem.ClaimJoined
import GoSem.ClaimMapViews
import Derived.JoinedTies
import Derived.KernelRfl
namespace Go.Proofs.YtfckggkmiegokaaDoor
/- THE CELL 'sum', in the pinned program and in every row, IS THE sha256 OF THE DUMP (.gsa) THAT YtfckggkmiegokaaDoorProg.lean LOADS. Nothing in Lean hashes anything: it is a label: what it is worth is what the hold of that sum in a sandbox is worth. -/
noncomputable def Tryd.pinned : Pinned := { name := "ytfckggkmiegokaadoor", sum := "f6058106f401a5b70ccb3d093ced4662c22ad3a9fb2e007e9560f618bc6ad1f4", checked := Tryd.checked }
namespace Rows
def none {H : Type} : Left H := { results := [], args := [] }

/- WHAT THE LISTED PACKAGE-LEVEL VARIABLES READ AS WHEN THE CALL BEGINS. Each datum BY PROGRAM (the guide's laid-datum.mjs) off the statement by which the dump's own 'gosem.cut.vars' lays the variable. In a bare row this is a premise. The card (YtfckggkmiegokaaDoorCards.lean) ties it to the program's text. -/
def laid_unicode_utf8_acceptRanges {H : Type} : DataW H := .agg [.agg [.lit (.int .u8 128), .lit (.int .u8 191)], .agg [.lit (.int .u8 160), .lit (.int .u8 191)], .agg [.lit (.int .u8 128), .lit (.int .u8 159)], .agg [.lit (.int .u8 144), .lit (.int .u8 191)], .agg [.lit (.int .u8 128), .lit (.int .u8 143)], .agg [.lit (.int .u8 0), .lit (.int .u8 0)], .agg [.lit (.int .u8 0), .lit (.int .u8 0)], .agg [.lit (.int .u8 0), .lit (.int .u8 0)], .agg [.lit (.int .u8 0), .lit (.int .u8 0)], .agg [.lit (.int .u8 0), .lit (.int .u8 0)], .agg [.lit (.int .u8 0), .lit (.int .u8 0)], .agg [.lit (.int .u8 0), .lit (.int .u8 0)], .agg [.lit (.int .u8 0), .lit (.int .u8 0)], .agg [.lit (.int .u8 0), .lit (.int .u8 0)], .agg [.lit (.int .u8 0), .lit (.int .u8 0)], .agg [.lit (.int .u8 0), .lit (.int .u8 0)]]
/-- One of Go's own tables, pinned by name: the form's constant. -/
def laid_unicode_utf8_first : DataW Unit := Go.Pinned.utf8First

/-- 'changeoverlaw16.ReconeChecks': WHATEVER THE INPUT: true; the input reads as it did. -/
def reconeChecksSpec : ChangeSpec := { name := "reconeChecks", fn := fun _ => fun
  | [d1, d2] => { results := [.lit (.bool true)], args := [d1, d2] }
  | _ => none }
def reconeChecksRow : OpenClaim := { program := "ytfckggkmiegokaadoor", sum := "f6058106f401a5b70ccb3d093ced4662c22ad3a9fb2e007e9560f618bc6ad1f4", func := "changeover/changeoverlaw16.ReconeChecks", spec := "reconeChecks", unfollowed := true, recurses := true, named := ["unicode/utf8.first", "unicode/utf8.acceptRanges"], apart := false, laid := [("unicode/utf8.acceptRanges", laid_unicode_utf8_acceptRanges), ("unicode/utf8.first", laid_unicode_utf8_first)] }
def ReconeChecksSaid : Prop := reconeChecksRow.holds Tryd.pinned (OpenSpec.ofChange reconeChecksSpec)

/-- ITS FALSE NEIGHBOUR: 'it returns false'. Refute it at one input. -/
def reconeChecksWrong : ChangeSpec := { name := "reconeChecks", fn := fun _ => fun
  | [d1, d2] => { results := [.lit (.bool false)], args := [d1, d2] }
  | _ => none }
def ReconeChecksWrongFalsely : Prop := reconeChecksRow.holds Tryd.pinned (OpenSpec.ofChange reconeChecksWrong)

/-- 'changeoverlaw12.EntryLists': WHATEVER THE INPUT: true; the input reads as it did. -/
def entryListsSpec : ChangeSpec := { name := "entryLists", fn := fun _ => fun
  | [d1, d2, d3] => { results := [.lit (.bool true)], args := [d1, d2, d3] }
  | _ => none }
def entryListsRow : OpenClaim := { program := "ytfckggkmiegokaadoor", sum := "f6058106f401a5b70ccb3d093ced4662c22ad3a9fb2e007e9560f618bc6ad1f4", func := "changeover/changeoverlaw12.EntryLists", spec := "entryLists", inPlace := ["slices.overlaps[changeover/api.Entry]"], unfollowed := true, recurses := true, named := ["unicode/utf8.first", "unicode/utf8.acceptRanges"], apart := false, laid := [("unicode/utf8.acceptRanges", laid_unicode_utf8_acceptRanges), ("unicode/utf8.first", laid_unicode_utf8_first)] }
def EntryListsSaid : Prop := entryListsRow.holds Tryd.pinned (OpenSpec.ofChange entryListsSpec)

/-- ITS FALSE NEIGHBOUR: 'it returns false'. Refute it at one input. -/
def entryListsWrong : ChangeSpec := { name := "entryLists", fn := fun _ => fun
  | [d1, d2, d3] => { results := [.lit (.bool false)], args := [d1, d2, d3] }
  | _ => none }
def EntryListsWrongFalsely : Prop := entryListsRow.holds Tryd.pinned (OpenSpec.ofChange entryListsWrong)

/-- 'changeoverlaw12.EntryChecks': WHATEVER THE INPUT: true; the input reads as it did. -/
def entryChecksSpec : ChangeSpec := { name := "entryChecks", fn := fun _ => fun
  | [d1, d2] => { results := [.lit (.bool true)], args := [d1, d2] }
  | _ => none }
def entryChecksRow : OpenClaim := { program := "ytfckggkmiegokaadoor", sum := "f6058106f401a5b70ccb3d093ced4662c22ad3a9fb2e007e9560f618bc6ad1f4", func := "changeover/changeoverlaw12.EntryChecks", spec := "entryChecks", inPlace := ["slices.overlaps[changeover/api.Entry]"], unfollowed := true, recurses := true, named := ["unicode/utf8.first", "unicode/utf8.acceptRanges"], apart := false, laid := [("unicode/utf8.acceptRanges", laid_unicode_utf8_acceptRanges), ("unicode/utf8.first", laid_unicode_utf8_first)] }
def EntryChecksSaid : Prop := entryChecksRow.holds Tryd.pinned (OpenSpec.ofChange entryChecksSpec)

/-- ITS FALSE NEIGHBOUR: 'it returns false'. Refute it at one input. -/
def entryChecksWrong : ChangeSpec := { name := "entryChecks", fn := fun _ => fun
  | [d1, d2] => { results := [.lit (.bool false)], args := [d1, d2] }
  | _ => none }
def EntryChecksWrongFalsely : Prop := entryChecksRow.holds Tryd.pinned (OpenSpec.ofChange entryChecksWrong)

/-- 'changeoverlaw16.ReconeEncodes': WHATEVER THE INPUT: true; the input reads as it did. -/
def reconeEncodesSpec : ChangeSpec := { name := "reconeEncodes", fn := fun _ => fun
  | [d] => { results := [.lit (.bool true)], args := [d] }
  | _ => none }
def reconeEncodesRow : OpenClaim := { program := "ytfckggkmiegokaadoor", sum := "f6058106f401a5b70ccb3d093ced4662c22ad3a9fb2e007e9560f618bc6ad1f4", func := "changeover/changeoverlaw16.ReconeEncodes", spec := "reconeEncodes", unfollowed := true, recurses := true, named := ["unicode/utf8.first", "unicode/utf8.acceptRanges"], apart := false, laid := [("unicode/utf8.acceptRanges", laid_unicode_utf8_acceptRanges), ("unicode/utf8.first", laid_unicode_utf8_first)] }
def ReconeEncodesSaid : Prop := reconeEncodesRow.holds Tryd.pinned (OpenSpec.ofChange reconeEncodesSpec)

/-- ITS FALSE NEIGHBOUR: 'it returns false'. Refute it at one input. -/
def reconeEncodesWrong : ChangeSpec := { name := "reconeEncodes", fn := fun _ => fun
  | [d] => { results := [.lit (.bool false)], args := [d] }
  | _ => none }
def ReconeEncodesWrongFalsely : Prop := reconeEncodesRow.holds Tryd.pinned (OpenSpec.ofChange reconeEncodesWrong)

/- THE SECOND FORM. 'bulk': how many values and letters a reading holds, each counted each time it is reached (what is shared counts as often as it is met; a slice's spare places count too). A statement '..UptoSaid' is the law's where the arguments, and the package variables that the reading takes, are together of bulk at most 1048576: NARROWER than '..Said'. Prove '..Said' where nothing that the law and all that it calls make is longer than what came in: it says more and counts as full. Else prove '..UptoSaid'. A law counts once. -/
mutual
def uptoBulk {H : Type} : DataW H → Nat
  | .lit (.string bytes) => bytes.length + 1
  | .lit _ => 1
  | .nil => 1
  | .ptr d => uptoBulk d + 1
  | .slice elems spare => uptoBulkAll elems + uptoBulkAll spare + 1
  | .agg parts => uptoBulkAll parts + 1
  | .iface _ d => uptoBulk d + 1
  | .map entries => uptoBulkEntries entries + 1
  | .held _ => 1
def uptoBulkAll {H : Type} : List (DataW H) → Nat
  | [] => 0
  | d :: r => uptoBulk d + uptoBulkAll r
def uptoBulkEntries {H : Type} : List (Lit × DataW H) → Nat
  | [] => 0
  | x :: r => uptoBulkEntry x + uptoBulkEntries r
def uptoBulkEntry {H : Type} : Lit × DataW H → Nat
  | (.string bytes, d) => bytes.length + uptoBulk d + 1
  | (_, d) => uptoBulk d + 1
 end
def uptoSmall : (H : Type) → List (DataW H) → Bool := fun _ ds => decide (uptoBulkAll ds ≤ 1048576)
def OpenSpec.upto (s : _root_.Go.ChangeSpec) : _root_.Go.OpenSpec := { _root_.Go.OpenSpec.ofChange s with cond := some uptoSmall }

/-- 'changeoverlaw16.ReconeChecks', WHERE WHAT IT READS IS OF BULK AT MOST 1048576: true; the input reads as it did. -/
def reconeChecksUptoRow : OpenClaim := { program := "ytfckggkmiegokaadoor", sum := "f6058106f401a5b70ccb3d093ced4662c22ad3a9fb2e007e9560f618bc6ad1f4", func := "changeover/changeoverlaw16.ReconeChecks", spec := "reconeChecks", unfollowed := true, recurses := true, named := ["unicode/utf8.first", "unicode/utf8.acceptRanges"], apart := false, laid := [("unicode/utf8.acceptRanges", laid_unicode_utf8_acceptRanges), ("unicode/utf8.first", laid_unicode_utf8_first)], narrowed := true }
def ReconeChecksUptoSaid : Prop := reconeChecksUptoRow.holds Tryd.pinned (OpenSpec.upto reconeChecksSpec)

/-- 'changeoverlaw12.EntryLists', WHERE WHAT IT READS IS OF BULK AT MOST 1048576: true; the input reads as it did. -/
def entryListsUptoRow : OpenClaim := { program := "ytfckggkmiegokaadoor", sum := "f6058106f401a5b70ccb3d093ced4662c22ad3a9fb2e007e9560f618bc6ad1f4", func := "changeover/changeoverlaw12.EntryLists", spec := "entryLists", inPlace := ["slices.overlaps[changeover/api.Entry]"], unfollowed := true, recurses := true, named := ["unicode/utf8.first", "unicode/utf8.acceptRanges"], apart := false, laid := [("unicode/utf8.acceptRanges", laid_unicode_utf8_acceptRanges), ("unicode/utf8.first", laid_unicode_utf8_first)], narrowed := true }
def EntryListsUptoSaid : Prop := entryListsUptoRow.holds Tryd.pinned (OpenSpec.upto entryListsSpec)

/-- 'changeoverlaw12.EntryChecks', WHERE WHAT IT READS IS OF BULK AT MOST 1048576: true; the input reads as it did. -/
def entryChecksUptoRow : OpenClaim := { program := "ytfckggkmiegokaadoor", sum := "f6058106f401a5b70ccb3d093ced4662c22ad3a9fb2e007e9560f618bc6ad1f4", func := "changeover/changeoverlaw12.EntryChecks", spec := "entryChecks", inPlace := ["slices.overlaps[changeover/api.Entry]"], unfollowed := true, recurses := true, named := ["unicode/utf8.first", "unicode/utf8.acceptRanges"], apart := false, laid := [("unicode/utf8.acceptRanges", laid_unicode_utf8_acceptRanges), ("unicode/utf8.first", laid_unicode_utf8_first)], narrowed := true }
def EntryChecksUptoSaid : Prop := entryChecksUptoRow.holds Tryd.pinned (OpenSpec.upto entryChecksSpec)

/-- 'changeoverlaw16.ReconeEncodes', WHERE WHAT IT READS IS OF BULK AT MOST 1048576: true; the input reads as it did. -/
def reconeEncodesUptoRow : OpenClaim := { program := "ytfckggkmiegokaadoor", sum := "f6058106f401a5b70ccb3d093ced4662c22ad3a9fb2e007e9560f618bc6ad1f4", func := "changeover/changeoverlaw16.ReconeEncodes", spec := "reconeEncodes", unfollowed := true, recurses := true, named := ["unicode/utf8.first", "unicode/utf8.acceptRanges"], apart := false, laid := [("unicode/utf8.acceptRanges", laid_unicode_utf8_acceptRanges), ("unicode/utf8.first", laid_unicode_utf8_first)], narrowed := true }
def ReconeEncodesUptoSaid : Prop := reconeEncodesUptoRow.holds Tryd.pinned (OpenSpec.upto reconeEncodesSpec)

end Rows
end Go.Proofs.YtfckggkmiegokaaDoor

/-
  NARROWER THAN 'FOR EVERY INPUT', by the rows' own cells (each row's printed sentence says how): AppRuns: laid · AppOnce: laid · AppMigrated: laid.
  DERIVED. THE GIVEN ROWS OF THIS SEAT. 3 by the template 'for every input the law returns true; each argument reads behind the call as it read before'; 0 by the template 'total and deterministic' (their statements: YtgflmkhfachlcaaGreatDoorTotals.lean).
  GIVEN WITH THE SEED: the statements are not yours to turn. If you find one false, say at which input.
  Laid BY PROGRAM, IN A SANDBOX (cutbox-rows.mjs): the forced cells as the released guide's own fill.sh prints them over the translation 7041ffb2eaacc9d5… (all of the seat's roots in one cut). By AI agents, Wed Nov 11 2026. No macro, syntax, notation, axiom, sorry.
-/
import Derived.Test.YtgflmkhfachlcaaGreatDoorChecked
import GoSem.PinnedTables
import GoSem.Claim
import GoSem.ClaimJoined
import GoSem.ClaimMapViews
import Derived.JoinedTies
import Derived.KernelRfl
namespace Go.Proofs.YtgflmkhfachlcaaGreatDoor
/- THE CELL 'sum', in the pinned program and in every row, IS THE sha256 OF THE DUMP (.gsa) THAT YtgflmkhfachlcaaGreatDoorProg.lean LOADS. Nothing in Lean hashes anything: it is a label: what it is worth is what the hold of that sum in a sandbox is worth. -/
noncomputable def Tryz.pinned : Pinned := { name := "ytgflmkhfachlcaagreatdoor", sum := "7041ffb2eaacc9d5a9c80230400d48744732f4d678453e98043b59c6352c02f1", checked := Tryz.checked }
namespace Rows
def none {H : Type} : Left H := { results := [], args := [] }

/- WHAT THE LISTED PACKAGE-LEVEL VARIABLES READ AS WHEN THE CALL BEGINS. Each datum BY PROGRAM (the guide's laid-datum.mjs) off the statement by which the dump's own 'gosem.cut.vars' lays the variable. In a bare row this is a premise. The card (YtgflmkhfachlcaaGreatDoorCards.lean) ties it to the program's text. -/
def laid_unicode_utf8_acceptRanges {H : Type} : DataW H := .agg [.agg [.lit (.int .u8 128), .lit (.int .u8 191)], .agg [.lit (.int .u8 160), .lit (.int .u8 191)], .agg [.lit (.int .u8 128), .lit (.int .u8 159)], .agg [.lit (.int .u8 144), .lit (.int .u8 191)], .agg [.lit (.int .u8 128), .lit (.int .u8 143)], .agg [.lit (.int .u8 0), .lit (.int .u8 0)], .agg [.lit (.int .u8 0), .lit (.int .u8 0)], .agg [.lit (.int .u8 0), .lit (.int .u8 0)], .agg [.lit (.int .u8 0), .lit (.int .u8 0)], .agg [.lit (.int .u8 0), .lit (.int .u8 0)], .agg [.lit (.int .u8 0), .lit (.int .u8 0)], .agg [.lit (.int .u8 0), .lit (.int .u8 0)], .agg [.lit (.int .u8 0), .lit (.int .u8 0)], .agg [.lit (.int .u8 0), .lit (.int .u8 0)], .agg [.lit (.int .u8 0), .lit (.int .u8 0)], .agg [.lit (.int .u8 0), .lit (.int .u8 0)]]
/-- One of Go's own tables, pinned by name: the form's constant. -/
def laid_unicode_utf8_first : DataW Unit := Go.Pinned.utf8First

/-- 'changeoverlaw28.AppRuns': WHATEVER THE INPUT: true; the input reads as it did. -/
def appRunsSpec : ChangeSpec := { name := "appRuns", fn := fun _ => fun
  | [d1, d2] => { results := [.lit (.bool true)], args := [d1, d2] }
  | _ => none }
def appRunsRow : OpenClaim := { program := "ytgflmkhfachlcaagreatdoor", sum := "7041ffb2eaacc9d5a9c80230400d48744732f4d678453e98043b59c6352c02f1", func := "changeover/changeoverlaw28.AppRuns", spec := "appRuns", inPlace := ["internal/bytealg.abigen_runtime_cmpstring", "slices.overlaps[changeover/api.Pair]", "slices.overlaps[changeover/api.Session]"], unfollowed := true, recurses := true, named := ["unicode/utf8.first", "unicode/utf8.acceptRanges"], apart := false, laid := [("unicode/utf8.acceptRanges", laid_unicode_utf8_acceptRanges), ("unicode/utf8.first", laid_unicode_utf8_first)] }
def AppRunsSaid : Prop := appRunsRow.holds Tryz.pinned (OpenSpec.ofChange appRunsSpec)

/-- ITS FALSE NEIGHBOUR: 'it returns false'. Refute it at one input. -/
def appRunsWrong : ChangeSpec := { name := "appRuns", fn := fun _ => fun
  | [d1, d2] => { results := [.lit (.bool false)], args := [d1, d2] }
  | _ => none }
def AppRunsWrongFalsely : Prop := appRunsRow.holds Tryz.pinned (OpenSpec.ofChange appRunsWrong)

/-- 'changeoverlaw28.AppOnce': WHATEVER THE INPUT: true; the input reads as it did. -/
def appOnceSpec : ChangeSpec := { name := "appOnce", fn := fun _ => fun
  | [d1, d2, d3] => { results := [.lit (.bool true)], args := [d1, d2, d3] }
  | _ => none }
def appOnceRow : OpenClaim := { program := "ytgflmkhfachlcaagreatdoor", sum := "7041ffb2eaacc9d5a9c80230400d48744732f4d678453e98043b59c6352c02f1", func := "changeover/changeoverlaw28.AppOnce", spec := "appOnce", inPlace := ["internal/bytealg.abigen_runtime_cmpstring", "slices.overlaps[changeover/api.Pair]", "slices.overlaps[changeover/api.Session]"], unfollowed := true, recurses := true, named := ["unicode/utf8.first", "unicode/utf8.acceptRanges"], apart := false, laid := [("unicode/utf8.acceptRanges", laid_unicode_utf8_acceptRanges), ("unicode/utf8.first", laid_unicode_utf8_first)] }
def AppOnceSaid : Prop := appOnceRow.holds Tryz.pinned (OpenSpec.ofChange appOnceSpec)

/-- ITS FALSE NEIGHBOUR: 'it returns false'. Refute it at one input. -/
def appOnceWrong : ChangeSpec := { name := "appOnce", fn := fun _ => fun
  | [d1, d2, d3] => { results := [.lit (.bool false)], args := [d1, d2, d3] }
  | _ => none }
def AppOnceWrongFalsely : Prop := appOnceRow.holds Tryz.pinned (OpenSpec.ofChange appOnceWrong)

/-- 'changeoverlaw28.AppMigrated': WHATEVER THE INPUT: true; the input reads as it did. -/
def appMigratedSpec : ChangeSpec := { name := "appMigrated", fn := fun _ => fun
  | [d1, d2] => { results := [.lit (.bool true)], args := [d1, d2] }
  | _ => none }
def appMigratedRow : OpenClaim := { program := "ytgflmkhfachlcaagreatdoor", sum := "7041ffb2eaacc9d5a9c80230400d48744732f4d678453e98043b59c6352c02f1", func := "changeover/changeoverlaw28.AppMigrated", spec := "appMigrated", inPlace := ["internal/bytealg.abigen_runtime_cmpstring", "slices.overlaps[changeover/api.Pair]", "slices.overlaps[changeover/api.Session]"], unfollowed := true, recurses := true, named := ["unicode/utf8.first", "unicode/utf8.acceptRanges"], apart := false, laid := [("unicode/utf8.acceptRanges", laid_unicode_utf8_acceptRanges), ("unicode/utf8.first", laid_unicode_utf8_first)] }
def AppMigratedSaid : Prop := appMigratedRow.holds Tryz.pinned (OpenSpec.ofChange appMigratedSpec)

/-- ITS FALSE NEIGHBOUR: 'it returns false'. Refute it at one input. -/
def appMigratedWrong : ChangeSpec := { name := "appMigrated", fn := fun _ => fun
  | [d1, d2] => { results := [.lit (.bool false)], args := [d1, d2] }
  | _ => none }
def AppMigratedWrongFalsely : Prop := appMigratedRow.holds Tryz.pinned (OpenSpec.ofChange appMigratedWrong)

/- THE SECOND FORM. 'bulk': how many values and letters a reading holds, each counted each time it is reached (what is shared counts as often as it is met; a slice's spare places count too). A statement '..UptoSaid' is the law's where the arguments, and the package variables that the reading takes, are together of bulk at most 1048576: NARROWER than '..Said'. Prove '..Said' where nothing that the law and all that it calls make is longer than what came in: it says more and counts as full. Else prove '..UptoSaid'. A law counts once. -/
mutual
def uptoBulk {H : Type} : DataW H → Nat
  | .lit (.string bytes) => bytes.length + 1
  | .lit _ => 1
  | .nil => 1
  | .ptr d => uptoBulk d + 1
  | .slice elems spare => uptoBulkAll elems + uptoBulkAll spare + 1
  | .agg parts => uptoBulkAll parts + 1
  | .iface _ d => uptoBulk d + 1
  | .map entries => uptoBulkEntries entries + 1
  | .held _ => 1
def uptoBulkAll {H : Type} : List (DataW H) → Nat
  | [] => 0
  | d :: r => uptoBulk d + uptoBulkAll r
def uptoBulkEntries {H : Type} : List (Lit × DataW H) → Nat
  | [] => 0
  | x :: r => uptoBulkEntry x + uptoBulkEntries r
def uptoBulkEntry {H : Type} : Lit × DataW H → Nat
  | (.string bytes, d) => bytes.length + uptoBulk d + 1
  | (_, d) => uptoBulk d + 1
 end
def uptoSmall : (H : Type) → List (DataW H) → Bool := fun _ ds => decide (uptoBulkAll ds ≤ 1048576)
def OpenSpec.upto (s : _root_.Go.ChangeSpec) : _root_.Go.OpenSpec := { _root_.Go.OpenSpec.ofChange s with cond := some uptoSmall }

/-- 'changeoverlaw28.AppRuns', WHERE WHAT IT READS IS OF BULK AT MOST 1048576: true; the input reads as it did. -/
def appRunsUptoRow : OpenClaim := { program := "ytgflmkhfachlcaagreatdoor", sum := "7041ffb2eaacc9d5a9c80230400d48744732f4d678453e98043b59c6352c02f1", func := "changeover/changeoverlaw28.AppRuns", spec := "appRuns", inPlace := ["internal/bytealg.abigen_runtime_cmpstring", "slices.overlaps[changeover/api.Pair]", "slices.overlaps[changeover/api.Session]"], unfollowed := true, recurses := true, named := ["unicode/utf8.first", "unicode/utf8.acceptRanges"], apart := false, laid := [("unicode/utf8.acceptRanges", laid_unicode_utf8_acceptRanges), ("unicode/utf8.first", laid_unicode_utf8_first)], narrowed := true }
def AppRunsUptoSaid : Prop := appRunsUptoRow.holds Tryz.pinned (OpenSpec.upto appRunsSpec)

/-- 'changeoverlaw28.AppOnce', WHERE WHAT IT READS IS OF BULK AT MOST 1048576: true; the input reads as it did. -/
def appOnceUptoRow : OpenClaim := { program := "ytgflmkhfachlcaagreatdoor", sum := "7041ffb2eaacc9d5a9c80230400d48744732f4d678453e98043b59c6352c02f1", func := "changeover/changeoverlaw28.AppOnce", spec := "appOnce", inPlace := ["internal/bytealg.abigen_runtime_cmpstring", "slices.overlaps[changeover/api.Pair]", "slices.overlaps[changeover/api.Session]"], unfollowed := true, recurses := true, named := ["unicode/utf8.first", "unicode/utf8.acceptRanges"], apart := false, laid := [("unicode/utf8.acceptRanges", laid_unicode_utf8_acceptRanges), ("unicode/utf8.first", laid_unicode_utf8_first)], narrowed := true }
def AppOnceUptoSaid : Prop := appOnceUptoRow.holds Tryz.pinned (OpenSpec.upto appOnceSpec)

/-- 'changeoverlaw28.AppMigrated', WHERE WHAT IT READS IS OF BULK AT MOST 1048576: true; the input reads as it did. -/
def appMigratedUptoRow : OpenClaim := { program := "ytgflmkhfachlcaagreatdoor", sum := "7041ffb2eaacc9d5a9c80230400d48744732f4d678453e98043b59c6352c02f1", func := "changeover/changeoverlaw28.AppMigrated", spec := "appMigrated", inPlace := ["internal/bytealg.abigen_runtime_cmpstring", "slices.overlaps[changeover/api.Pair]", "slices.overlaps[changeover/api.Session]"], unfollowed := true, recurses := true, named := ["unicode/utf8.first", "unicode/utf8.acceptRanges"], apart := false, laid := [("unicode/utf8.acceptRanges", laid_unicode_utf8_acceptRanges), ("unicode/utf8.first", laid_unicode_utf8_first)], narrowed := true }
def AppMigratedUptoSaid : Prop := appMigratedUptoRow.holds Tryz.pinned (OpenSpec.upto appMigratedSpec)

end Rows
end Go.Proofs.YtgflmkhfachlcaaGreatDoor

/-
  NARROWER THAN 'FOR EVERY INPUT', by the rows' own cells (each row's printed sentence says how): SpecApp: laid · WindowMembers: laid · WindowOnce: laid · WindowApplies: laid · WitnessMore: laid · PropLearns: laid · PropFinds: laid.
  DERIVED. THE GIVEN ROWS OF THIS SEAT. 7 by the template 'for every input the law returns true; each argument reads behind the call as it read before'; 0 by the template 'total and deterministic' (their statements: YtmdeeokejdkceaaGreatDoorTotals.lean).
  GIVEN WITH THE SEED: the statements are not yours to turn. If you find one false, say at which input.
  Laid BY PROGRAM, IN A SANDBOX (cutbox-rows.mjs): the forced cells as the released guide's own fill.sh prints them over the translation 4ed18dd205d3d53e… (all of the seat's roots in one cut). By AI agents, Wed Nov 11 2026. No macro, syntax, notation, axiom, sorry.
-/
import Derived.Test.YtmdeeokejdkceaaGreatDoorChecked
import GoSem.PinnedTables
import GoSem.Claim
import GoSem.ClaimJoined
import GoSem.ClaimMapViews
import Derived.JoinedTies
import Derived.KernelRfl
namespace Go.Proofs.YtmdeeokejdkceaaGreatDoor
/- THE CELL 'sum', in the pinned program and in every row, IS THE sha256 OF THE DUMP (.gsa) THAT YtmdeeokejdkceaaGreatDoorProg.lean LOADS. Nothing in Lean hashes anything: it is a label: what it is worth is what the hold of that sum in a sandbox is worth. -/
noncomputable def Tryz.pinned : Pinned := { name := "ytmdeeokejdkceaagreatdoor", sum := "4ed18dd205d3d53e398c859b046739c96f8a68d46748106e23ff2e956d285db5", checked := Tryz.checked }
namespace Rows
def none {H : Type} : Left H := { results := [], args := [] }

/- WHAT THE LISTED PACKAGE-LEVEL VARIABLES READ AS WHEN THE CALL BEGINS. Each datum BY PROGRAM (the guide's laid-datum.mjs) off the statement by which the dump's own 'gosem.cut.vars' lays the variable. In a bare row this is a premise. The card (YtmdeeokejdkceaaGreatDoorCards.lean) ties it to the program's text. -/
def laid_unicode_utf8_acceptRanges {H : Type} : DataW H := .agg [.agg [.lit (.int .u8 128), .lit (.int .u8 191)], .agg [.lit (.int .u8 160), .lit (.int .u8 191)], .agg [.lit (.int .u8 128), .lit (.int .u8 159)], .agg [.lit (.int .u8 144), .lit (.int .u8 191)], .agg [.lit (.int .u8 128), .lit (.int .u8 143)], .agg [.lit (.int .u8 0), .lit (.int .u8 0)], .agg [.lit (.int .u8 0), .lit (.int .u8 0)], .agg [.lit (.int .u8 0), .lit (.int .u8 0)], .agg [.lit (.int .u8 0), .lit (.int .u8 0)], .agg [.lit (.int .u8 0), .lit (.int .u8 0)], .agg [.lit (.int .u8 0), .lit (.int .u8 0)], .agg [.lit (.int .u8 0), .lit (.int .u8 0)], .agg [.lit (.int .u8 0), .lit (.int .u8 0)], .agg [.lit (.int .u8 0), .lit (.int .u8 0)], .agg [.lit (.int .u8 0), .lit (.int .u8 0)], .agg [.lit (.int .u8 0), .lit (.int .u8 0)]]
/-- One of Go's own tables, pinned by name: the form's constant. -/
def laid_unicode_utf8_first : DataW Unit := Go.Pinned.utf8First

/-- 'changeoverlaw29.SpecApp': WHATEVER THE INPUT: true; the input reads as it did. -/
def specAppSpec : ChangeSpec := { name := "specApp", fn := fun _ => fun
  | [d] => { results := [.lit (.bool true)], args := [d] }
  | _ => none }
def specAppRow : OpenClaim := { program := "ytmdeeokejdkceaagreatdoor", sum := "4ed18dd205d3d53e398c859b046739c96f8a68d46748106e23ff2e956d285db5", func := "changeover/changeoverlaw29.SpecApp", spec := "specApp", inPlace := ["internal/bytealg.abigen_runtime_cmpstring", "slices.overlaps[changeover/api.Pair]", "slices.overlaps[changeover/api.Session]"], unfollowed := true, recurses := true, named := ["unicode/utf8.first", "unicode/utf8.acceptRanges"], plainKeys := false, apart := false, laid := [("unicode/utf8.acceptRanges", laid_unicode_utf8_acceptRanges), ("unicode/utf8.first", laid_unicode_utf8_first)] }
def SpecAppSaid : Prop := specAppRow.holds Tryz.pinned (OpenSpec.ofChange specAppSpec)

/-- ITS FALSE NEIGHBOUR: 'it returns false'. Refute it at one input. -/
def specAppWrong : ChangeSpec := { name := "specApp", fn := fun _ => fun
  | [d] => { results := [.lit (.bool false)], args := [d] }
  | _ => none }
def SpecAppWrongFalsely : Prop := specAppRow.holds Tryz.pinned (OpenSpec.ofChange specAppWrong)

/-- 'changeoverlaw30.WindowMembers': WHATEVER THE INPUT: true; the input reads as it did. -/
def windowMembersSpec : ChangeSpec := { name := "windowMembers", fn := fun _ => fun
  | [d1, d2, d3] => { results := [.lit (.bool true)], args := [d1, d2, d3] }
  | _ => none }
def windowMembersRow : OpenClaim := { program := "ytmdeeokejdkceaagreatdoor", sum := "4ed18dd205d3d53e398c859b046739c96f8a68d46748106e23ff2e956d285db5", func := "changeover/changeoverlaw30.WindowMembers", spec := "windowMembers", inPlace := ["slices.overlaps[int]", "internal/bytealg.abigen_runtime_cmpstring", "slices.overlaps[changeover/api.Pair]", "slices.overlaps[changeover/api.Session]"], unfollowed := true, recurses := true, named := ["unicode/utf8.first", "unicode/utf8.acceptRanges"], plainKeys := false, apart := false, laid := [("unicode/utf8.acceptRanges", laid_unicode_utf8_acceptRanges), ("unicode/utf8.first", laid_unicode_utf8_first)] }
def WindowMembersSaid : Prop := windowMembersRow.holds Tryz.pinned (OpenSpec.ofChange windowMembersSpec)

/-- ITS FALSE NEIGHBOUR: 'it returns false'. Refute it at one input. -/
def windowMembersWrong : ChangeSpec := { name := "windowMembers", fn := fun _ => fun
  | [d1, d2, d3] => { results := [.lit (.bool false)], args := [d1, d2, d3] }
  | _ => none }
def WindowMembersWrongFalsely : Prop := windowMembersRow.holds Tryz.pinned (OpenSpec.ofChange windowMembersWrong)

/-- 'changeoverlaw30.WindowOnce': WHATEVER THE INPUT: true; the input reads as it did. -/
def windowOnceSpec : ChangeSpec := { name := "windowOnce", fn := fun _ => fun
  | [d1, d2] => { results := [.lit (.bool true)], args := [d1, d2] }
  | _ => none }
def windowOnceRow : OpenClaim := { program := "ytmdeeokejdkceaagreatdoor", sum := "4ed18dd205d3d53e398c859b046739c96f8a68d46748106e23ff2e956d285db5", func := "changeover/changeoverlaw30.WindowOnce", spec := "windowOnce", inPlace := ["slices.overlaps[int]", "internal/bytealg.abigen_runtime_cmpstring", "slices.overlaps[changeover/api.Pair]", "slices.overlaps[changeover/api.Session]"], unfollowed := true, recurses := true, named := ["unicode/utf8.first", "unicode/utf8.acceptRanges"], plainKeys := false, apart := false, laid := [("unicode/utf8.acceptRanges", laid_unicode_utf8_acceptRanges), ("unicode/utf8.first", laid_unicode_utf8_first)] }
def WindowOnceSaid : Prop := windowOnceRow.holds Tryz.pinned (OpenSpec.ofChange windowOnceSpec)

/-- ITS FALSE NEIGHBOUR: 'it returns false'. Refute it at one input. -/
def windowOnceWrong : ChangeSpec := { name := "windowOnce", fn := fun _ => fun
  | [d1, d2] => { results := [.lit (.bool false)], args := [d1, d2] }
  | _ => none }
def WindowOnceWrongFalsely : Prop := windowOnceRow.holds Tryz.pinned (OpenSpec.ofChange windowOnceWrong)

/-- 'changeoverlaw30.WindowApplies': WHATEVER THE INPUT: true; the input reads as it did. -/
def windowAppliesSpec : ChangeSpec := { name := "windowApplies", fn := fun _ => fun
  | [d1, d2] => { results := [.lit (.bool true)], args := [d1, d2] }
  | _ => none }
def windowAppliesRow : OpenClaim := { program := "ytmdeeokejdkceaagreatdoor", sum := "4ed18dd205d3d53e398c859b046739c96f8a68d46748106e23ff2e956d285db5", func := "changeover/changeoverlaw30.WindowApplies", spec := "windowApplies", inPlace := ["slices.overlaps[int]", "internal/bytealg.abigen_runtime_cmpstring", "slices.overlaps[changeover/api.Pair]", "slices.overlaps[changeover/api.Session]"], unfollowed := true, recurses := true, named := ["unicode/utf8.first", "unicode/utf8.acceptRanges"], plainKeys := false, apart := false, laid := [("unicode/utf8.acceptRanges", laid_unicode_utf8_acceptRanges), ("unicode/utf8.first", laid_unicode_utf8_first)] }
def WindowAppliesSaid : Prop := windowAppliesRow.holds Tryz.pinned (OpenSpec.ofChange windowAppliesSpec)

/-- ITS FALSE NEIGHBOUR: 'it returns false'. Refute it at one input. -/
def windowAppliesWrong : ChangeSpec := { name := "windowApplies", fn := fun _ => fun
  | [d1, d2] => { results := [.lit (.bool false)], args := [d1, d2] }
  | _ => none }
def WindowAppliesWrongFalsely : Prop := windowAppliesRow.holds Tryz.pinned (OpenSpec.ofChange windowAppliesWrong)

/-- 'changeoverlaw43.WitnessMore': WHATEVER THE INPUT: true; the input reads as it did. -/
def witnessMoreSpec : ChangeSpec := { name := "witnessMore", fn := fun _ => fun
  | [d1, d2, d3] => { results := [.lit (.bool true)], args := [d1, d2, d3] }
  | _ => none }
def witnessMoreRow : OpenClaim := { program := "ytmdeeokejdkceaagreatdoor", sum := "4ed18dd205d3d53e398c859b046739c96f8a68d46748106e23ff2e956d285db5", func := "changeover/changeoverlaw43.WitnessMore", spec := "witnessMore", unfollowed := true, recurses := true, named := ["unicode/utf8.first", "unicode/utf8.acceptRanges"], plainKeys := false, apart := false, laid := [("unicode/utf8.acceptRanges", laid_unicode_utf8_acceptRanges), ("unicode/utf8.first", laid_unicode_utf8_first)] }
def WitnessMoreSaid : Prop := witnessMoreRow.holds Tryz.pinned (OpenSpec.ofChange witnessMoreSpec)

/-- ITS FALSE NEIGHBOUR: 'it returns false'. Refute it at one input. -/
def witnessMoreWrong : ChangeSpec := { name := "witnessMore", fn := fun _ => fun
  | [d1, d2, d3] => { results := [.lit (.bool false)], args := [d1, d2, d3] }
  | _ => none }
def WitnessMoreWrongFalsely : Prop := witnessMoreRow.holds Tryz.pinned (OpenSpec.ofChange witnessMoreWrong)

/-- 'changeoverlaw33.PropLearns': WHATEVER THE INPUT: true; the input reads as it did. -/
def propLearnsSpec : ChangeSpec := { name := "propLearns", fn := fun _ => fun
  | [d1, d2, d3] => { results := [.lit (.bool true)], args := [d1, d2, d3] }
  | _ => none }
def propLearnsRow : OpenClaim := { program := "ytmdeeokejdkceaagreatdoor", sum := "4ed18dd205d3d53e398c859b046739c96f8a68d46748106e23ff2e956d285db5", func := "changeover/changeoverlaw33.PropLearns", spec := "propLearns", unfollowed := true, recurses := true, named := ["unicode/utf8.first", "unicode/utf8.acceptRanges"], plainKeys := false, apart := false, laid := [("unicode/utf8.acceptRanges", laid_unicode_utf8_acceptRanges), ("unicode/utf8.first", laid_unicode_utf8_first)] }
def PropLearnsSaid : Prop := propLearnsRow.holds Tryz.pinned (OpenSpec.ofChange propLearnsSpec)

/-- ITS FALSE NEIGHBOUR: 'it returns false'. Refute it at one input. -/
def propLearnsWrong : ChangeSpec := { name := "propLearns", fn := fun _ => fun
  | [d1, d2, d3] => { results := [.lit (.bool false)], args := [d1, d2, d3] }
  | _ => none }
def PropLearnsWrongFalsely : Prop := propLearnsRow.holds Tryz.pinned (OpenSpec.ofChange propLearnsWrong)

/-- 'changeoverlaw33.PropFinds': WHATEVER THE INPUT: true; the input reads as it did. -/
def propFindsSpec : ChangeSpec := { name := "propFinds", fn := fun _ => fun
  | [d1, d2, d3] => { results := [.lit (.bool true)], args := [d1, d2, d3] }
  | _ => none }
def propFindsRow : OpenClaim := { program := "ytmdeeokejdkceaagreatdoor", sum := "4ed18dd205d3d53e398c859b046739c96f8a68d46748106e23ff2e956d285db5", func := "changeover/changeoverlaw33.PropFinds", spec := "propFinds", inPlace := ["slices.overlaps[changeover/api.Entry]"], unfollowed := true, recurses := true, named := ["unicode/utf8.first", "unicode/utf8.acceptRanges"], plainKeys := false, apart := false, laid := [("unicode/utf8.acceptRanges", laid_unicode_utf8_acceptRanges), ("unicode/utf8.first", laid_unicode_utf8_first)] }
def PropFindsSaid : Prop := propFindsRow.holds Tryz.pinned (OpenSpec.ofChange propFindsSpec)

/-- ITS FALSE NEIGHBOUR: 'it returns false'. Refute it at one input. -/
def propFindsWrong : ChangeSpec := { name := "propFinds", fn := fun _ => fun
  | [d1, d2, d3] => { results := [.lit (.bool false)], args := [d1, d2, d3] }
  | _ => none }
def PropFindsWrongFalsely : Prop := propFindsRow.holds Tryz.pinned (OpenSpec.ofChange propFindsWrong)

/- THE SECOND FORM. 'bulk': how many values and letters a reading holds, each counted each time it is reached (what is shared counts as often as it is met; a slice's spare places count too). A statement '..UptoSaid' is the law's where the arguments, and the package variables that the reading takes, are together of bulk at most 1048576: NARROWER than '..Said'. Prove '..Said' where nothing that the law and all that it calls make is longer than what came in: it says more and counts as full. Else prove '..UptoSaid'. A law counts once. -/
mutual
def uptoBulk {H : Type} : DataW H → Nat
  | .lit (.string bytes) => bytes.length + 1
  | .lit _ => 1
  | .nil => 1
  | .ptr d => uptoBulk d + 1
  | .slice elems spare => uptoBulkAll elems + uptoBulkAll spare + 1
  | .agg parts => uptoBulkAll parts + 1
  | .iface _ d => uptoBulk d + 1
  | .map entries => uptoBulkEntries entries + 1
  | .held _ => 1
def uptoBulkAll {H : Type} : List (DataW H) → Nat
  | [] => 0
  | d :: r => uptoBulk d + uptoBulkAll r
def uptoBulkEntries {H : Type} : List (Lit × DataW H) → Nat
  | [] => 0
  | x :: r => uptoBulkEntry x + uptoBulkEntries r
def uptoBulkEntry {H : Type} : Lit × DataW H → Nat
  | (.string bytes, d) => bytes.length + uptoBulk d + 1
  | (_, d) => uptoBulk d + 1
 end
def uptoSmall : (H : Type) → List (DataW H) → Bool := fun _ ds => decide (uptoBulkAll ds ≤ 1048576)
def OpenSpec.upto (s : _root_.Go.ChangeSpec) : _root_.Go.OpenSpec := { _root_.Go.OpenSpec.ofChange s with cond := some uptoSmall }

/-- 'changeoverlaw29.SpecApp', WHERE WHAT IT READS IS OF BULK AT MOST 1048576: true; the input reads as it did. -/
def specAppUptoRow : OpenClaim := { program := "ytmdeeokejdkceaagreatdoor", sum := "4ed18dd205d3d53e398c859b046739c96f8a68d46748106e23ff2e956d285db5", func := "changeover/changeoverlaw29.SpecApp", spec := "specApp", inPlace := ["internal/bytealg.abigen_runtime_cmpstring", "slices.overlaps[changeover/api.Pair]", "slices.overlaps[changeover/api.Session]"], unfollowed := true, recurses := true, named := ["unicode/utf8.first", "unicode/utf8.acceptRanges"], plainKeys := false, apart := false, laid := [("unicode/utf8.acceptRanges", laid_unicode_utf8_acceptRanges), ("unicode/utf8.first", laid_unicode_utf8_first)], narrowed := true }
def SpecAppUptoSaid : Prop := specAppUptoRow.holds Tryz.pinned (OpenSpec.upto specAppSpec)

/-- 'changeoverlaw30.WindowMembers', WHERE WHAT IT READS IS OF BULK AT MOST 1048576: true; the input reads as it did. -/
def windowMembersUptoRow : OpenClaim := { program := "ytmdeeokejdkceaagreatdoor", sum := "4ed18dd205d3d53e398c859b046739c96f8a68d46748106e23ff2e956d285db5", func := "changeover/changeoverlaw30.WindowMembers", spec := "windowMembers", inPlace := ["slices.overlaps[int]", "internal/bytealg.abigen_runtime_cmpstring", "slices.overlaps[changeover/api.Pair]", "slices.overlaps[changeover/api.Session]"], unfollowed := true, recurses := true, named := ["unicode/utf8.first", "unicode/utf8.acceptRanges"], plainKeys := false, apart := false, laid := [("unicode/utf8.acceptRanges", laid_unicode_utf8_acceptRanges), ("unicode/utf8.first", laid_unicode_utf8_first)], narrowed := true }
def WindowMembersUptoSaid : Prop := windowMembersUptoRow.holds Tryz.pinned (OpenSpec.upto windowMembersSpec)

/-- 'changeoverlaw30.WindowOnce', WHERE WHAT IT READS IS OF BULK AT MOST 1048576: true; the input reads as it did. -/
def windowOnceUptoRow : OpenClaim := { program := "ytmdeeokejdkceaagreatdoor", sum := "4ed18dd205d3d53e398c859b046739c96f8a68d46748106e23ff2e956d285db5", func := "changeover/changeoverlaw30.WindowOnce", spec := "windowOnce", inPlace := ["slices.overlaps[int]", "internal/bytealg.abigen_runtime_cmpstring", "slices.overlaps[changeover/api.Pair]", "slices.overlaps[changeover/api.Session]"], unfollowed := true, recurses := true, named := ["unicode/utf8.first", "unicode/utf8.acceptRanges"], plainKeys := false, apart := false, laid := [("unicode/utf8.acceptRanges", laid_unicode_utf8_acceptRanges), ("unicode/utf8.first", laid_unicode_utf8_first)], narrowed := true }
def WindowOnceUptoSaid : Prop := windowOnceUptoRow.holds Tryz.pinned (OpenSpec.upto windowOnceSpec)

/-- 'changeoverlaw30.WindowApplies', WHERE WHAT IT READS IS OF BULK AT MOST 1048576: true; the input reads as it did. -/
def windowAppliesUptoRow : OpenClaim := { program := "ytmdeeokejdkceaagreatdoor", sum := "4ed18dd205d3d53e398c859b046739c96f8a68d46748106e23ff2e956d285db5", func := "changeover/changeoverlaw30.WindowApplies", spec := "windowApplies", inPlace := ["slices.overlaps[int]", "internal/bytealg.abigen_runtime_cmpstring", "slices.overlaps[changeover/api.Pair]", "slices.overlaps[changeover/api.Session]"], unfollowed := true, recurses := true, named := ["unicode/utf8.first", "unicode/utf8.acceptRanges"], plainKeys := false, apart := false, laid := [("unicode/utf8.acceptRanges", laid_unicode_utf8_acceptRanges), ("unicode/utf8.first", laid_unicode_utf8_first)], narrowed := true }
def WindowAppliesUptoSaid : Prop := windowAppliesUptoRow.holds Tryz.pinned (OpenSpec.upto windowAppliesSpec)

/-- 'changeoverlaw43.WitnessMore', WHERE WHAT IT READS IS OF BULK AT MOST 1048576: true; the input reads as it did. -/
def witnessMoreUptoRow : OpenClaim := { program := "ytmdeeokejdkceaagreatdoor", sum := "4ed18dd205d3d53e398c859b046739c96f8a68d46748106e23ff2e956d285db5", func := "changeover/changeoverlaw43.WitnessMore", spec := "witnessMore", unfollowed := true, recurses := true, named := ["unicode/utf8.first", "unicode/utf8.acceptRanges"], plainKeys := false, apart := false, laid := [("unicode/utf8.acceptRanges", laid_unicode_utf8_acceptRanges), ("unicode/utf8.first", laid_unicode_utf8_first)], narrowed := true }
def WitnessMoreUptoSaid : Prop := witnessMoreUptoRow.holds Tryz.pinned (OpenSpec.upto witnessMoreSpec)

/-- 'changeoverlaw33.PropLearns', WHERE WHAT IT READS IS OF BULK AT MOST 1048576: true; the input reads as it did. -/
def propLearnsUptoRow : OpenClaim := { program := "ytmdeeokejdkceaagreatdoor", sum := "4ed18dd205d3d53e398c859b046739c96f8a68d46748106e23ff2e956d285db5", func := "changeover/changeoverlaw33.PropLearns", spec := "propLearns", unfollowed := true, recurses := true, named := ["unicode/utf8.first", "unicode/utf8.acceptRanges"], plainKeys := false, apart := false, laid := [("unicode/utf8.acceptRanges", laid_unicode_utf8_acceptRanges), ("unicode/utf8.first", laid_unicode_utf8_first)], narrowed := true }
def PropLearnsUptoSaid : Prop := propLearnsUptoRow.holds Tryz.pinned (OpenSpec.upto propLearnsSpec)

/-- 'changeoverlaw33.PropFinds', WHERE WHAT IT READS IS OF BULK AT MOST 1048576: true; the input reads as it did. -/
def propFindsUptoRow : OpenClaim := { program := "ytmdeeokejdkceaagreatdoor", sum := "4ed18dd205d3d53e398c859b046739c96f8a68d46748106e23ff2e956d285db5", func := "changeover/changeoverlaw33.PropFinds", spec := "propFinds", inPlace := ["slices.overlaps[changeover/api.Entry]"], unfollowed := true, recurses := true, named := ["unicode/utf8.first", "unicode/utf8.acceptRanges"], plainKeys := false, apart := false, laid := [("unicode/utf8.acceptRanges", laid_unicode_utf8_acceptRanges), ("unicode/utf8.first", laid_unicode_utf8_first)], narrowed := true }
def PropFindsUptoSaid : Prop := propFindsUptoRow.holds Tryz.pinned (OpenSpec.upto propFindsSpec)

end Rows
end Go.Proofs.YtmdeeokejdkceaaGreatDoor

/-
  No cell of these rows narrows 'for every input' (looked for: loops, veiled, ifaces, maps, wideKeys, modest, calm, conditions, laid).
  DERIVED. THE GIVEN ROWS OF THIS SEAT. 6 by the template 'for every input the law returns true; each argument reads behind the call as it read before'; 0 by the template 'total and deterministic' (their statements: YtgflmkhfachlcaaTotals.lean).
  GIVEN WITH THE SEED: the statements are not yours to turn. If you find one false, say at which input.
  Laid BY PROGRAM, IN A SANDBOX (cutbox-rows.mjs): the forced cells as the released guide's own fill.sh prints them over the translation dd5fdb0368fecfba… (all of the seat's roots in one cut). By AI agents, Wed Nov 11 2026. No macro, syntax, notation, axiom, sorry.
-/
import Derived.Test.YtgflmkhfachlcaaChecked
import GoSem.Claim
import GoSem.ClaimJoined
import GoSem.ClaimMapViews
import Derived.JoinedTies
import Derived.KernelRfl
namespace Go.Proofs.Ytgflmkhfachlcaa
/- THE CELL 'sum', in the pinned program and in every row, IS THE sha256 OF THE DUMP (.gsa) THAT YtgflmkhfachlcaaProg.lean LOADS. Nothing in Lean hashes anything: it is a label: what it is worth is what the hold of that sum in a sandbox is worth. -/
noncomputable def Try.pinned : Pinned := { name := "ytgflmkhfachlcaa", sum := "dd5fdb0368fecfba689c83bb6f9d01f7a3d93442ab1664c281bdd588645d8bb3", checked := Try.checked }
namespace Rows
def none {H : Type} : Left H := { results := [], args := [] }

/-- 'changeoverlaw34.TallyCommon': WHATEVER THE INPUT: true; the input reads as it did. -/
def tallyCommonSpec : ChangeSpec := { name := "tallyCommon", fn := fun _ => fun
  | [d1, d2, d3] => { results := [.lit (.bool true)], args := [d1, d2, d3] }
  | _ => none }
def tallyCommonRow : OpenClaim := { program := "ytgflmkhfachlcaa", sum := "dd5fdb0368fecfba689c83bb6f9d01f7a3d93442ab1664c281bdd588645d8bb3", func := "changeover/changeoverlaw34.TallyCommon", spec := "tallyCommon", unfollowed := true, recurses := true, apart := false }
def TallyCommonSaid : Prop := tallyCommonRow.holds Try.pinned (OpenSpec.ofChange tallyCommonSpec)

/-- ITS FALSE NEIGHBOUR: 'it returns false'. Refute it at one input. -/
def tallyCommonWrong : ChangeSpec := { name := "tallyCommon", fn := fun _ => fun
  | [d1, d2, d3] => { results := [.lit (.bool false)], args := [d1, d2, d3] }
  | _ => none }
def TallyCommonWrongFalsely : Prop := tallyCommonRow.holds Try.pinned (OpenSpec.ofChange tallyCommonWrong)

/-- 'changeoverlaw34.TallyVotes': WHATEVER THE INPUT: true; the input reads as it did. -/
def tallyVotesSpec : ChangeSpec := { name := "tallyVotes", fn := fun _ => fun
  | [d1, d2, d3] => { results := [.lit (.bool true)], args := [d1, d2, d3] }
  | _ => none }
def tallyVotesRow : OpenClaim := { program := "ytgflmkhfachlcaa", sum := "dd5fdb0368fecfba689c83bb6f9d01f7a3d93442ab1664c281bdd588645d8bb3", func := "changeover/changeoverlaw34.TallyVotes", spec := "tallyVotes", unfollowed := true, recurses := true, apart := false }
def TallyVotesSaid : Prop := tallyVotesRow.holds Try.pinned (OpenSpec.ofChange tallyVotesSpec)

/-- ITS FALSE NEIGHBOUR: 'it returns false'. Refute it at one input. -/
def tallyVotesWrong : ChangeSpec := { name := "tallyVotes", fn := fun _ => fun
  | [d1, d2, d3] => { results := [.lit (.bool false)], args := [d1, d2, d3] }
  | _ => none }
def TallyVotesWrongFalsely : Prop := tallyVotesRow.holds Try.pinned (OpenSpec.ofChange tallyVotesWrong)

/-- 'changeoverlaw18.DiskCrashes': WHATEVER THE INPUT: true; the input reads as it did. -/
def diskCrashesSpec : ChangeSpec := { name := "diskCrashes", fn := fun _ => fun
  | [d1, d2, d3] => { results := [.lit (.bool true)], args := [d1, d2, d3] }
  | _ => none }
def diskCrashesRow : OpenClaim := { program := "ytgflmkhfachlcaa", sum := "dd5fdb0368fecfba689c83bb6f9d01f7a3d93442ab1664c281bdd588645d8bb3", func := "changeover/changeoverlaw18.DiskCrashes", spec := "diskCrashes", unfollowed := true, recurses := true, apart := false }
def DiskCrashesSaid : Prop := diskCrashesRow.holds Try.pinned (OpenSpec.ofChange diskCrashesSpec)

/-- ITS FALSE NEIGHBOUR: 'it returns false'. Refute it at one input. -/
def diskCrashesWrong : ChangeSpec := { name := "diskCrashes", fn := fun _ => fun
  | [d1, d2, d3] => { results := [.lit (.bool false)], args := [d1, d2, d3] }
  | _ => none }
def DiskCrashesWrongFalsely : Prop := diskCrashesRow.holds Try.pinned (OpenSpec.ofChange diskCrashesWrong)

/-- 'changeoverlaw18.DiskDoes': WHATEVER THE INPUT: true; the input reads as it did. -/
def diskDoesSpec : ChangeSpec := { name := "diskDoes", fn := fun _ => fun
  | [d] => { results := [.lit (.bool true)], args := [d] }
  | _ => none }
def diskDoesRow : OpenClaim := { program := "ytgflmkhfachlcaa", sum := "dd5fdb0368fecfba689c83bb6f9d01f7a3d93442ab1664c281bdd588645d8bb3", func := "changeover/changeoverlaw18.DiskDoes", spec := "diskDoes", inPlace := ["maps.clone"], unfollowed := true, recurses := true, apart := false }
def DiskDoesSaid : Prop := diskDoesRow.holds Try.pinned (OpenSpec.ofChange diskDoesSpec)

/-- ITS FALSE NEIGHBOUR: 'it returns false'. Refute it at one input. -/
def diskDoesWrong : ChangeSpec := { name := "diskDoes", fn := fun _ => fun
  | [d] => { results := [.lit (.bool false)], args := [d] }
  | _ => none }
def DiskDoesWrongFalsely : Prop := diskDoesRow.holds Try.pinned (OpenSpec.ofChange diskDoesWrong)

/-- 'changeoverlaw18.DiskNobody': WHATEVER THE INPUT: true; the input reads as it did. -/
def diskNobodySpec : ChangeSpec := { name := "diskNobody", fn := fun _ => fun
  | [d] => { results := [.lit (.bool true)], args := [d] }
  | _ => none }
def diskNobodyRow : OpenClaim := { program := "ytgflmkhfachlcaa", sum := "dd5fdb0368fecfba689c83bb6f9d01f7a3d93442ab1664c281bdd588645d8bb3", func := "changeover/changeoverlaw18.DiskNobody", spec := "diskNobody", inPlace := ["maps.clone"], unfollowed := true, recurses := true, apart := false }
def DiskNobodySaid : Prop := diskNobodyRow.holds Try.pinned (OpenSpec.ofChange diskNobodySpec)

/-- ITS FALSE NEIGHBOUR: 'it returns false'. Refute it at one input. -/
def diskNobodyWrong : ChangeSpec := { name := "diskNobody", fn := fun _ => fun
  | [d] => { results := [.lit (.bool false)], args := [d] }
  | _ => none }
def DiskNobodyWrongFalsely : Prop := diskNobodyRow.holds Try.pinned (OpenSpec.ofChange diskNobodyWrong)

/-- 'changeoverlaw11.ConfMajorities': WHATEVER THE INPUT: true; the input reads as it did. -/
def confMajoritiesSpec : ChangeSpec := { name := "confMajorities", fn := fun _ => fun
  | [d1, d2, d3] => { results := [.lit (.bool true)], args := [d1, d2, d3] }
  | _ => none }
def confMajoritiesRow : OpenClaim := { program := "ytgflmkhfachlcaa", sum := "dd5fdb0368fecfba689c83bb6f9d01f7a3d93442ab1664c281bdd588645d8bb3", func := "changeover/changeoverlaw11.ConfMajorities", spec := "confMajorities", inPlace := ["slices.overlaps[int]"], unfollowed := true, recurses := true, apart := false }
def ConfMajoritiesSaid : Prop := confMajoritiesRow.holds Try.pinned (OpenSpec.ofChange confMajoritiesSpec)

/-- ITS FALSE NEIGHBOUR: 'it returns false'. Refute it at one input. -/
def confMajoritiesWrong : ChangeSpec := { name := "confMajorities", fn := fun _ => fun
  | [d1, d2, d3] => { results := [.lit (.bool false)], args := [d1, d2, d3] }
  | _ => none }
def ConfMajoritiesWrongFalsely : Prop := confMajoritiesRow.holds Try.pinned (OpenSpec.ofChange confMajoritiesWrong)

/- THE SECOND FORM. 'bulk': how many values and letters a reading holds, each counted each time it is reached (what is shared counts as often as it is met; a slice's spare places count too). A statement '..UptoSaid' is the law's where the arguments, and the package variables that the reading takes, are together of bulk at most 1048576: NARROWER than '..Said'. Prove '..Said' where nothing that the law and all that it calls make is longer than what came in: it says more and counts as full. Else prove '..UptoSaid'. A law counts once. -/
mutual
def uptoBulk {H : Type} : DataW H → Nat
  | .lit (.string bytes) => bytes.length + 1
  | .lit _ => 1
  | .nil => 1
  | .ptr d => uptoBulk d + 1
  | .slice elems spare => uptoBulkAll elems + uptoBulkAll spare + 1
  | .agg parts => uptoBulkAll parts + 1
  | .iface _ d => uptoBulk d + 1
  | .map entries => uptoBulkEntries entries + 1
  | .held _ => 1
def uptoBulkAll {H : Type} : List (DataW H) → Nat
  | [] => 0
  | d :: r => uptoBulk d + uptoBulkAll r
def uptoBulkEntries {H : Type} : List (Lit × DataW H) → Nat
  | [] => 0
  | x :: r => uptoBulkEntry x + uptoBulkEntries r
def uptoBulkEntry {H : Type} : Lit × DataW H → Nat
  | (.string bytes, d) => bytes.length + uptoBulk d + 1
  | (_, d) => uptoBulk d + 1
 end
def uptoSmall : (H : Type) → List (DataW H) → Bool := fun _ ds => decide (uptoBulkAll ds ≤ 1048576)
def OpenSpec.upto (s : _root_.Go.ChangeSpec) : _root_.Go.OpenSpec := { _root_.Go.OpenSpec.ofChange s with cond := some uptoSmall }

/-- 'changeoverlaw34.TallyCommon', WHERE WHAT IT READS IS OF BULK AT MOST 1048576: true; the input reads as it did. -/
def tallyCommonUptoRow : OpenClaim := { program := "ytgflmkhfachlcaa", sum := "dd5fdb0368fecfba689c83bb6f9d01f7a3d93442ab1664c281bdd588645d8bb3", func := "changeover/changeoverlaw34.TallyCommon", spec := "tallyCommon", unfollowed := true, recurses := true, apart := false, narrowed := true }
def TallyCommonUptoSaid : Prop := tallyCommonUptoRow.holds Try.pinned (OpenSpec.upto tallyCommonSpec)

/-- 'changeoverlaw34.TallyVotes', WHERE WHAT IT READS IS OF BULK AT MOST 1048576: true; the input reads as it did. -/
def tallyVotesUptoRow : OpenClaim := { program := "ytgflmkhfachlcaa", sum := "dd5fdb0368fecfba689c83bb6f9d01f7a3d93442ab1664c281bdd588645d8bb3", func := "changeover/changeoverlaw34.TallyVotes", spec := "tallyVotes", unfollowed := true, recurses := true, apart := false, narrowed := true }
def TallyVotesUptoSaid : Prop := tallyVotesUptoRow.holds Try.pinned (OpenSpec.upto tallyVotesSpec)

/-- 'changeoverlaw18.DiskCrashes', WHERE WHAT IT READS IS OF BULK AT MOST 1048576: true; the input reads as it did. -/
def diskCrashesUptoRow : OpenClaim := { program := "ytgflmkhfachlcaa", sum := "dd5fdb0368fecfba689c83bb6f9d01f7a3d93442ab1664c281bdd588645d8bb3", func := "changeover/changeoverlaw18.DiskCrashes", spec := "diskCrashes", unfollowed := true, recurses := true, apart := false, narrowed := true }
def DiskCrashesUptoSaid : Prop := diskCrashesUptoRow.holds Try.pinned (OpenSpec.upto diskCrashesSpec)

/-- 'changeoverlaw18.DiskDoes', WHERE WHAT IT READS IS OF BULK AT MOST 1048576: true; the input reads as it did. -/
def diskDoesUptoRow : OpenClaim := { program := "ytgflmkhfachlcaa", sum := "dd5fdb0368fecfba689c83bb6f9d01f7a3d93442ab1664c281bdd588645d8bb3", func := "changeover/changeoverlaw18.DiskDoes", spec := "diskDoes", inPlace := ["maps.clone"], unfollowed := true, recurses := true, apart := false, narrowed := true }
def DiskDoesUptoSaid : Prop := diskDoesUptoRow.holds Try.pinned (OpenSpec.upto diskDoesSpec)

/-- 'changeoverlaw18.DiskNobody', WHERE WHAT IT READS IS OF BULK AT MOST 1048576: true; the input reads as it did. -/
def diskNobodyUptoRow : OpenClaim := { program := "ytgflmkhfachlcaa", sum := "dd5fdb0368fecfba689c83bb6f9d01f7a3d93442ab1664c281bdd588645d8bb3", func := "changeover/changeoverlaw18.DiskNobody", spec := "diskNobody", inPlace := ["maps.clone"], unfollowed := true, recurses := true, apart := false, narrowed := true }
def DiskNobodyUptoSaid : Prop := diskNobodyUptoRow.holds Try.pinned (OpenSpec.upto diskNobodySpec)

/-- 'changeoverlaw11.ConfMajorities', WHERE WHAT IT READS IS OF BULK AT MOST 1048576: true; the input reads as it did. -/
def confMajoritiesUptoRow : OpenClaim := { program := "ytgflmkhfachlcaa", sum := "dd5fdb0368fecfba689c83bb6f9d01f7a3d93442ab1664c281bdd588645d8bb3", func := "changeover/changeoverlaw11.ConfMajorities", spec := "confMajorities", inPlace := ["slices.overlaps[int]"], unfollowed := true, recurses := true, apart := false, narrowed := true }
def ConfMajoritiesUptoSaid : Prop := confMajoritiesUptoRow.holds Try.pinned (OpenSpec.upto confMajoritiesSpec)

end Rows
end Go.Proofs.Ytgflmkhfachlcaa

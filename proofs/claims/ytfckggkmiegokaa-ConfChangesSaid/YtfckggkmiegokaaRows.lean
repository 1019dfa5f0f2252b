/-
  No cell of these rows narrows 'for every input' (looked for: loops, veiled, ifaces, maps, wideKeys, modest, calm, conditions, laid).
  DERIVED. THE GIVEN ROWS OF THIS SEAT. 8 by the template 'for every input the law returns true; each argument reads behind the call as it read before'; 0 by the template 'total and deterministic' (their statements: YtfckggkmiegokaaTotals.lean).
  GIVEN WITH THE SEED: the statements are not yours to turn. If you find one false, say at which input.
  Laid BY PROGRAM, IN A SANDBOX (cutbox-rows.mjs): the forced cells as the released guide's own fill.sh prints them over the translation 9f6b647d8892868b… (all of the seat's roots in one cut). By AI agents, Wed Nov 11 2026. No macro, syntax, notation, axiom, sorry.
-/
import Derived.Test.YtfckggkmiegokaaChecked
import GoSem.Claim
import GoSem.ClaimJoined
import GoSem.ClaimMapViews
import Derived.JoinedTies
import Derived.KernelRfl
namespace Go.Proofs.Ytfckggkmiegokaa
/- THE CELL 'sum', in the pinned program and in every row, IS THE sha256 OF THE DUMP (.gsa) THAT YtfckggkmiegokaaProg.lean LOADS. Nothing in Lean hashes anything: it is a label: what it is worth is what the hold of that sum in a sandbox is worth. -/
noncomputable def Try.pinned : Pinned := { name := "ytfckggkmiegokaa", sum := "9f6b647d8892868b1962cdf34206e9b149d49930a7ac4e33c78e8d6b0d7da91e", checked := Try.checked }
namespace Rows
def none {H : Type} : Left H := { results := [], args := [] }

/-- 'changeoverlaw07.VersOpens': WHATEVER THE INPUT: true; the input reads as it did. -/
def versOpensSpec : ChangeSpec := { name := "versOpens", fn := fun _ => fun
  | [d1, d2, d3] => { results := [.lit (.bool true)], args := [d1, d2, d3] }
  | _ => none }
def versOpensRow : OpenClaim := { program := "ytfckggkmiegokaa", sum := "9f6b647d8892868b1962cdf34206e9b149d49930a7ac4e33c78e8d6b0d7da91e", func := "changeover/changeoverlaw07.VersOpens", spec := "versOpens", apart := false }
def VersOpensSaid : Prop := versOpensRow.holds Try.pinned (OpenSpec.ofChange versOpensSpec)

/-- ITS FALSE NEIGHBOUR: 'it returns false'. Refute it at one input. -/
def versOpensWrong : ChangeSpec := { name := "versOpens", fn := fun _ => fun
  | [d1, d2, d3] => { results := [.lit (.bool false)], args := [d1, d2, d3] }
  | _ => none }
def VersOpensWrongFalsely : Prop := versOpensRow.holds Try.pinned (OpenSpec.ofChange versOpensWrong)

/-- 'changeoverlaw07.VersHas': WHATEVER THE INPUT: true; the input reads as it did. -/
def versHasSpec : ChangeSpec := { name := "versHas", fn := fun _ => fun
  | [d1, d2, d3] => { results := [.lit (.bool true)], args := [d1, d2, d3] }
  | _ => none }
def versHasRow : OpenClaim := { program := "ytfckggkmiegokaa", sum := "9f6b647d8892868b1962cdf34206e9b149d49930a7ac4e33c78e8d6b0d7da91e", func := "changeover/changeoverlaw07.VersHas", spec := "versHas", apart := false }
def VersHasSaid : Prop := versHasRow.holds Try.pinned (OpenSpec.ofChange versHasSpec)

/-- ITS FALSE NEIGHBOUR: 'it returns false'. Refute it at one input. -/
def versHasWrong : ChangeSpec := { name := "versHas", fn := fun _ => fun
  | [d1, d2, d3] => { results := [.lit (.bool false)], args := [d1, d2, d3] }
  | _ => none }
def VersHasWrongFalsely : Prop := versHasRow.holds Try.pinned (OpenSpec.ofChange versHasWrong)

/-- 'changeoverlaw36.GateSees': WHATEVER THE INPUT: true; the input reads as it did. -/
def gateSeesSpec : ChangeSpec := { name := "gateSees", fn := fun _ => fun
  | [d1, d2, d3] => { results := [.lit (.bool true)], args := [d1, d2, d3] }
  | _ => none }
def gateSeesRow : OpenClaim := { program := "ytfckggkmiegokaa", sum := "9f6b647d8892868b1962cdf34206e9b149d49930a7ac4e33c78e8d6b0d7da91e", func := "changeover/changeoverlaw36.GateSees", spec := "gateSees", unfollowed := true, recurses := true, apart := false }
def GateSeesSaid : Prop := gateSeesRow.holds Try.pinned (OpenSpec.ofChange gateSeesSpec)

/-- ITS FALSE NEIGHBOUR: 'it returns false'. Refute it at one input. -/
def gateSeesWrong : ChangeSpec := { name := "gateSees", fn := fun _ => fun
  | [d1, d2, d3] => { results := [.lit (.bool false)], args := [d1, d2, d3] }
  | _ => none }
def GateSeesWrongFalsely : Prop := gateSeesRow.holds Try.pinned (OpenSpec.ofChange gateSeesWrong)

/-- 'changeoverlaw36.GateProposes': WHATEVER THE INPUT: true; the input reads as it did. -/
def gateProposesSpec : ChangeSpec := { name := "gateProposes", fn := fun _ => fun
  | [d1, d2, d3] => { results := [.lit (.bool true)], args := [d1, d2, d3] }
  | _ => none }
def gateProposesRow : OpenClaim := { program := "ytfckggkmiegokaa", sum := "9f6b647d8892868b1962cdf34206e9b149d49930a7ac4e33c78e8d6b0d7da91e", func := "changeover/changeoverlaw36.GateProposes", spec := "gateProposes", unfollowed := true, recurses := true, apart := false }
def GateProposesSaid : Prop := gateProposesRow.holds Try.pinned (OpenSpec.ofChange gateProposesSpec)

/-- ITS FALSE NEIGHBOUR: 'it returns false'. Refute it at one input. -/
def gateProposesWrong : ChangeSpec := { name := "gateProposes", fn := fun _ => fun
  | [d1, d2, d3] => { results := [.lit (.bool false)], args := [d1, d2, d3] }
  | _ => none }
def GateProposesWrongFalsely : Prop := gateProposesRow.holds Try.pinned (OpenSpec.ofChange gateProposesWrong)

/-- 'changeoverlaw36.GateAllows': WHATEVER THE INPUT: true; the input reads as it did. -/
def gateAllowsSpec : ChangeSpec := { name := "gateAllows", fn := fun _ => fun
  | [d1, d2, d3] => { results := [.lit (.bool true)], args := [d1, d2, d3] }
  | _ => none }
def gateAllowsRow : OpenClaim := { program := "ytfckggkmiegokaa", sum := "9f6b647d8892868b1962cdf34206e9b149d49930a7ac4e33c78e8d6b0d7da91e", func := "changeover/changeoverlaw36.GateAllows", spec := "gateAllows", unfollowed := true, recurses := true, apart := false }
def GateAllowsSaid : Prop := gateAllowsRow.holds Try.pinned (OpenSpec.ofChange gateAllowsSpec)

/-- ITS FALSE NEIGHBOUR: 'it returns false'. Refute it at one input. -/
def gateAllowsWrong : ChangeSpec := { name := "gateAllows", fn := fun _ => fun
  | [d1, d2, d3] => { results := [.lit (.bool false)], args := [d1, d2, d3] }
  | _ => none }
def GateAllowsWrongFalsely : Prop := gateAllowsRow.holds Try.pinned (OpenSpec.ofChange gateAllowsWrong)

/-- 'changeoverlaw11.ConfChanges': WHATEVER THE INPUT: true; the input reads as it did. -/
def confChangesSpec : ChangeSpec := { name := "confChanges", fn := fun _ => fun
  | [d1, d2, d3] => { results := [.lit (.bool true)], args := [d1, d2, d3] }
  | _ => none }
def confChangesRow : OpenClaim := { program := "ytfckggkmiegokaa", sum := "9f6b647d8892868b1962cdf34206e9b149d49930a7ac4e33c78e8d6b0d7da91e", func := "changeover/changeoverlaw11.ConfChanges", spec := "confChanges", inPlace := ["slices.overlaps[int]"], apart := false }
def ConfChangesSaid : Prop := confChangesRow.holds Try.pinned (OpenSpec.ofChange confChangesSpec)

/-- ITS FALSE NEIGHBOUR: 'it returns false'. Refute it at one input. -/
def confChangesWrong : ChangeSpec := { name := "confChanges", fn := fun _ => fun
  | [d1, d2, d3] => { results := [.lit (.bool false)], args := [d1, d2, d3] }
  | _ => none }
def ConfChangesWrongFalsely : Prop := confChangesRow.holds Try.pinned (OpenSpec.ofChange confChangesWrong)

/-- 'changeoverlaw11.ConfTrims': WHATEVER THE INPUT: true; the input reads as it did. -/
def confTrimsSpec : ChangeSpec := { name := "confTrims", fn := fun _ => fun
  | [d1, d2, d3] => { results := [.lit (.bool true)], args := [d1, d2, d3] }
  | _ => none }
def confTrimsRow : OpenClaim := { program := "ytfckggkmiegokaa", sum := "9f6b647d8892868b1962cdf34206e9b149d49930a7ac4e33c78e8d6b0d7da91e", func := "changeover/changeoverlaw11.ConfTrims", spec := "confTrims", inPlace := ["slices.overlaps[int]"], apart := false }
def ConfTrimsSaid : Prop := confTrimsRow.holds Try.pinned (OpenSpec.ofChange confTrimsSpec)

/-- ITS FALSE NEIGHBOUR: 'it returns false'. Refute it at one input. -/
def confTrimsWrong : ChangeSpec := { name := "confTrims", fn := fun _ => fun
  | [d1, d2, d3] => { results := [.lit (.bool false)], args := [d1, d2, d3] }
  | _ => none }
def ConfTrimsWrongFalsely : Prop := confTrimsRow.holds Try.pinned (OpenSpec.ofChange confTrimsWrong)

/-- 'changeoverlaw11.ConfAts': WHATEVER THE INPUT: true; the input reads as it did. -/
def confAtsSpec : ChangeSpec := { name := "confAts", fn := fun _ => fun
  | [d1, d2, d3] => { results := [.lit (.bool true)], args := [d1, d2, d3] }
  | _ => none }
def confAtsRow : OpenClaim := { program := "ytfckggkmiegokaa", sum := "9f6b647d8892868b1962cdf34206e9b149d49930a7ac4e33c78e8d6b0d7da91e", func := "changeover/changeoverlaw11.ConfAts", spec := "confAts", inPlace := ["slices.overlaps[int]"], apart := false }
def ConfAtsSaid : Prop := confAtsRow.holds Try.pinned (OpenSpec.ofChange confAtsSpec)

/-- ITS FALSE NEIGHBOUR: 'it returns false'. Refute it at one input. -/
def confAtsWrong : ChangeSpec := { name := "confAts", fn := fun _ => fun
  | [d1, d2, d3] => { results := [.lit (.bool false)], args := [d1, d2, d3] }
  | _ => none }
def ConfAtsWrongFalsely : Prop := confAtsRow.holds Try.pinned (OpenSpec.ofChange confAtsWrong)

/- THE SECOND FORM. 'bulk': how many values and letters a reading holds, each counted each time it is reached (what is shared counts as often as it is met; a slice's spare places count too). A statement '..UptoSaid' is the law's where the arguments, and the package variables that the reading takes, are together of bulk at most 1048576: NARROWER than '..Said'. Prove '..Said' where nothing that the law and all that it calls make is longer than what came in: it says more and counts as full. Else prove '..UptoSaid'. A law counts once. -/
mutual
def uptoBulk {H : Type} : DataW H → Nat
  | .lit (.string bytes) => bytes.length + 1
  | .lit _ => 1
  | .nil => 1
  | .ptr d => uptoBulk d + 1
  | .slice elems spare => uptoBulkAll elems + uptoBulkAll spare + 1
  | .agg parts => uptoBulkAll parts + 1
  | .iface _ d => uptoBulk d + 1
  | .map entries => uptoBulkEntries entries + 1
  | .held _ => 1
def uptoBulkAll {H : Type} : List (DataW H) → Nat
  | [] => 0
  | d :: r => uptoBulk d + uptoBulkAll r
def uptoBulkEntries {H : Type} : List (Lit × DataW H) → Nat
  | [] => 0
  | x :: r => uptoBulkEntry x + uptoBulkEntries r
def uptoBulkEntry {H : Type} : Lit × DataW H → Nat
  | (.string bytes, d) => bytes.length + uptoBulk d + 1
  | (_, d) => uptoBulk d + 1
 end
def uptoSmall : (H : Type) → List (DataW H) → Bool := fun _ ds => decide (uptoBulkAll ds ≤ 1048576)
def OpenSpec.upto (s : _root_.Go.ChangeSpec) : _root_.Go.OpenSpec := { _root_.Go.OpenSpec.ofChange s with cond := some uptoSmall }

/-- 'changeoverlaw07.VersOpens', WHERE WHAT IT READS IS OF BULK AT MOST 1048576: true; the input reads as it did. -/
def versOpensUptoRow : OpenClaim := { program := "ytfckggkmiegokaa", sum := "9f6b647d8892868b1962cdf34206e9b149d49930a7ac4e33c78e8d6b0d7da91e", func := "changeover/changeoverlaw07.VersOpens", spec := "versOpens", apart := false, narrowed := true }
def VersOpensUptoSaid : Prop := versOpensUptoRow.holds Try.pinned (OpenSpec.upto versOpensSpec)

/-- 'changeoverlaw07.VersHas', WHERE WHAT IT READS IS OF BULK AT MOST 1048576: true; the input reads as it did. -/
def versHasUptoRow : OpenClaim := { program := "ytfckggkmiegokaa", sum := "9f6b647d8892868b1962cdf34206e9b149d49930a7ac4e33c78e8d6b0d7da91e", func := "changeover/changeoverlaw07.VersHas", spec := "versHas", apart := false, narrowed := true }
def VersHasUptoSaid : Prop := versHasUptoRow.holds Try.pinned (OpenSpec.upto versHasSpec)

/-- 'changeoverlaw36.GateSees', WHERE WHAT IT READS IS OF BULK AT MOST 1048576: true; the input reads as it did. -/
def gateSeesUptoRow : OpenClaim := { program := "ytfckggkmiegokaa", sum := "9f6b647d8892868b1962cdf34206e9b149d49930a7ac4e33c78e8d6b0d7da91e", func := "changeover/changeoverlaw36.GateSees", spec := "gateSees", unfollowed := true, recurses := true, apart := false, narrowed := true }
def GateSeesUptoSaid : Prop := gateSeesUptoRow.holds Try.pinned (OpenSpec.upto gateSeesSpec)

/-- 'changeoverlaw36.GateProposes', WHERE WHAT IT READS IS OF BULK AT MOST 1048576: true; the input reads as it did. -/
def gateProposesUptoRow : OpenClaim := { program := "ytfckggkmiegokaa", sum := "9f6b647d8892868b1962cdf34206e9b149d49930a7ac4e33c78e8d6b0d7da91e", func := "changeover/changeoverlaw36.GateProposes", spec := "gateProposes", unfollowed := true, recurses := true, apart := false, narrowed := true }
def GateProposesUptoSaid : Prop := gateProposesUptoRow.holds Try.pinned (OpenSpec.upto gateProposesSpec)

/-- 'changeoverlaw36.GateAllows', WHERE WHAT IT READS IS OF BULK AT MOST 1048576: true; the input reads as it did. -/
def gateAllowsUptoRow : OpenClaim := { program := "ytfckggkmiegokaa", sum := "9f6b647d8892868b1962cdf34206e9b149d49930a7ac4e33c78e8d6b0d7da91e", func := "changeover/changeoverlaw36.GateAllows", spec := "gateAllows", unfollowed := true, recurses := true, apart := false, narrowed := true }
def GateAllowsUptoSaid : Prop := gateAllowsUptoRow.holds Try.pinned (OpenSpec.upto gateAllowsSpec)

/-- 'changeoverlaw11.ConfChanges', WHERE WHAT IT READS IS OF BULK AT MOST 1048576: true; the input reads as it did. -/
def confChangesUptoRow : OpenClaim := { program := "ytfckggkmiegokaa", sum := "9f6b647d8892868b1962cdf34206e9b149d49930a7ac4e33c78e8d6b0d7da91e", func := "changeover/changeoverlaw11.ConfChanges", spec := "confChanges", inPlace := ["slices.overlaps[int]"], apart := false, narrowed := true }
def ConfChangesUptoSaid : Prop := confChangesUptoRow.holds Try.pinned (OpenSpec.upto confChangesSpec)

/-- 'changeoverlaw11.ConfTrims', WHERE WHAT IT READS IS OF BULK AT MOST 1048576: true; the input reads as it did. -/
def confTrimsUptoRow : OpenClaim := { program := "ytfckggkmiegokaa", sum := "9f6b647d8892868b1962cdf34206e9b149d49930a7ac4e33c78e8d6b0d7da91e", func := "changeover/changeoverlaw11.ConfTrims", spec := "confTrims", inPlace := ["slices.overlaps[int]"], apart := false, narrowed := true }
def ConfTrimsUptoSaid : Prop := confTrimsUptoRow.holds Try.pinned (OpenSpec.upto confTrimsSpec)

/-- 'changeoverlaw11.ConfAts', WHERE WHAT IT READS IS OF BULK AT MOST 1048576: true; the input reads as it did. -/
def confAtsUptoRow : OpenClaim := { program := "ytfckggkmiegokaa", sum := "9f6b647d8892868b1962cdf34206e9b149d49930a7ac4e33c78e8d6b0d7da91e", func := "changeover/changeoverlaw11.ConfAts", spec := "confAts", inPlace := ["slices.overlaps[int]"], apart := false, narrowed := true }
def ConfAtsUptoSaid : Prop := confAtsUptoRow.holds Try.pinned (OpenSpec.upto confAtsSpec)

end Rows
end Go.Proofs.Ytfckggkmiegokaa

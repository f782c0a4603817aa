/-
  No cell of these rows narrows 'for every input' (looked for: loops, veiled, ifaces, maps, wideKeys, modest, calm, conditions, laid).
  DERIVED. THE GIVEN ROWS OF THIS SEAT. 4 by the template 'for every input the law returns true; each argument reads behind the call as it read before'; 0 by the template 'total and deterministic' (their statements: YtmoifhoncanjjaaTotals.lean).
  GIVEN WITH THE SEED: the statements are not yours to turn. If you find one false, say at which input.
  Laid BY PROGRAM, IN A SANDBOX (cutbox-rows.mjs): the forced cells as the released guide's own fill.sh prints them over the translation c43fd24e9a08a3bf… (all of the seat's roots in one cut). By AI agents, Wed Nov 11 2026. No macro, syntax, notation, axiom, sorry.
-/
import Derived.Test.YtmoifhoncanjjaaChecked
import GoSem.Claim
import GoSem.ClaimJoined
import GoSem.ClaimMapViews
import Derived.JoinedTies
import Derived.KernelRfl
namespace Go.Proofs.Ytmoifhoncanjjaa
/- THE CELL 'sum', in the pinned program and in every row, IS THE sha256 OF THE DUMP (.gsa) THAT YtmoifhoncanjjaaProg.lean LOADS. Nothing in Lean hashes anything: it is a label: what it is worth is what the hold of that sum in a sandbox is worth. -/
noncomputable def Try.pinned : Pinned := { name := "ytmoifhoncanjjaa", sum := "c43fd24e9a08a3bf8ed5685cf062eed6f244ae60aff670777c6da7e2d33ee445", checked := Try.checked }
namespace Rows
def none {H : Type} : Left H := { results := [], args := [] }

/-- 'copybooklaw18.LogsKeeps': WHATEVER THE INPUT: true; the input reads as it did. -/
def logsKeepsSpec : ChangeSpec := { name := "logsKeeps", fn := fun _ => fun
  | [d1, d2, d3, d4] => { results := [.lit (.bool true)], args := [d1, d2, d3, d4] }
  | _ => none }
def logsKeepsRow : OpenClaim := { program := "ytmoifhoncanjjaa", sum := "c43fd24e9a08a3bf8ed5685cf062eed6f244ae60aff670777c6da7e2d33ee445", func := "copybook/copybooklaw18.LogsKeeps", spec := "logsKeeps", unfollowed := true, recurses := true, apart := false }
def LogsKeepsSaid : Prop := logsKeepsRow.holds Try.pinned (OpenSpec.ofChange logsKeepsSpec)

/-- ITS FALSE NEIGHBOUR: 'it returns false'. Refute it at one input. -/
def logsKeepsWrong : ChangeSpec := { name := "logsKeeps", fn := fun _ => fun
  | [d1, d2, d3, d4] => { results := [.lit (.bool false)], args := [d1, d2, d3, d4] }
  | _ => none }
def LogsKeepsWrongFalsely : Prop := logsKeepsRow.holds Try.pinned (OpenSpec.ofChange logsKeepsWrong)

/-- 'copybooklaw18.LogsFind': WHATEVER THE INPUT: true; the input reads as it did. -/
def logsFindSpec : ChangeSpec := { name := "logsFind", fn := fun _ => fun
  | [d1, d2, d3] => { results := [.lit (.bool true)], args := [d1, d2, d3] }
  | _ => none }
def logsFindRow : OpenClaim := { program := "ytmoifhoncanjjaa", sum := "c43fd24e9a08a3bf8ed5685cf062eed6f244ae60aff670777c6da7e2d33ee445", func := "copybook/copybooklaw18.LogsFind", spec := "logsFind", unfollowed := true, recurses := true, apart := false }
def LogsFindSaid : Prop := logsFindRow.holds Try.pinned (OpenSpec.ofChange logsFindSpec)

/-- ITS FALSE NEIGHBOUR: 'it returns false'. Refute it at one input. -/
def logsFindWrong : ChangeSpec := { name := "logsFind", fn := fun _ => fun
  | [d1, d2, d3] => { results := [.lit (.bool false)], args := [d1, d2, d3] }
  | _ => none }
def LogsFindWrongFalsely : Prop := logsFindRow.holds Try.pinned (OpenSpec.ofChange logsFindWrong)

/-- 'copybooklaw18.LogsPlays': WHATEVER THE INPUT: true; the input reads as it did. -/
def logsPlaysSpec : ChangeSpec := { name := "logsPlays", fn := fun _ => fun
  | [d1, d2, d3, d4] => { results := [.lit (.bool true)], args := [d1, d2, d3, d4] }
  | _ => none }
def logsPlaysRow : OpenClaim := { program := "ytmoifhoncanjjaa", sum := "c43fd24e9a08a3bf8ed5685cf062eed6f244ae60aff670777c6da7e2d33ee445", func := "copybook/copybooklaw18.LogsPlays", spec := "logsPlays", unfollowed := true, recurses := true, apart := false }
def LogsPlaysSaid : Prop := logsPlaysRow.holds Try.pinned (OpenSpec.ofChange logsPlaysSpec)

/-- ITS FALSE NEIGHBOUR: 'it returns false'. Refute it at one input. -/
def logsPlaysWrong : ChangeSpec := { name := "logsPlays", fn := fun _ => fun
  | [d1, d2, d3, d4] => { results := [.lit (.bool false)], args := [d1, d2, d3, d4] }
  | _ => none }
def LogsPlaysWrongFalsely : Prop := logsPlaysRow.holds Try.pinned (OpenSpec.ofChange logsPlaysWrong)

/-- 'copybooklaw18.LogsKnown': WHATEVER THE INPUT: true; the input reads as it did. -/
def logsKnownSpec : ChangeSpec := { name := "logsKnown", fn := fun _ => fun
  | [] => { results := [.lit (.bool true)], args := [] }
  | _ => none }
def logsKnownRow : OpenClaim := { program := "ytmoifhoncanjjaa", sum := "c43fd24e9a08a3bf8ed5685cf062eed6f244ae60aff670777c6da7e2d33ee445", func := "copybook/copybooklaw18.LogsKnown", spec := "logsKnown", unfollowed := true, recurses := true, apart := false }
def LogsKnownSaid : Prop := logsKnownRow.holds Try.pinned (OpenSpec.ofChange logsKnownSpec)

/-- ITS FALSE NEIGHBOUR: 'it returns false'. Refute it at one input. -/
def logsKnownWrong : ChangeSpec := { name := "logsKnown", fn := fun _ => fun
  | [] => { results := [.lit (.bool false)], args := [] }
  | _ => none }
def LogsKnownWrongFalsely : Prop := logsKnownRow.holds Try.pinned (OpenSpec.ofChange logsKnownWrong)

/- THE SECOND FORM. 'bulk': how many values and letters a reading holds, each counted each time it is reached (what is shared counts as often as it is met; a slice's spare places count too). A statement '..UptoSaid' is the law's where the arguments, and the package variables that the reading takes, are together of bulk at most 1048576: NARROWER than '..Said'. Prove '..Said' where nothing that the law and all that it calls make is longer than what came in: it says more and counts as full. Else prove '..UptoSaid'. A law counts once. -/
mutual
def uptoBulk {H : Type} : DataW H → Nat
  | .lit (.string bytes) => bytes.length + 1
  | .lit _ => 1
  | .nil => 1
  | .ptr d => uptoBulk d + 1
  | .slice elems spare => uptoBulkAll elems + uptoBulkAll spare + 1
  | .agg parts => uptoBulkAll parts + 1
  | .iface _ d => uptoBulk d + 1
  | .map entries => uptoBulkEntries entries + 1
  | .held _ => 1
def uptoBulkAll {H : Type} : List (DataW H) → Nat
  | [] => 0
  | d :: r => uptoBulk d + uptoBulkAll r
def uptoBulkEntries {H : Type} : List (Lit × DataW H) → Nat
  | [] => 0
  | x :: r => uptoBulkEntry x + uptoBulkEntries r
def uptoBulkEntry {H : Type} : Lit × DataW H → Nat
  | (.string bytes, d) => bytes.length + uptoBulk d + 1
  | (_, d) => uptoBulk d + 1
 end
def uptoSmall : (H : Type) → List (DataW H) → Bool := fun _ ds => decide (uptoBulkAll ds ≤ 1048576)
def OpenSpec.upto (s : _root_.Go.ChangeSpec) : _root_.Go.OpenSpec := { _root_.Go.OpenSpec.ofChange s with cond := some uptoSmall }

/-- 'copybooklaw18.LogsKeeps', WHERE WHAT IT READS IS OF BULK AT MOST 1048576: true; the input reads as it did. -/
def logsKeepsUptoRow : OpenClaim := { program := "ytmoifhoncanjjaa", sum := "c43fd24e9a08a3bf8ed5685cf062eed6f244ae60aff670777c6da7e2d33ee445", func := "copybook/copybooklaw18.LogsKeeps", spec := "logsKeeps", unfollowed := true, recurses := true, apart := false, narrowed := true }
def LogsKeepsUptoSaid : Prop := logsKeepsUptoRow.holds Try.pinned (OpenSpec.upto logsKeepsSpec)

/-- 'copybooklaw18.LogsFind', WHERE WHAT IT READS IS OF BULK AT MOST 1048576: true; the input reads as it did. -/
def logsFindUptoRow : OpenClaim := { program := "ytmoifhoncanjjaa", sum := "c43fd24e9a08a3bf8ed5685cf062eed6f244ae60aff670777c6da7e2d33ee445", func := "copybook/copybooklaw18.LogsFind", spec := "logsFind", unfollowed := true, recurses := true, apart := false, narrowed := true }
def LogsFindUptoSaid : Prop := logsFindUptoRow.holds Try.pinned (OpenSpec.upto logsFindSpec)

/-- 'copybooklaw18.LogsPlays', WHERE WHAT IT READS IS OF BULK AT MOST 1048576: true; the input reads as it did. -/
def logsPlaysUptoRow : OpenClaim := { program := "ytmoifhoncanjjaa", sum := "c43fd24e9a08a3bf8ed5685cf062eed6f244ae60aff670777c6da7e2d33ee445", func := "copybook/copybooklaw18.LogsPlays", spec := "logsPlays", unfollowed := true, recurses := true, apart := false, narrowed := true }
def LogsPlaysUptoSaid : Prop := logsPlaysUptoRow.holds Try.pinned (OpenSpec.upto logsPlaysSpec)

/-- 'copybooklaw18.LogsKnown', WHERE WHAT IT READS IS OF BULK AT MOST 1048576: true; the input reads as it did. -/
def logsKnownUptoRow : OpenClaim := { program := "ytmoifhoncanjjaa", sum := "c43fd24e9a08a3bf8ed5685cf062eed6f244ae60aff670777c6da7e2d33ee445", func := "copybook/copybooklaw18.LogsKnown", spec := "logsKnown", unfollowed := true, recurses := true, apart := false, narrowed := true }
def LogsKnownUptoSaid : Prop := logsKnownUptoRow.holds Try.pinned (OpenSpec.upto logsKnownSpec)

end Rows
end Go.Proofs.Ytmoifhoncanjjaa

/-
  No cell of these rows narrows 'for every input' (looked for: loops, veiled, ifaces, maps, wideKeys, modest, calm, conditions, laid).
  DERIVED. THE GIVEN ROWS OF THIS SEAT. 6 by the template 'for every input the law returns true; each argument reads behind the call as it read before'; 0 by the template 'total and deterministic' (their statements: YtelaiafpfaohfaaTotals.lean).
  GIVEN WITH THE SEED: the statements are not yours to turn. If you find one false, say at which input.
  Laid BY PROGRAM, IN A SANDBOX (cutbox-rows.mjs): the forced cells as the released guide's own fill.sh prints them over the translation 9b24f4140c22a603… (all of the seat's roots in one cut). By AI agents, Wed Nov 11 2026. No macro, syntax, notation, axiom, sorry.
-/
import Derived.Test.YtelaiafpfaohfaaChecked
import GoSem.Claim
import GoSem.ClaimJoined
import GoSem.ClaimMapViews
import Derived.JoinedTies
import Derived.KernelRfl
namespace Go.Proofs.Ytelaiafpfaohfaa
/- THE CELL 'sum', in the pinned program and in every row, IS THE sha256 OF THE DUMP (.gsa) THAT YtelaiafpfaohfaaProg.lean LOADS. Nothing in Lean hashes anything: it is a label: what it is worth is what the hold of that sum in a sandbox is worth. -/
noncomputable def Try.pinned : Pinned := { name := "ytelaiafpfaohfaa", sum := "9b24f4140c22a6037a3ca89e8023823fa056d422df96aa3840329256eaa97cdf", checked := Try.checked }
namespace Rows
def none {H : Type} : Left H := { results := [], args := [] }

/-- 'copybooklaw05.PiecePlays': WHATEVER THE INPUT: true; the input reads as it did. -/
def piecePlaysSpec : ChangeSpec := { name := "piecePlays", fn := fun _ => fun
  | [d1, d2] => { results := [.lit (.bool true)], args := [d1, d2] }
  | _ => none }
def piecePlaysRow : OpenClaim := { program := "ytelaiafpfaohfaa", sum := "9b24f4140c22a6037a3ca89e8023823fa056d422df96aa3840329256eaa97cdf", func := "copybook/copybooklaw05.PiecePlays", spec := "piecePlays", unfollowed := true, recurses := true, apart := false }
def PiecePlaysSaid : Prop := piecePlaysRow.holds Try.pinned (OpenSpec.ofChange piecePlaysSpec)

/-- ITS FALSE NEIGHBOUR: 'it returns false'. Refute it at one input. -/
def piecePlaysWrong : ChangeSpec := { name := "piecePlays", fn := fun _ => fun
  | [d1, d2] => { results := [.lit (.bool false)], args := [d1, d2] }
  | _ => none }
def PiecePlaysWrongFalsely : Prop := piecePlaysRow.holds Try.pinned (OpenSpec.ofChange piecePlaysWrong)

/-- 'copybooklaw05.PieceTyped': WHATEVER THE INPUT: true; the input reads as it did. -/
def pieceTypedSpec : ChangeSpec := { name := "pieceTyped", fn := fun _ => fun
  | [d1, d2, d3] => { results := [.lit (.bool true)], args := [d1, d2, d3] }
  | _ => none }
def pieceTypedRow : OpenClaim := { program := "ytelaiafpfaohfaa", sum := "9b24f4140c22a6037a3ca89e8023823fa056d422df96aa3840329256eaa97cdf", func := "copybook/copybooklaw05.PieceTyped", spec := "pieceTyped", unfollowed := true, recurses := true, apart := false }
def PieceTypedSaid : Prop := pieceTypedRow.holds Try.pinned (OpenSpec.ofChange pieceTypedSpec)

/-- ITS FALSE NEIGHBOUR: 'it returns false'. Refute it at one input. -/
def pieceTypedWrong : ChangeSpec := { name := "pieceTyped", fn := fun _ => fun
  | [d1, d2, d3] => { results := [.lit (.bool false)], args := [d1, d2, d3] }
  | _ => none }
def PieceTypedWrongFalsely : Prop := pieceTypedRow.holds Try.pinned (OpenSpec.ofChange pieceTypedWrong)

/-- 'copybooklaw05.PieceReads': WHATEVER THE INPUT: true; the input reads as it did. -/
def pieceReadsSpec : ChangeSpec := { name := "pieceReads", fn := fun _ => fun
  | [d1, d2, d3] => { results := [.lit (.bool true)], args := [d1, d2, d3] }
  | _ => none }
def pieceReadsRow : OpenClaim := { program := "ytelaiafpfaohfaa", sum := "9b24f4140c22a6037a3ca89e8023823fa056d422df96aa3840329256eaa97cdf", func := "copybook/copybooklaw05.PieceReads", spec := "pieceReads", unfollowed := true, recurses := true, apart := false }
def PieceReadsSaid : Prop := pieceReadsRow.holds Try.pinned (OpenSpec.ofChange pieceReadsSpec)

/-- ITS FALSE NEIGHBOUR: 'it returns false'. Refute it at one input. -/
def pieceReadsWrong : ChangeSpec := { name := "pieceReads", fn := fun _ => fun
  | [d1, d2, d3] => { results := [.lit (.bool false)], args := [d1, d2, d3] }
  | _ => none }
def PieceReadsWrongFalsely : Prop := pieceReadsRow.holds Try.pinned (OpenSpec.ofChange pieceReadsWrong)

/-- 'copybooklaw05.PieceKnown': WHATEVER THE INPUT: true; the input reads as it did. -/
def pieceKnownSpec : ChangeSpec := { name := "pieceKnown", fn := fun _ => fun
  | [] => { results := [.lit (.bool true)], args := [] }
  | _ => none }
def pieceKnownRow : OpenClaim := { program := "ytelaiafpfaohfaa", sum := "9b24f4140c22a6037a3ca89e8023823fa056d422df96aa3840329256eaa97cdf", func := "copybook/copybooklaw05.PieceKnown", spec := "pieceKnown", unfollowed := true, recurses := true, apart := false }
def PieceKnownSaid : Prop := pieceKnownRow.holds Try.pinned (OpenSpec.ofChange pieceKnownSpec)

/-- ITS FALSE NEIGHBOUR: 'it returns false'. Refute it at one input. -/
def pieceKnownWrong : ChangeSpec := { name := "pieceKnown", fn := fun _ => fun
  | [] => { results := [.lit (.bool false)], args := [] }
  | _ => none }
def PieceKnownWrongFalsely : Prop := pieceKnownRow.holds Try.pinned (OpenSpec.ofChange pieceKnownWrong)

/-- 'copybooklaw05.PieceApart': WHATEVER THE INPUT: true; the input reads as it did. -/
def pieceApartSpec : ChangeSpec := { name := "pieceApart", fn := fun _ => fun
  | [d1, d2, d3] => { results := [.lit (.bool true)], args := [d1, d2, d3] }
  | _ => none }
def pieceApartRow : OpenClaim := { program := "ytelaiafpfaohfaa", sum := "9b24f4140c22a6037a3ca89e8023823fa056d422df96aa3840329256eaa97cdf", func := "copybook/copybooklaw05.PieceApart", spec := "pieceApart", unfollowed := true, recurses := true, apart := false }
def PieceApartSaid : Prop := pieceApartRow.holds Try.pinned (OpenSpec.ofChange pieceApartSpec)

/-- ITS FALSE NEIGHBOUR: 'it returns false'. Refute it at one input. -/
def pieceApartWrong : ChangeSpec := { name := "pieceApart", fn := fun _ => fun
  | [d1, d2, d3] => { results := [.lit (.bool false)], args := [d1, d2, d3] }
  | _ => none }
def PieceApartWrongFalsely : Prop := pieceApartRow.holds Try.pinned (OpenSpec.ofChange pieceApartWrong)

/-- 'copybooklaw05.PieceText': WHATEVER THE INPUT: true; the input reads as it did. -/
def pieceTextSpec : ChangeSpec := { name := "pieceText", fn := fun _ => fun
  | [d1, d2] => { results := [.lit (.bool true)], args := [d1, d2] }
  | _ => none }
def pieceTextRow : OpenClaim := { program := "ytelaiafpfaohfaa", sum := "9b24f4140c22a6037a3ca89e8023823fa056d422df96aa3840329256eaa97cdf", func := "copybook/copybooklaw05.PieceText", spec := "pieceText", inPlace := ["slices.overlaps[copybook/api.Char]"], unfollowed := true, recurses := true, apart := false }
def PieceTextSaid : Prop := pieceTextRow.holds Try.pinned (OpenSpec.ofChange pieceTextSpec)

/-- ITS FALSE NEIGHBOUR: 'it returns false'. Refute it at one input. -/
def pieceTextWrong : ChangeSpec := { name := "pieceText", fn := fun _ => fun
  | [d1, d2] => { results := [.lit (.bool false)], args := [d1, d2] }
  | _ => none }
def PieceTextWrongFalsely : Prop := pieceTextRow.holds Try.pinned (OpenSpec.ofChange pieceTextWrong)

/- THE SECOND FORM. 'bulk': how many values and letters a reading holds, each counted each time it is reached (what is shared counts as often as it is met; a slice's spare places count too). A statement '..UptoSaid' is the law's where the arguments, and the package variables that the reading takes, are together of bulk at most 1048576: NARROWER than '..Said'. Prove '..Said' where nothing that the law and all that it calls make is longer than what came in: it says more and counts as full. Else prove '..UptoSaid'. A law counts once. -/
mutual
def uptoBulk {H : Type} : DataW H → Nat
  | .lit (.string bytes) => bytes.length + 1
  | .lit _ => 1
  | .nil => 1
  | .ptr d => uptoBulk d + 1
  | .slice elems spare => uptoBulkAll elems + uptoBulkAll spare + 1
  | .agg parts => uptoBulkAll parts + 1
  | .iface _ d => uptoBulk d + 1
  | .map entries => uptoBulkEntries entries + 1
  | .held _ => 1
def uptoBulkAll {H : Type} : List (DataW H) → Nat
  | [] => 0
  | d :: r => uptoBulk d + uptoBulkAll r
def uptoBulkEntries {H : Type} : List (Lit × DataW H) → Nat
  | [] => 0
  | x :: r => uptoBulkEntry x + uptoBulkEntries r
def uptoBulkEntry {H : Type} : Lit × DataW H → Nat
  | (.string bytes, d) => bytes.length + uptoBulk d + 1
  | (_, d) => uptoBulk d + 1
 end
def uptoSmall : (H : Type) → List (DataW H) → Bool := fun _ ds => decide (uptoBulkAll ds ≤ 1048576)
def OpenSpec.upto (s : _root_.Go.ChangeSpec) : _root_.Go.OpenSpec := { _root_.Go.OpenSpec.ofChange s with cond := some uptoSmall }

/-- 'copybooklaw05.PiecePlays', WHERE WHAT IT READS IS OF BULK AT MOST 1048576: true; the input reads as it did. -/
def piecePlaysUptoRow : OpenClaim := { program := "ytelaiafpfaohfaa", sum := "9b24f4140c22a6037a3ca89e8023823fa056d422df96aa3840329256eaa97cdf", func := "copybook/copybooklaw05.PiecePlays", spec := "piecePlays", unfollowed := true, recurses := true, apart := false, narrowed := true }
def PiecePlaysUptoSaid : Prop := piecePlaysUptoRow.holds Try.pinned (OpenSpec.upto piecePlaysSpec)

/-- 'copybooklaw05.PieceTyped', WHERE WHAT IT READS IS OF BULK AT MOST 1048576: true; the input reads as it did. -/
def pieceTypedUptoRow : OpenClaim := { program := "ytelaiafpfaohfaa", sum := "9b24f4140c22a6037a3ca89e8023823fa056d422df96aa3840329256eaa97cdf", func := "copybook/copybooklaw05.PieceTyped", spec := "pieceTyped", unfollowed := true, recurses := true, apart := false, narrowed := true }
def PieceTypedUptoSaid : Prop := pieceTypedUptoRow.holds Try.pinned (OpenSpec.upto pieceTypedSpec)

/-- 'copybooklaw05.PieceReads', WHERE WHAT IT READS IS OF BULK AT MOST 1048576: true; the input reads as it did. -/
def pieceReadsUptoRow : OpenClaim := { program := "ytelaiafpfaohfaa", sum := "9b24f4140c22a6037a3ca89e8023823fa056d422df96aa3840329256eaa97cdf", func := "copybook/copybooklaw05.PieceReads", spec := "pieceReads", unfollowed := true, recurses := true, apart := false, narrowed := true }
def PieceReadsUptoSaid : Prop := pieceReadsUptoRow.holds Try.pinned (OpenSpec.upto pieceReadsSpec)

/-- 'copybooklaw05.PieceKnown', WHERE WHAT IT READS IS OF BULK AT MOST 1048576: true; the input reads as it did. -/
def pieceKnownUptoRow : OpenClaim := { program := "ytelaiafpfaohfaa", sum := "9b24f4140c22a6037a3ca89e8023823fa056d422df96aa3840329256eaa97cdf", func := "copybook/copybooklaw05.PieceKnown", spec := "pieceKnown", unfollowed := true, recurses := true, apart := false, narrowed := true }
def PieceKnownUptoSaid : Prop := pieceKnownUptoRow.holds Try.pinned (OpenSpec.upto pieceKnownSpec)

/-- 'copybooklaw05.PieceApart', WHERE WHAT IT READS IS OF BULK AT MOST 1048576: true; the input reads as it did. -/
def pieceApartUptoRow : OpenClaim := { program := "ytelaiafpfaohfaa", sum := "9b24f4140c22a6037a3ca89e8023823fa056d422df96aa3840329256eaa97cdf", func := "copybook/copybooklaw05.PieceApart", spec := "pieceApart", unfollowed := true, recurses := true, apart := false, narrowed := true }
def PieceApartUptoSaid : Prop := pieceApartUptoRow.holds Try.pinned (OpenSpec.upto pieceApartSpec)

/-- 'copybooklaw05.PieceText', WHERE WHAT IT READS IS OF BULK AT MOST 1048576: true; the input reads as it did. -/
def pieceTextUptoRow : OpenClaim := { program := "ytelaiafpfaohfaa", sum := "9b24f4140c22a6037a3ca89e8023823fa056d422df96aa3840329256eaa97cdf", func := "copybook/copybooklaw05.PieceText", spec := "pieceText", inPlace := ["slices.overlaps[copybook/api.Char]"], unfollowed := true, recurses := true, apart := false, narrowed := true }
def PieceTextUptoSaid : Prop := pieceTextUptoRow.holds Try.pinned (OpenSpec.upto pieceTextSpec)

end Rows
end Go.Proofs.Ytelaiafpfaohfaa

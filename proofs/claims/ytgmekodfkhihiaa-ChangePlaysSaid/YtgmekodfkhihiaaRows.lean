/-
  No cell of these rows narrows 'for every input' (looked for: loops, veiled, ifaces, maps, wideKeys, modest, calm, conditions, laid).
  DERIVED. THE GIVEN ROWS OF THIS SEAT. 5 by the template 'for every input the law returns true; each argument reads behind the call as it read before'; 0 by the template 'total and deterministic' (their statements: YtgmekodfkhihiaaTotals.lean).
  GIVEN WITH THE SEED: the statements are not yours to turn. If you find one false, say at which input.
  Laid BY PROGRAM, IN A SANDBOX (cutbox-rows.mjs): the forced cells as the released guide's own fill.sh prints them over the translation e9cf2bf7d82eb206… (all of the seat's roots in one cut). By AI agents, Wed Nov 11 2026. No macro, syntax, notation, axiom, sorry.
-/
import Derived.Test.YtgmekodfkhihiaaChecked
import GoSem.Claim
import GoSem.ClaimJoined
import GoSem.ClaimMapViews
import Derived.JoinedTies
import Derived.KernelRfl
namespace Go.Proofs.Ytgmekodfkhihiaa
/- THE CELL 'sum', in the pinned program and in every row, IS THE sha256 OF THE DUMP (.gsa) THAT YtgmekodfkhihiaaProg.lean LOADS. Nothing in Lean hashes anything: it is a label: what it is worth is what the hold of that sum in a sandbox is worth. -/
noncomputable def Try.pinned : Pinned := { name := "ytgmekodfkhihiaa", sum := "e9cf2bf7d82eb2060a0083f60501378d0350a4d248bb8d97cfc241d61963d47e", checked := Try.checked }
namespace Rows
def none {H : Type} : Left H := { results := [], args := [] }

/-- 'copybooklaw22.ChangeKeeps': WHATEVER THE INPUT: true; the input reads as it did. -/
def changeKeepsSpec : ChangeSpec := { name := "changeKeeps", fn := fun _ => fun
  | [d1, d2, d3, d4, d5, d6] => { results := [.lit (.bool true)], args := [d1, d2, d3, d4, d5, d6] }
  | _ => none }
def changeKeepsRow : OpenClaim := { program := "ytgmekodfkhihiaa", sum := "e9cf2bf7d82eb2060a0083f60501378d0350a4d248bb8d97cfc241d61963d47e", func := "copybook/copybooklaw22.ChangeKeeps", spec := "changeKeeps", unfollowed := true, recurses := true, plainKeys := false, apart := false }
def ChangeKeepsSaid : Prop := changeKeepsRow.holds Try.pinned (OpenSpec.ofChange changeKeepsSpec)

/-- ITS FALSE NEIGHBOUR: 'it returns false'. Refute it at one input. -/
def changeKeepsWrong : ChangeSpec := { name := "changeKeeps", fn := fun _ => fun
  | [d1, d2, d3, d4, d5, d6] => { results := [.lit (.bool false)], args := [d1, d2, d3, d4, d5, d6] }
  | _ => none }
def ChangeKeepsWrongFalsely : Prop := changeKeepsRow.holds Try.pinned (OpenSpec.ofChange changeKeepsWrong)

/-- 'copybooklaw22.ChangeOrder': WHATEVER THE INPUT: true; the input reads as it did. -/
def changeOrderSpec : ChangeSpec := { name := "changeOrder", fn := fun _ => fun
  | [d1, d2] => { results := [.lit (.bool true)], args := [d1, d2] }
  | _ => none }
def changeOrderRow : OpenClaim := { program := "ytgmekodfkhihiaa", sum := "e9cf2bf7d82eb2060a0083f60501378d0350a4d248bb8d97cfc241d61963d47e", func := "copybook/copybooklaw22.ChangeOrder", spec := "changeOrder", unfollowed := true, recurses := true, plainKeys := false, apart := false }
def ChangeOrderSaid : Prop := changeOrderRow.holds Try.pinned (OpenSpec.ofChange changeOrderSpec)

/-- ITS FALSE NEIGHBOUR: 'it returns false'. Refute it at one input. -/
def changeOrderWrong : ChangeSpec := { name := "changeOrder", fn := fun _ => fun
  | [d1, d2] => { results := [.lit (.bool false)], args := [d1, d2] }
  | _ => none }
def ChangeOrderWrongFalsely : Prop := changeOrderRow.holds Try.pinned (OpenSpec.ofChange changeOrderWrong)

/-- 'copybooklaw22.ChangePlays': WHATEVER THE INPUT: true; the input reads as it did. -/
def changePlaysSpec : ChangeSpec := { name := "changePlays", fn := fun _ => fun
  | [d1, d2, d3] => { results := [.lit (.bool true)], args := [d1, d2, d3] }
  | _ => none }
def changePlaysRow : OpenClaim := { program := "ytgmekodfkhihiaa", sum := "e9cf2bf7d82eb2060a0083f60501378d0350a4d248bb8d97cfc241d61963d47e", func := "copybook/copybooklaw22.ChangePlays", spec := "changePlays", inPlace := ["maps.clone"], unfollowed := true, recurses := true, plainKeys := false, apart := false }
def ChangePlaysSaid : Prop := changePlaysRow.holds Try.pinned (OpenSpec.ofChange changePlaysSpec)

/-- ITS FALSE NEIGHBOUR: 'it returns false'. Refute it at one input. -/
def changePlaysWrong : ChangeSpec := { name := "changePlays", fn := fun _ => fun
  | [d1, d2, d3] => { results := [.lit (.bool false)], args := [d1, d2, d3] }
  | _ => none }
def ChangePlaysWrongFalsely : Prop := changePlaysRow.holds Try.pinned (OpenSpec.ofChange changePlaysWrong)

/-- 'copybooklaw22.ChangeViews': WHATEVER THE INPUT: true; the input reads as it did. -/
def changeViewsSpec : ChangeSpec := { name := "changeViews", fn := fun _ => fun
  | [d1, d2, d3] => { results := [.lit (.bool true)], args := [d1, d2, d3] }
  | _ => none }
def changeViewsRow : OpenClaim := { program := "ytgmekodfkhihiaa", sum := "e9cf2bf7d82eb2060a0083f60501378d0350a4d248bb8d97cfc241d61963d47e", func := "copybook/copybooklaw22.ChangeViews", spec := "changeViews", inPlace := ["maps.clone"], unfollowed := true, recurses := true, plainKeys := false, apart := false }
def ChangeViewsSaid : Prop := changeViewsRow.holds Try.pinned (OpenSpec.ofChange changeViewsSpec)

/-- ITS FALSE NEIGHBOUR: 'it returns false'. Refute it at one input. -/
def changeViewsWrong : ChangeSpec := { name := "changeViews", fn := fun _ => fun
  | [d1, d2, d3] => { results := [.lit (.bool false)], args := [d1, d2, d3] }
  | _ => none }
def ChangeViewsWrongFalsely : Prop := changeViewsRow.holds Try.pinned (OpenSpec.ofChange changeViewsWrong)

/-- 'copybooklaw22.ChangeKnown': WHATEVER THE INPUT: true; the input reads as it did. -/
def changeKnownSpec : ChangeSpec := { name := "changeKnown", fn := fun _ => fun
  | [] => { results := [.lit (.bool true)], args := [] }
  | _ => none }
def changeKnownRow : OpenClaim := { program := "ytgmekodfkhihiaa", sum := "e9cf2bf7d82eb2060a0083f60501378d0350a4d248bb8d97cfc241d61963d47e", func := "copybook/copybooklaw22.ChangeKnown", spec := "changeKnown", inPlace := ["maps.clone"], unfollowed := true, recurses := true, plainKeys := false, apart := false }
def ChangeKnownSaid : Prop := changeKnownRow.holds Try.pinned (OpenSpec.ofChange changeKnownSpec)

/-- ITS FALSE NEIGHBOUR: 'it returns false'. Refute it at one input. -/
def changeKnownWrong : ChangeSpec := { name := "changeKnown", fn := fun _ => fun
  | [] => { results := [.lit (.bool false)], args := [] }
  | _ => none }
def ChangeKnownWrongFalsely : Prop := changeKnownRow.holds Try.pinned (OpenSpec.ofChange changeKnownWrong)

/- THE SECOND FORM. 'bulk': how many values and letters a reading holds, each counted each time it is reached (what is shared counts as often as it is met; a slice's spare places count too). A statement '..UptoSaid' is the law's where the arguments, and the package variables that the reading takes, are together of bulk at most 1048576: NARROWER than '..Said'. Prove '..Said' where nothing that the law and all that it calls make is longer than what came in: it says more and counts as full. Else prove '..UptoSaid'. A law counts once. -/
mutual
def uptoBulk {H : Type} : DataW H → Nat
  | .lit (.string bytes) => bytes.length + 1
  | .lit _ => 1
  | .nil => 1
  | .ptr d => uptoBulk d + 1
  | .slice elems spare => uptoBulkAll elems + uptoBulkAll spare + 1
  | .agg parts => uptoBulkAll parts + 1
  | .iface _ d => uptoBulk d + 1
  | .map entries => uptoBulkEntries entries + 1
  | .held _ => 1
def uptoBulkAll {H : Type} : List (DataW H) → Nat
  | [] => 0
  | d :: r => uptoBulk d + uptoBulkAll r
def uptoBulkEntries {H : Type} : List (Lit × DataW H) → Nat
  | [] => 0
  | x :: r => uptoBulkEntry x + uptoBulkEntries r
def uptoBulkEntry {H : Type} : Lit × DataW H → Nat
  | (.string bytes, d) => bytes.length + uptoBulk d + 1
  | (_, d) => uptoBulk d + 1
 end
def uptoSmall : (H : Type) → List (DataW H) → Bool := fun _ ds => decide (uptoBulkAll ds ≤ 1048576)
def OpenSpec.upto (s : _root_.Go.ChangeSpec) : _root_.Go.OpenSpec := { _root_.Go.OpenSpec.ofChange s with cond := some uptoSmall }

/-- 'copybooklaw22.ChangeKeeps', WHERE WHAT IT READS IS OF BULK AT MOST 1048576: true; the input reads as it did. -/
def changeKeepsUptoRow : OpenClaim := { program := "ytgmekodfkhihiaa", sum := "e9cf2bf7d82eb2060a0083f60501378d0350a4d248bb8d97cfc241d61963d47e", func := "copybook/copybooklaw22.ChangeKeeps", spec := "changeKeeps", unfollowed := true, recurses := true, plainKeys := false, apart := false, narrowed := true }
def ChangeKeepsUptoSaid : Prop := changeKeepsUptoRow.holds Try.pinned (OpenSpec.upto changeKeepsSpec)

/-- 'copybooklaw22.ChangeOrder', WHERE WHAT IT READS IS OF BULK AT MOST 1048576: true; the input reads as it did. -/
def changeOrderUptoRow : OpenClaim := { program := "ytgmekodfkhihiaa", sum := "e9cf2bf7d82eb2060a0083f60501378d0350a4d248bb8d97cfc241d61963d47e", func := "copybook/copybooklaw22.ChangeOrder", spec := "changeOrder", unfollowed := true, recurses := true, plainKeys := false, apart := false, narrowed := true }
def ChangeOrderUptoSaid : Prop := changeOrderUptoRow.holds Try.pinned (OpenSpec.upto changeOrderSpec)

/-- 'copybooklaw22.ChangePlays', WHERE WHAT IT READS IS OF BULK AT MOST 1048576: true; the input reads as it did. -/
def changePlaysUptoRow : OpenClaim := { program := "ytgmekodfkhihiaa", sum := "e9cf2bf7d82eb2060a0083f60501378d0350a4d248bb8d97cfc241d61963d47e", func := "copybook/copybooklaw22.ChangePlays", spec := "changePlays", inPlace := ["maps.clone"], unfollowed := true, recurses := true, plainKeys := false, apart := false, narrowed := true }
def ChangePlaysUptoSaid : Prop := changePlaysUptoRow.holds Try.pinned (OpenSpec.upto changePlaysSpec)

/-- 'copybooklaw22.ChangeViews', WHERE WHAT IT READS IS OF BULK AT MOST 1048576: true; the input reads as it did. -/
def changeViewsUptoRow : OpenClaim := { program := "ytgmekodfkhihiaa", sum := "e9cf2bf7d82eb2060a0083f60501378d0350a4d248bb8d97cfc241d61963d47e", func := "copybook/copybooklaw22.ChangeViews", spec := "changeViews", inPlace := ["maps.clone"], unfollowed := true, recurses := true, plainKeys := false, apart := false, narrowed := true }
def ChangeViewsUptoSaid : Prop := changeViewsUptoRow.holds Try.pinned (OpenSpec.upto changeViewsSpec)

/-- 'copybooklaw22.ChangeKnown', WHERE WHAT IT READS IS OF BULK AT MOST 1048576: true; the input reads as it did. -/
def changeKnownUptoRow : OpenClaim := { program := "ytgmekodfkhihiaa", sum := "e9cf2bf7d82eb2060a0083f60501378d0350a4d248bb8d97cfc241d61963d47e", func := "copybook/copybooklaw22.ChangeKnown", spec := "changeKnown", inPlace := ["maps.clone"], unfollowed := true, recurses := true, plainKeys := false, apart := false, narrowed := true }
def ChangeKnownUptoSaid : Prop := changeKnownUptoRow.holds Try.pinned (OpenSpec.upto changeKnownSpec)

end Rows
end Go.Proofs.Ytgmekodfkhihiaa

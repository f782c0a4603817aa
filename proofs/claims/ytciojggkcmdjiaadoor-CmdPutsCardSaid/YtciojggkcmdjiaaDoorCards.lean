/-
  DERIVED. GIVEN WITH THE SEED: THE CARDS: each row of YtciojggkcmdjiaaDoorRows.lean that lists a variable, with what it lists TIED to the program's text (the seventh form; the later family's looks); each row that meets fmt, with fmt's text TOLD by the authors' own Lean function (tested against real Go, not proved from fmt's source: count such statements apart). THE CARD IS WHAT COUNTS. Prove the row's statement (the work); the ties are given (YtciojggkcmdjiaaDoorTie.lean); close each card by the builder's one call (the guide's Derived/Test/ToyasCard.lean, 'card_holds'). Laid BY PROGRAM, IN A SANDBOX (cutbox-door.mjs). By AI agents, Wed Nov 11 2026. No macro, syntax, notation, axiom, sorry.
-/
import Derived.Test.YtciojggkcmdjiaaDoorRows
import GoSem.ClaimSeven
namespace Go.Proofs.YtciojggkcmdjiaaDoor
namespace Rows

/-- THE TIED CARD OF 'copybooklaw15.CmdBack'. -/
def cmdBackCard : Claim7 := { stood := { row := cmdBackRow, standIns := [], harness := (true, "0e8b8f84a8c07afbc277ca1a280fce61b5a23c1a960a0f52978a1c4c56894fb9"), looks := false }, kinds := [], alts := [], laidByText := true, laidKinds := [.data], laidTests := true, laidLooks := .later }
def CmdBackCardSaid : Prop := Claim7.holds Tryd.pinned (.plain (OpenSpec.ofChange cmdBackSpec)) cmdBackCard

/-- THE TIED CARD OF 'copybooklaw15.CmdPuts'. -/
def cmdPutsCard : Claim7 := { stood := { row := cmdPutsRow, standIns := [], harness := (true, "0e8b8f84a8c07afbc277ca1a280fce61b5a23c1a960a0f52978a1c4c56894fb9"), looks := false }, kinds := [], alts := [], laidByText := true, laidKinds := [.data], laidTests := true, laidLooks := .later }
def CmdPutsCardSaid : Prop := Claim7.holds Tryd.pinned (.plain (OpenSpec.ofChange cmdPutsSpec)) cmdPutsCard

/-- THE SECOND FORM's CARD OF 'copybooklaw15.CmdBack'. -/
def cmdBackUptoCard : Claim7 := { stood := { row := cmdBackUptoRow, standIns := [], harness := (true, "0e8b8f84a8c07afbc277ca1a280fce61b5a23c1a960a0f52978a1c4c56894fb9"), looks := false }, kinds := [], alts := [], laidByText := true, laidKinds := [.data], laidTests := true, laidLooks := .later }
def CmdBackUptoCardSaid : Prop := Claim7.holds Tryd.pinned (.plain (OpenSpec.upto cmdBackSpec)) cmdBackUptoCard

/-- THE SECOND FORM's CARD OF 'copybooklaw15.CmdPuts'. -/
def cmdPutsUptoCard : Claim7 := { stood := { row := cmdPutsUptoRow, standIns := [], harness := (true, "0e8b8f84a8c07afbc277ca1a280fce61b5a23c1a960a0f52978a1c4c56894fb9"), looks := false }, kinds := [], alts := [], laidByText := true, laidKinds := [.data], laidTests := true, laidLooks := .later }
def CmdPutsUptoCardSaid : Prop := Claim7.holds Tryd.pinned (.plain (OpenSpec.upto cmdPutsSpec)) cmdPutsUptoCard
end Rows
end Go.Proofs.YtciojggkcmdjiaaDoor

/-
  DERIVED. GIVEN WITH THE SEED: THE CARDS: each row of YtkcnkimndhgkgaaGreatDoorRows.lean that lists a variable, with what it lists TIED to the program's text (the seventh form; the later family's looks); each row that meets fmt, with fmt's text TOLD by the authors' own Lean function (tested against real Go, not proved from fmt's source: count such statements apart). THE CARD IS WHAT COUNTS. Prove the row's statement (the work); the ties are given (YtkcnkimndhgkgaaGreatDoorTie.lean); close each card by the builder's one call (the guide's Derived/Test/ToyasCard.lean, 'card_holds'). Laid BY PROGRAM, IN A SANDBOX (cutbox-door.mjs). By AI agents, Wed Nov 11 2026. No macro, syntax, notation, axiom, sorry.
-/
import Derived.Test.YtkcnkimndhgkgaaGreatDoorRows
import GoSem.ClaimSeven
namespace Go.Proofs.YtkcnkimndhgkgaaGreatDoor
namespace Rows

/-- THE TIED CARD OF 'parcenerlaw44.CheckNames'. -/
def checkNamesCard : Claim7 := { stood := { row := checkNamesRow, standIns := [], harness := (true, "6bdc8ea3621c223cd2853ffa7cdfb2d504502d4b62a17a8fa195895f4114c5e9"), looks := true }, kinds := [], alts := [], laidByText := true, laidKinds := [.data, .data, .data, .data, .sentinel, .sentinel, .pinned], laidTests := true, laidLooks := .later }
def CheckNamesCardSaid : Prop := Claim7.holds Tryz.pinned (.plain (OpenSpec.ofChange checkNamesSpec)) checkNamesCard

/-- THE TIED CARD OF 'parcenerlaw43.PrintNames'. -/
def printNamesCard : Claim7 := { stood := { row := printNamesRow, standIns := [], harness := (true, "6bdc8ea3621c223cd2853ffa7cdfb2d504502d4b62a17a8fa195895f4114c5e9"), looks := true }, kinds := [], alts := [], laidByText := true, laidKinds := [.data, .data, .data, .data, .sentinel, .sentinel, .pinned], laidTests := true, laidLooks := .later }
def PrintNamesCardSaid : Prop := Claim7.holds Tryz.pinned (.plain (OpenSpec.ofChange printNamesSpec)) printNamesCard

/-- THE SECOND FORM's CARD OF 'parcenerlaw44.CheckNames'. -/
def checkNamesUptoCard : Claim7 := { stood := { row := checkNamesUptoRow, standIns := [], harness := (true, "6bdc8ea3621c223cd2853ffa7cdfb2d504502d4b62a17a8fa195895f4114c5e9"), looks := true }, kinds := [], alts := [], laidByText := true, laidKinds := [.data, .data, .data, .data, .sentinel, .sentinel, .pinned], laidTests := true, laidLooks := .later }
def CheckNamesUptoCardSaid : Prop := Claim7.holds Tryz.pinned (.plain (OpenSpec.upto checkNamesSpec)) checkNamesUptoCard

/-- THE SECOND FORM's CARD OF 'parcenerlaw43.PrintNames'. -/
def printNamesUptoCard : Claim7 := { stood := { row := printNamesUptoRow, standIns := [], harness := (true, "6bdc8ea3621c223cd2853ffa7cdfb2d504502d4b62a17a8fa195895f4114c5e9"), looks := true }, kinds := [], alts := [], laidByText := true, laidKinds := [.data, .data, .data, .data, .sentinel, .sentinel, .pinned], laidTests := true, laidLooks := .later }
def PrintNamesUptoCardSaid : Prop := Claim7.holds Tryz.pinned (.plain (OpenSpec.upto printNamesSpec)) printNamesUptoCard
end Rows
end Go.Proofs.YtkcnkimndhgkgaaGreatDoor

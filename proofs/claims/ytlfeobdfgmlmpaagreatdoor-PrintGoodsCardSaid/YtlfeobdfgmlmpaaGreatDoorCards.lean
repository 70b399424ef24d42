/-
  DERIVED. GIVEN WITH THE SEED: THE CARDS: each row of YtlfeobdfgmlmpaaGreatDoorRows.lean that lists a variable, with what it lists TIED to the program's text (the seventh form; the later family's looks); each row that meets fmt, with fmt's text TOLD by the authors' own Lean function (tested against real Go, not proved from fmt's source: count such statements apart). THE CARD IS WHAT COUNTS. Prove the row's statement (the work); the ties are given (YtlfeobdfgmlmpaaGreatDoorTie.lean); close each card by the builder's one call (the guide's Derived/Test/ToyasCard.lean, 'card_holds'). Laid BY PROGRAM, IN A SANDBOX (cutbox-door.mjs). By AI agents, Wed Nov 11 2026. No macro, syntax, notation, axiom, sorry.
-/
import Derived.Test.YtlfeobdfgmlmpaaGreatDoorRows
import GoSem.ClaimSeven
namespace Go.Proofs.YtlfeobdfgmlmpaaGreatDoor
namespace Rows

/-- THE TIED CARD OF 'parcenerlaw43.PrintGoods'. -/
def printGoodsCard : Claim7 := { stood := { row := printGoodsRow, standIns := [], harness := (true, "5c68a7f53a3529523a6a6790695b0443bdca33c192181b8f5a6ca0dde643f2d2"), looks := false }, kinds := [], alts := [], laidByText := true, laidKinds := [.data, .data, .data], laidTests := true, laidLooks := .later }
def PrintGoodsCardSaid : Prop := Claim7.holds Tryz.pinned (.plain (OpenSpec.ofChange printGoodsSpec)) printGoodsCard

/-- THE SECOND FORM's CARD OF 'parcenerlaw43.PrintGoods'. -/
def printGoodsUptoCard : Claim7 := { stood := { row := printGoodsUptoRow, standIns := [], harness := (true, "5c68a7f53a3529523a6a6790695b0443bdca33c192181b8f5a6ca0dde643f2d2"), looks := false }, kinds := [], alts := [], laidByText := true, laidKinds := [.data, .data, .data], laidTests := true, laidLooks := .later }
def PrintGoodsUptoCardSaid : Prop := Claim7.holds Tryz.pinned (.plain (OpenSpec.upto printGoodsSpec)) printGoodsUptoCard
end Rows
end Go.Proofs.YtlfeobdfgmlmpaaGreatDoor

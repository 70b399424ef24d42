/-
  DERIVED. GIVEN WITH THE SEED: THE CARDS: each row of YtpblmkephkhlkaaDoorRows.lean that lists a variable, with what it lists TIED to the program's text (the seventh form; the later family's looks); each row that meets fmt, with fmt's text TOLD by the authors' own Lean function (tested against real Go, not proved from fmt's source: count such statements apart). THE CARD IS WHAT COUNTS. Prove the row's statement (the work); the ties are given (YtpblmkephkhlkaaDoorTie.lean); close each card by the builder's one call (the guide's Derived/Test/ToyasCard.lean, 'card_holds'). Laid BY PROGRAM, IN A SANDBOX (cutbox-door.mjs). By AI agents, Wed Nov 11 2026. No macro, syntax, notation, axiom, sorry.
-/
import Derived.Test.YtpblmkephkhlkaaDoorRows
import GoSem.ClaimSeven
namespace Go.Proofs.YtpblmkephkhlkaaDoor
namespace Rows

/-- THE TIED CARD OF 'parcenerlaw37.LedgerSettles'. -/
def ledgerSettlesCard : Claim7 := { stood := { row := ledgerSettlesRow, standIns := [], harness := (true, "c574c69ac59fb3124327a303ca252de68517c022ba0d0c9022e11bf7ae4326c0"), looks := false }, kinds := [], alts := [], laidByText := true, laidKinds := [.data, .data], laidTests := true, laidLooks := .later }
def LedgerSettlesCardSaid : Prop := Claim7.holds Tryd.pinned (.plain (OpenSpec.ofChange ledgerSettlesSpec)) ledgerSettlesCard

/-- THE TIED CARD OF 'parcenerlaw37.LedgerFewest'. -/
def ledgerFewestCard : Claim7 := { stood := { row := ledgerFewestRow, standIns := [], harness := (true, "c574c69ac59fb3124327a303ca252de68517c022ba0d0c9022e11bf7ae4326c0"), looks := false }, kinds := [], alts := [], laidByText := true, laidKinds := [.data, .data], laidTests := true, laidLooks := .later }
def LedgerFewestCardSaid : Prop := Claim7.holds Tryd.pinned (.plain (OpenSpec.ofChange ledgerFewestSpec)) ledgerFewestCard

/-- THE TIED CARD OF 'parcenerlaw37.LedgerGroups'. -/
def ledgerGroupsCard : Claim7 := { stood := { row := ledgerGroupsRow, standIns := [], harness := (true, "c574c69ac59fb3124327a303ca252de68517c022ba0d0c9022e11bf7ae4326c0"), looks := false }, kinds := [], alts := [], laidByText := true, laidKinds := [.data, .data], laidTests := true, laidLooks := .later }
def LedgerGroupsCardSaid : Prop := Claim7.holds Tryd.pinned (.plain (OpenSpec.ofChange ledgerGroupsSpec)) ledgerGroupsCard

/-- THE TIED CARD OF 'parcenerlaw37.LedgerShares'. -/
def ledgerSharesCard : Claim7 := { stood := { row := ledgerSharesRow, standIns := [], harness := (true, "c574c69ac59fb3124327a303ca252de68517c022ba0d0c9022e11bf7ae4326c0"), looks := false }, kinds := [], alts := [], laidByText := true, laidKinds := [.data, .data], laidTests := true, laidLooks := .later }
def LedgerSharesCardSaid : Prop := Claim7.holds Tryd.pinned (.plain (OpenSpec.ofChange ledgerSharesSpec)) ledgerSharesCard

/-- THE TIED CARD OF 'parcenerlaw37.LedgerNames'. -/
def ledgerNamesCard : Claim7 := { stood := { row := ledgerNamesRow, standIns := [], harness := (true, "c574c69ac59fb3124327a303ca252de68517c022ba0d0c9022e11bf7ae4326c0"), looks := false }, kinds := [], alts := [], laidByText := true, laidKinds := [.data, .data], laidTests := true, laidLooks := .later }
def LedgerNamesCardSaid : Prop := Claim7.holds Tryd.pinned (.plain (OpenSpec.ofChange ledgerNamesSpec)) ledgerNamesCard

/-- THE TIED CARD OF 'parcenerlaw37.LedgerSums'. -/
def ledgerSumsCard : Claim7 := { stood := { row := ledgerSumsRow, standIns := [], harness := (true, "c574c69ac59fb3124327a303ca252de68517c022ba0d0c9022e11bf7ae4326c0"), looks := false }, kinds := [], alts := [], laidByText := true, laidKinds := [.data, .data], laidTests := true, laidLooks := .later }
def LedgerSumsCardSaid : Prop := Claim7.holds Tryd.pinned (.plain (OpenSpec.ofChange ledgerSumsSpec)) ledgerSumsCard

/-- THE SECOND FORM's CARD OF 'parcenerlaw37.LedgerSettles'. -/
def ledgerSettlesUptoCard : Claim7 := { stood := { row := ledgerSettlesUptoRow, standIns := [], harness := (true, "c574c69ac59fb3124327a303ca252de68517c022ba0d0c9022e11bf7ae4326c0"), looks := false }, kinds := [], alts := [], laidByText := true, laidKinds := [.data, .data], laidTests := true, laidLooks := .later }
def LedgerSettlesUptoCardSaid : Prop := Claim7.holds Tryd.pinned (.plain (OpenSpec.upto ledgerSettlesSpec)) ledgerSettlesUptoCard

/-- THE SECOND FORM's CARD OF 'parcenerlaw37.LedgerFewest'. -/
def ledgerFewestUptoCard : Claim7 := { stood := { row := ledgerFewestUptoRow, standIns := [], harness := (true, "c574c69ac59fb3124327a303ca252de68517c022ba0d0c9022e11bf7ae4326c0"), looks := false }, kinds := [], alts := [], laidByText := true, laidKinds := [.data, .data], laidTests := true, laidLooks := .later }
def LedgerFewestUptoCardSaid : Prop := Claim7.holds Tryd.pinned (.plain (OpenSpec.upto ledgerFewestSpec)) ledgerFewestUptoCard

/-- THE SECOND FORM's CARD OF 'parcenerlaw37.LedgerGroups'. -/
def ledgerGroupsUptoCard : Claim7 := { stood := { row := ledgerGroupsUptoRow, standIns := [], harness := (true, "c574c69ac59fb3124327a303ca252de68517c022ba0d0c9022e11bf7ae4326c0"), looks := false }, kinds := [], alts := [], laidByText := true, laidKinds := [.data, .data], laidTests := true, laidLooks := .later }
def LedgerGroupsUptoCardSaid : Prop := Claim7.holds Tryd.pinned (.plain (OpenSpec.upto ledgerGroupsSpec)) ledgerGroupsUptoCard

/-- THE SECOND FORM's CARD OF 'parcenerlaw37.LedgerShares'. -/
def ledgerSharesUptoCard : Claim7 := { stood := { row := ledgerSharesUptoRow, standIns := [], harness := (true, "c574c69ac59fb3124327a303ca252de68517c022ba0d0c9022e11bf7ae4326c0"), looks := false }, kinds := [], alts := [], laidByText := true, laidKinds := [.data, .data], laidTests := true, laidLooks := .later }
def LedgerSharesUptoCardSaid : Prop := Claim7.holds Tryd.pinned (.plain (OpenSpec.upto ledgerSharesSpec)) ledgerSharesUptoCard

/-- THE SECOND FORM's CARD OF 'parcenerlaw37.LedgerNames'. -/
def ledgerNamesUptoCard : Claim7 := { stood := { row := ledgerNamesUptoRow, standIns := [], harness := (true, "c574c69ac59fb3124327a303ca252de68517c022ba0d0c9022e11bf7ae4326c0"), looks := false }, kinds := [], alts := [], laidByText := true, laidKinds := [.data, .data], laidTests := true, laidLooks := .later }
def LedgerNamesUptoCardSaid : Prop := Claim7.holds Tryd.pinned (.plain (OpenSpec.upto ledgerNamesSpec)) ledgerNamesUptoCard

/-- THE SECOND FORM's CARD OF 'parcenerlaw37.LedgerSums'. -/
def ledgerSumsUptoCard : Claim7 := { stood := { row := ledgerSumsUptoRow, standIns := [], harness := (true, "c574c69ac59fb3124327a303ca252de68517c022ba0d0c9022e11bf7ae4326c0"), looks := false }, kinds := [], alts := [], laidByText := true, laidKinds := [.data, .data], laidTests := true, laidLooks := .later }
def LedgerSumsUptoCardSaid : Prop := Claim7.holds Tryd.pinned (.plain (OpenSpec.upto ledgerSumsSpec)) ledgerSumsUptoCard
end Rows
end Go.Proofs.YtpblmkephkhlkaaDoor

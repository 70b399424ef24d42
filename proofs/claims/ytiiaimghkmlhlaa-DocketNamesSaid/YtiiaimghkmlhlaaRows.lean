/-
  No cell of these rows narrows 'for every input' (looked for: loops, veiled, ifaces, maps, wideKeys, modest, calm, conditions, laid).
  DERIVED. THE GIVEN ROWS OF THIS SEAT. 7 by the template 'for every input the law returns true; each argument reads behind the call as it read before'; 0 by the template 'total and deterministic' (their statements: YtiiaimghkmlhlaaTotals.lean).
  GIVEN WITH THE SEED: the statements are not yours to turn. If you find one false, say at which input.
  Laid BY PROGRAM, IN A SANDBOX (cutbox-rows.mjs): the forced cells as the released guide's own fill.sh prints them over the translation 5212f35bba806dfa… (all of the seat's roots in one cut). By AI agents, Wed Nov 11 2026. No macro, syntax, notation, axiom, sorry.
-/
import Derived.Test.YtiiaimghkmlhlaaChecked
import GoSem.Claim
import GoSem.ClaimJoined
import GoSem.ClaimMapViews
import Derived.JoinedTies
import Derived.KernelRfl
namespace Go.Proofs.Ytiiaimghkmlhlaa
/- THE CELL 'sum', in the pinned program and in every row, IS THE sha256 OF THE DUMP (.gsa) THAT YtiiaimghkmlhlaaProg.lean LOADS. Nothing in Lean hashes anything: it is a label: what it is worth is what the hold of that sum in a sandbox is worth. -/
noncomputable def Try.pinned : Pinned := { name := "ytiiaimghkmlhlaa", sum := "5212f35bba806dfab4ab6e30e4e3872c1bd0c6fa3722cddcaf042067d1f32bfa", checked := Try.checked }
namespace Rows
def none {H : Type} : Left H := { results := [], args := [] }

/-- 'parcenerlaw39.DocketCases': WHATEVER THE INPUT: true; the input reads as it did. -/
def docketCasesSpec : ChangeSpec := { name := "docketCases", fn := fun _ => fun
  | [d1, d2, d3, d4] => { results := [.lit (.bool true)], args := [d1, d2, d3, d4] }
  | _ => none }
def docketCasesRow : OpenClaim := { program := "ytiiaimghkmlhlaa", sum := "5212f35bba806dfab4ab6e30e4e3872c1bd0c6fa3722cddcaf042067d1f32bfa", func := "parcener/parcenerlaw39.DocketCases", spec := "docketCases", apart := false }
def DocketCasesSaid : Prop := docketCasesRow.holds Try.pinned (OpenSpec.ofChange docketCasesSpec)

/-- ITS FALSE NEIGHBOUR: 'it returns false'. Refute it at one input. -/
def docketCasesWrong : ChangeSpec := { name := "docketCases", fn := fun _ => fun
  | [d1, d2, d3, d4] => { results := [.lit (.bool false)], args := [d1, d2, d3, d4] }
  | _ => none }
def DocketCasesWrongFalsely : Prop := docketCasesRow.holds Try.pinned (OpenSpec.ofChange docketCasesWrong)

/-- 'parcenerlaw39.DocketDays': WHATEVER THE INPUT: true; the input reads as it did. -/
def docketDaysSpec : ChangeSpec := { name := "docketDays", fn := fun _ => fun
  | [d1, d2, d3] => { results := [.lit (.bool true)], args := [d1, d2, d3] }
  | _ => none }
def docketDaysRow : OpenClaim := { program := "ytiiaimghkmlhlaa", sum := "5212f35bba806dfab4ab6e30e4e3872c1bd0c6fa3722cddcaf042067d1f32bfa", func := "parcener/parcenerlaw39.DocketDays", spec := "docketDays", apart := false }
def DocketDaysSaid : Prop := docketDaysRow.holds Try.pinned (OpenSpec.ofChange docketDaysSpec)

/-- ITS FALSE NEIGHBOUR: 'it returns false'. Refute it at one input. -/
def docketDaysWrong : ChangeSpec := { name := "docketDays", fn := fun _ => fun
  | [d1, d2, d3] => { results := [.lit (.bool false)], args := [d1, d2, d3] }
  | _ => none }
def DocketDaysWrongFalsely : Prop := docketDaysRow.holds Try.pinned (OpenSpec.ofChange docketDaysWrong)

/-- 'parcenerlaw39.DocketEvents': WHATEVER THE INPUT: true; the input reads as it did. -/
def docketEventsSpec : ChangeSpec := { name := "docketEvents", fn := fun _ => fun
  | [d1, d2, d3] => { results := [.lit (.bool true)], args := [d1, d2, d3] }
  | _ => none }
def docketEventsRow : OpenClaim := { program := "ytiiaimghkmlhlaa", sum := "5212f35bba806dfab4ab6e30e4e3872c1bd0c6fa3722cddcaf042067d1f32bfa", func := "parcener/parcenerlaw39.DocketEvents", spec := "docketEvents", apart := false }
def DocketEventsSaid : Prop := docketEventsRow.holds Try.pinned (OpenSpec.ofChange docketEventsSpec)

/-- ITS FALSE NEIGHBOUR: 'it returns false'. Refute it at one input. -/
def docketEventsWrong : ChangeSpec := { name := "docketEvents", fn := fun _ => fun
  | [d1, d2, d3] => { results := [.lit (.bool false)], args := [d1, d2, d3] }
  | _ => none }
def DocketEventsWrongFalsely : Prop := docketEventsRow.holds Try.pinned (OpenSpec.ofChange docketEventsWrong)

/-- 'parcenerlaw39.DocketOnly': WHATEVER THE INPUT: true; the input reads as it did. -/
def docketOnlySpec : ChangeSpec := { name := "docketOnly", fn := fun _ => fun
  | [d1, d2] => { results := [.lit (.bool true)], args := [d1, d2] }
  | _ => none }
def docketOnlyRow : OpenClaim := { program := "ytiiaimghkmlhlaa", sum := "5212f35bba806dfab4ab6e30e4e3872c1bd0c6fa3722cddcaf042067d1f32bfa", func := "parcener/parcenerlaw39.DocketOnly", spec := "docketOnly", apart := false }
def DocketOnlySaid : Prop := docketOnlyRow.holds Try.pinned (OpenSpec.ofChange docketOnlySpec)

/-- ITS FALSE NEIGHBOUR: 'it returns false'. Refute it at one input. -/
def docketOnlyWrong : ChangeSpec := { name := "docketOnly", fn := fun _ => fun
  | [d1, d2] => { results := [.lit (.bool false)], args := [d1, d2] }
  | _ => none }
def DocketOnlyWrongFalsely : Prop := docketOnlyRow.holds Try.pinned (OpenSpec.ofChange docketOnlyWrong)

/-- 'parcenerlaw39.DocketFinal': WHATEVER THE INPUT: true; the input reads as it did. -/
def docketFinalSpec : ChangeSpec := { name := "docketFinal", fn := fun _ => fun
  | [d1, d2, d3] => { results := [.lit (.bool true)], args := [d1, d2, d3] }
  | _ => none }
def docketFinalRow : OpenClaim := { program := "ytiiaimghkmlhlaa", sum := "5212f35bba806dfab4ab6e30e4e3872c1bd0c6fa3722cddcaf042067d1f32bfa", func := "parcener/parcenerlaw39.DocketFinal", spec := "docketFinal", apart := false }
def DocketFinalSaid : Prop := docketFinalRow.holds Try.pinned (OpenSpec.ofChange docketFinalSpec)

/-- ITS FALSE NEIGHBOUR: 'it returns false'. Refute it at one input. -/
def docketFinalWrong : ChangeSpec := { name := "docketFinal", fn := fun _ => fun
  | [d1, d2, d3] => { results := [.lit (.bool false)], args := [d1, d2, d3] }
  | _ => none }
def DocketFinalWrongFalsely : Prop := docketFinalRow.holds Try.pinned (OpenSpec.ofChange docketFinalWrong)

/-- 'parcenerlaw39.DocketReplays': WHATEVER THE INPUT: true; the input reads as it did. -/
def docketReplaysSpec : ChangeSpec := { name := "docketReplays", fn := fun _ => fun
  | [d1, d2, d3, d4] => { results := [.lit (.bool true)], args := [d1, d2, d3, d4] }
  | _ => none }
def docketReplaysRow : OpenClaim := { program := "ytiiaimghkmlhlaa", sum := "5212f35bba806dfab4ab6e30e4e3872c1bd0c6fa3722cddcaf042067d1f32bfa", func := "parcener/parcenerlaw39.DocketReplays", spec := "docketReplays", apart := false }
def DocketReplaysSaid : Prop := docketReplaysRow.holds Try.pinned (OpenSpec.ofChange docketReplaysSpec)

/-- ITS FALSE NEIGHBOUR: 'it returns false'. Refute it at one input. -/
def docketReplaysWrong : ChangeSpec := { name := "docketReplays", fn := fun _ => fun
  | [d1, d2, d3, d4] => { results := [.lit (.bool false)], args := [d1, d2, d3, d4] }
  | _ => none }
def DocketReplaysWrongFalsely : Prop := docketReplaysRow.holds Try.pinned (OpenSpec.ofChange docketReplaysWrong)

/-- 'parcenerlaw39.DocketNames': WHATEVER THE INPUT: true; the input reads as it did. -/
def docketNamesSpec : ChangeSpec := { name := "docketNames", fn := fun _ => fun
  | [] => { results := [.lit (.bool true)], args := [] }
  | _ => none }
def docketNamesRow : OpenClaim := { program := "ytiiaimghkmlhlaa", sum := "5212f35bba806dfab4ab6e30e4e3872c1bd0c6fa3722cddcaf042067d1f32bfa", func := "parcener/parcenerlaw39.DocketNames", spec := "docketNames", apart := false }
def DocketNamesSaid : Prop := docketNamesRow.holds Try.pinned (OpenSpec.ofChange docketNamesSpec)

/-- ITS FALSE NEIGHBOUR: 'it returns false'. Refute it at one input. -/
def docketNamesWrong : ChangeSpec := { name := "docketNames", fn := fun _ => fun
  | [] => { results := [.lit (.bool false)], args := [] }
  | _ => none }
def DocketNamesWrongFalsely : Prop := docketNamesRow.holds Try.pinned (OpenSpec.ofChange docketNamesWrong)

/- THE SECOND FORM. 'bulk': how many values and letters a reading holds, each counted each time it is reached (what is shared counts as often as it is met; a slice's spare places count too). A statement '..UptoSaid' is the law's where the arguments, and the package variables that the reading takes, are together of bulk at most 1048576: NARROWER than '..Said'. Prove '..Said' where nothing that the law and all that it calls make is longer than what came in: it says more and counts as full. Else prove '..UptoSaid'. A law counts once. -/
mutual
def uptoBulk {H : Type} : DataW H → Nat
  | .lit (.string bytes) => bytes.length + 1
  | .lit _ => 1
  | .nil => 1
  | .ptr d => uptoBulk d + 1
  | .slice elems spare => uptoBulkAll elems + uptoBulkAll spare + 1
  | .agg parts => uptoBulkAll parts + 1
  | .iface _ d => uptoBulk d + 1
  | .map entries => uptoBulkEntries entries + 1
  | .held _ => 1
def uptoBulkAll {H : Type} : List (DataW H) → Nat
  | [] => 0
  | d :: r => uptoBulk d + uptoBulkAll r
def uptoBulkEntries {H : Type} : List (Lit × DataW H) → Nat
  | [] => 0
  | x :: r => uptoBulkEntry x + uptoBulkEntries r
def uptoBulkEntry {H : Type} : Lit × DataW H → Nat
  | (.string bytes, d) => bytes.length + uptoBulk d + 1
  | (_, d) => uptoBulk d + 1
 end
def uptoSmall : (H : Type) → List (DataW H) → Bool := fun _ ds => decide (uptoBulkAll ds ≤ 1048576)
def OpenSpec.upto (s : _root_.Go.ChangeSpec) : _root_.Go.OpenSpec := { _root_.Go.OpenSpec.ofChange s with cond := some uptoSmall }

/-- 'parcenerlaw39.DocketCases', WHERE WHAT IT READS IS OF BULK AT MOST 1048576: true; the input reads as it did. -/
def docketCasesUptoRow : OpenClaim := { program := "ytiiaimghkmlhlaa", sum := "5212f35bba806dfab4ab6e30e4e3872c1bd0c6fa3722cddcaf042067d1f32bfa", func := "parcener/parcenerlaw39.DocketCases", spec := "docketCases", apart := false, narrowed := true }
def DocketCasesUptoSaid : Prop := docketCasesUptoRow.holds Try.pinned (OpenSpec.upto docketCasesSpec)

/-- 'parcenerlaw39.DocketDays', WHERE WHAT IT READS IS OF BULK AT MOST 1048576: true; the input reads as it did. -/
def docketDaysUptoRow : OpenClaim := { program := "ytiiaimghkmlhlaa", sum := "5212f35bba806dfab4ab6e30e4e3872c1bd0c6fa3722cddcaf042067d1f32bfa", func := "parcener/parcenerlaw39.DocketDays", spec := "docketDays", apart := false, narrowed := true }
def DocketDaysUptoSaid : Prop := docketDaysUptoRow.holds Try.pinned (OpenSpec.upto docketDaysSpec)

/-- 'parcenerlaw39.DocketEvents', WHERE WHAT IT READS IS OF BULK AT MOST 1048576: true; the input reads as it did. -/
def docketEventsUptoRow : OpenClaim := { program := "ytiiaimghkmlhlaa", sum := "5212f35bba806dfab4ab6e30e4e3872c1bd0c6fa3722cddcaf042067d1f32bfa", func := "parcener/parcenerlaw39.DocketEvents", spec := "docketEvents", apart := false, narrowed := true }
def DocketEventsUptoSaid : Prop := docketEventsUptoRow.holds Try.pinned (OpenSpec.upto docketEventsSpec)

/-- 'parcenerlaw39.DocketOnly', WHERE WHAT IT READS IS OF BULK AT MOST 1048576: true; the input reads as it did. -/
def docketOnlyUptoRow : OpenClaim := { program := "ytiiaimghkmlhlaa", sum := "5212f35bba806dfab4ab6e30e4e3872c1bd0c6fa3722cddcaf042067d1f32bfa", func := "parcener/parcenerlaw39.DocketOnly", spec := "docketOnly", apart := false, narrowed := true }
def DocketOnlyUptoSaid : Prop := docketOnlyUptoRow.holds Try.pinned (OpenSpec.upto docketOnlySpec)

/-- 'parcenerlaw39.DocketFinal', WHERE WHAT IT READS IS OF BULK AT MOST 1048576: true; the input reads as it did. -/
def docketFinalUptoRow : OpenClaim := { program := "ytiiaimghkmlhlaa", sum := "5212f35bba806dfab4ab6e30e4e3872c1bd0c6fa3722cddcaf042067d1f32bfa", func := "parcener/parcenerlaw39.DocketFinal", spec := "docketFinal", apart := false, narrowed := true }
def DocketFinalUptoSaid : Prop := docketFinalUptoRow.holds Try.pinned (OpenSpec.upto docketFinalSpec)

/-- 'parcenerlaw39.DocketReplays', WHERE WHAT IT READS IS OF BULK AT MOST 1048576: true; the input reads as it did. -/
def docketReplaysUptoRow : OpenClaim := { program := "ytiiaimghkmlhlaa", sum := "5212f35bba806dfab4ab6e30e4e3872c1bd0c6fa3722cddcaf042067d1f32bfa", func := "parcener/parcenerlaw39.DocketReplays", spec := "docketReplays", apart := false, narrowed := true }
def DocketReplaysUptoSaid : Prop := docketReplaysUptoRow.holds Try.pinned (OpenSpec.upto docketReplaysSpec)

/-- 'parcenerlaw39.DocketNames', WHERE WHAT IT READS IS OF BULK AT MOST 1048576: true; the input reads as it did. -/
def docketNamesUptoRow : OpenClaim := { program := "ytiiaimghkmlhlaa", sum := "5212f35bba806dfab4ab6e30e4e3872c1bd0c6fa3722cddcaf042067d1f32bfa", func := "parcener/parcenerlaw39.DocketNames", spec := "docketNames", apart := false, narrowed := true }
def DocketNamesUptoSaid : Prop := docketNamesUptoRow.holds Try.pinned (OpenSpec.upto docketNamesSpec)

end Rows
end Go.Proofs.Ytiiaimghkmlhlaa

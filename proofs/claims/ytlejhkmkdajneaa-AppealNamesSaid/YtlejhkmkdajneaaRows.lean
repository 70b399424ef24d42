/-
  No cell of these rows narrows 'for every input' (looked for: loops, veiled, ifaces, maps, wideKeys, modest, calm, conditions, laid).
  DERIVED. THE GIVEN ROWS OF THIS SEAT. 7 by the template 'for every input the law returns true; each argument reads behind the call as it read before'; 0 by the template 'total and deterministic' (their statements: YtlejhkmkdajneaaTotals.lean).
  GIVEN WITH THE SEED: the statements are not yours to turn. If you find one false, say at which input.
  Laid BY PROGRAM, IN A SANDBOX (cutbox-rows.mjs): the forced cells as the released guide's own fill.sh prints them over the translation d394e45092ccdf90… (all of the seat's roots in one cut). By AI agents, Wed Nov 11 2026. No macro, syntax, notation, axiom, sorry.
-/
import Derived.Test.YtlejhkmkdajneaaChecked
import GoSem.Claim
import GoSem.ClaimJoined
import GoSem.ClaimMapViews
import Derived.JoinedTies
import Derived.KernelRfl
namespace Go.Proofs.Ytlejhkmkdajneaa
/- THE CELL 'sum', in the pinned program and in every row, IS THE sha256 OF THE DUMP (.gsa) THAT YtlejhkmkdajneaaProg.lean LOADS. Nothing in Lean hashes anything: it is a label: what it is worth is what the hold of that sum in a sandbox is worth. -/
noncomputable def Try.pinned : Pinned := { name := "ytlejhkmkdajneaa", sum := "d394e45092ccdf900d2acd9fdd03b2b65fc13f6a82dc37724ea2437a41615d39", checked := Try.checked }
namespace Rows
def none {H : Type} : Left H := { results := [], args := [] }

/-- 'parcenerlaw40.AppealMatters': WHATEVER THE INPUT: true; the input reads as it did. -/
def appealMattersSpec : ChangeSpec := { name := "appealMatters", fn := fun _ => fun
  | [d1, d2, d3, d4, d5, d6] => { results := [.lit (.bool true)], args := [d1, d2, d3, d4, d5, d6] }
  | _ => none }
def appealMattersRow : OpenClaim := { program := "ytlejhkmkdajneaa", sum := "d394e45092ccdf900d2acd9fdd03b2b65fc13f6a82dc37724ea2437a41615d39", func := "parcener/parcenerlaw40.AppealMatters", spec := "appealMatters", apart := false }
def AppealMattersSaid : Prop := appealMattersRow.holds Try.pinned (OpenSpec.ofChange appealMattersSpec)

/-- ITS FALSE NEIGHBOUR: 'it returns false'. Refute it at one input. -/
def appealMattersWrong : ChangeSpec := { name := "appealMatters", fn := fun _ => fun
  | [d1, d2, d3, d4, d5, d6] => { results := [.lit (.bool false)], args := [d1, d2, d3, d4, d5, d6] }
  | _ => none }
def AppealMattersWrongFalsely : Prop := appealMattersRow.holds Try.pinned (OpenSpec.ofChange appealMattersWrong)

/-- 'parcenerlaw40.AppealSteps': WHATEVER THE INPUT: true; the input reads as it did. -/
def appealStepsSpec : ChangeSpec := { name := "appealSteps", fn := fun _ => fun
  | [d1, d2, d3] => { results := [.lit (.bool true)], args := [d1, d2, d3] }
  | _ => none }
def appealStepsRow : OpenClaim := { program := "ytlejhkmkdajneaa", sum := "d394e45092ccdf900d2acd9fdd03b2b65fc13f6a82dc37724ea2437a41615d39", func := "parcener/parcenerlaw40.AppealSteps", spec := "appealSteps", unfollowed := true, recurses := true, apart := false }
def AppealStepsSaid : Prop := appealStepsRow.holds Try.pinned (OpenSpec.ofChange appealStepsSpec)

/-- ITS FALSE NEIGHBOUR: 'it returns false'. Refute it at one input. -/
def appealStepsWrong : ChangeSpec := { name := "appealSteps", fn := fun _ => fun
  | [d1, d2, d3] => { results := [.lit (.bool false)], args := [d1, d2, d3] }
  | _ => none }
def AppealStepsWrongFalsely : Prop := appealStepsRow.holds Try.pinned (OpenSpec.ofChange appealStepsWrong)

/-- 'parcenerlaw40.AppealBound': WHATEVER THE INPUT: true; the input reads as it did. -/
def appealBoundSpec : ChangeSpec := { name := "appealBound", fn := fun _ => fun
  | [d1, d2, d3, d4, d5] => { results := [.lit (.bool true)], args := [d1, d2, d3, d4, d5] }
  | _ => none }
def appealBoundRow : OpenClaim := { program := "ytlejhkmkdajneaa", sum := "d394e45092ccdf900d2acd9fdd03b2b65fc13f6a82dc37724ea2437a41615d39", func := "parcener/parcenerlaw40.AppealBound", spec := "appealBound", unfollowed := true, recurses := true, apart := false }
def AppealBoundSaid : Prop := appealBoundRow.holds Try.pinned (OpenSpec.ofChange appealBoundSpec)

/-- ITS FALSE NEIGHBOUR: 'it returns false'. Refute it at one input. -/
def appealBoundWrong : ChangeSpec := { name := "appealBound", fn := fun _ => fun
  | [d1, d2, d3, d4, d5] => { results := [.lit (.bool false)], args := [d1, d2, d3, d4, d5] }
  | _ => none }
def AppealBoundWrongFalsely : Prop := appealBoundRow.holds Try.pinned (OpenSpec.ofChange appealBoundWrong)

/-- 'parcenerlaw40.AppealReplays': WHATEVER THE INPUT: true; the input reads as it did. -/
def appealReplaysSpec : ChangeSpec := { name := "appealReplays", fn := fun _ => fun
  | [d1, d2, d3] => { results := [.lit (.bool true)], args := [d1, d2, d3] }
  | _ => none }
def appealReplaysRow : OpenClaim := { program := "ytlejhkmkdajneaa", sum := "d394e45092ccdf900d2acd9fdd03b2b65fc13f6a82dc37724ea2437a41615d39", func := "parcener/parcenerlaw40.AppealReplays", spec := "appealReplays", unfollowed := true, recurses := true, apart := false }
def AppealReplaysSaid : Prop := appealReplaysRow.holds Try.pinned (OpenSpec.ofChange appealReplaysSpec)

/-- ITS FALSE NEIGHBOUR: 'it returns false'. Refute it at one input. -/
def appealReplaysWrong : ChangeSpec := { name := "appealReplays", fn := fun _ => fun
  | [d1, d2, d3] => { results := [.lit (.bool false)], args := [d1, d2, d3] }
  | _ => none }
def AppealReplaysWrongFalsely : Prop := appealReplaysRow.holds Try.pinned (OpenSpec.ofChange appealReplaysWrong)

/-- 'parcenerlaw40.AppealNames': WHATEVER THE INPUT: true; the input reads as it did. -/
def appealNamesSpec : ChangeSpec := { name := "appealNames", fn := fun _ => fun
  | [] => { results := [.lit (.bool true)], args := [] }
  | _ => none }
def appealNamesRow : OpenClaim := { program := "ytlejhkmkdajneaa", sum := "d394e45092ccdf900d2acd9fdd03b2b65fc13f6a82dc37724ea2437a41615d39", func := "parcener/parcenerlaw40.AppealNames", spec := "appealNames", unfollowed := true, recurses := true, apart := false }
def AppealNamesSaid : Prop := appealNamesRow.holds Try.pinned (OpenSpec.ofChange appealNamesSpec)

/-- ITS FALSE NEIGHBOUR: 'it returns false'. Refute it at one input. -/
def appealNamesWrong : ChangeSpec := { name := "appealNames", fn := fun _ => fun
  | [] => { results := [.lit (.bool false)], args := [] }
  | _ => none }
def AppealNamesWrongFalsely : Prop := appealNamesRow.holds Try.pinned (OpenSpec.ofChange appealNamesWrong)

/-- 'parcenerlaw40.AppealFinal': WHATEVER THE INPUT: true; the input reads as it did. -/
def appealFinalSpec : ChangeSpec := { name := "appealFinal", fn := fun _ => fun
  | [d1, d2, d3, d4] => { results := [.lit (.bool true)], args := [d1, d2, d3, d4] }
  | _ => none }
def appealFinalRow : OpenClaim := { program := "ytlejhkmkdajneaa", sum := "d394e45092ccdf900d2acd9fdd03b2b65fc13f6a82dc37724ea2437a41615d39", func := "parcener/parcenerlaw40.AppealFinal", spec := "appealFinal", unfollowed := true, recurses := true, apart := false }
def AppealFinalSaid : Prop := appealFinalRow.holds Try.pinned (OpenSpec.ofChange appealFinalSpec)

/-- ITS FALSE NEIGHBOUR: 'it returns false'. Refute it at one input. -/
def appealFinalWrong : ChangeSpec := { name := "appealFinal", fn := fun _ => fun
  | [d1, d2, d3, d4] => { results := [.lit (.bool false)], args := [d1, d2, d3, d4] }
  | _ => none }
def AppealFinalWrongFalsely : Prop := appealFinalRow.holds Try.pinned (OpenSpec.ofChange appealFinalWrong)

/-- 'parcenerlaw40.AppealOnly': WHATEVER THE INPUT: true; the input reads as it did. -/
def appealOnlySpec : ChangeSpec := { name := "appealOnly", fn := fun _ => fun
  | [d1, d2] => { results := [.lit (.bool true)], args := [d1, d2] }
  | _ => none }
def appealOnlyRow : OpenClaim := { program := "ytlejhkmkdajneaa", sum := "d394e45092ccdf900d2acd9fdd03b2b65fc13f6a82dc37724ea2437a41615d39", func := "parcener/parcenerlaw40.AppealOnly", spec := "appealOnly", unfollowed := true, recurses := true, apart := false }
def AppealOnlySaid : Prop := appealOnlyRow.holds Try.pinned (OpenSpec.ofChange appealOnlySpec)

/-- ITS FALSE NEIGHBOUR: 'it returns false'. Refute it at one input. -/
def appealOnlyWrong : ChangeSpec := { name := "appealOnly", fn := fun _ => fun
  | [d1, d2] => { results := [.lit (.bool false)], args := [d1, d2] }
  | _ => none }
def AppealOnlyWrongFalsely : Prop := appealOnlyRow.holds Try.pinned (OpenSpec.ofChange appealOnlyWrong)

/- THE SECOND FORM. 'bulk': how many values and letters a reading holds, each counted each time it is reached (what is shared counts as often as it is met; a slice's spare places count too). A statement '..UptoSaid' is the law's where the arguments, and the package variables that the reading takes, are together of bulk at most 1048576: NARROWER than '..Said'. Prove '..Said' where nothing that the law and all that it calls make is longer than what came in: it says more and counts as full. Else prove '..UptoSaid'. A law counts once. -/
mutual
def uptoBulk {H : Type} : DataW H → Nat
  | .lit (.string bytes) => bytes.length + 1
  | .lit _ => 1
  | .nil => 1
  | .ptr d => uptoBulk d + 1
  | .slice elems spare => uptoBulkAll elems + uptoBulkAll spare + 1
  | .agg parts => uptoBulkAll parts + 1
  | .iface _ d => uptoBulk d + 1
  | .map entries => uptoBulkEntries entries + 1
  | .held _ => 1
def uptoBulkAll {H : Type} : List (DataW H) → Nat
  | [] => 0
  | d :: r => uptoBulk d + uptoBulkAll r
def uptoBulkEntries {H : Type} : List (Lit × DataW H) → Nat
  | [] => 0
  | x :: r => uptoBulkEntry x + uptoBulkEntries r
def uptoBulkEntry {H : Type} : Lit × DataW H → Nat
  | (.string bytes, d) => bytes.length + uptoBulk d + 1
  | (_, d) => uptoBulk d + 1
 end
def uptoSmall : (H : Type) → List (DataW H) → Bool := fun _ ds => decide (uptoBulkAll ds ≤ 1048576)
def OpenSpec.upto (s : _root_.Go.ChangeSpec) : _root_.Go.OpenSpec := { _root_.Go.OpenSpec.ofChange s with cond := some uptoSmall }

/-- 'parcenerlaw40.AppealMatters', WHERE WHAT IT READS IS OF BULK AT MOST 1048576: true; the input reads as it did. -/
def appealMattersUptoRow : OpenClaim := { program := "ytlejhkmkdajneaa", sum := "d394e45092ccdf900d2acd9fdd03b2b65fc13f6a82dc37724ea2437a41615d39", func := "parcener/parcenerlaw40.AppealMatters", spec := "appealMatters", apart := false, narrowed := true }
def AppealMattersUptoSaid : Prop := appealMattersUptoRow.holds Try.pinned (OpenSpec.upto appealMattersSpec)

/-- 'parcenerlaw40.AppealSteps', WHERE WHAT IT READS IS OF BULK AT MOST 1048576: true; the input reads as it did. -/
def appealStepsUptoRow : OpenClaim := { program := "ytlejhkmkdajneaa", sum := "d394e45092ccdf900d2acd9fdd03b2b65fc13f6a82dc37724ea2437a41615d39", func := "parcener/parcenerlaw40.AppealSteps", spec := "appealSteps", unfollowed := true, recurses := true, apart := false, narrowed := true }
def AppealStepsUptoSaid : Prop := appealStepsUptoRow.holds Try.pinned (OpenSpec.upto appealStepsSpec)

/-- 'parcenerlaw40.AppealBound', WHERE WHAT IT READS IS OF BULK AT MOST 1048576: true; the input reads as it did. -/
def appealBoundUptoRow : OpenClaim := { program := "ytlejhkmkdajneaa", sum := "d394e45092ccdf900d2acd9fdd03b2b65fc13f6a82dc37724ea2437a41615d39", func := "parcener/parcenerlaw40.AppealBound", spec := "appealBound", unfollowed := true, recurses := true, apart := false, narrowed := true }
def AppealBoundUptoSaid : Prop := appealBoundUptoRow.holds Try.pinned (OpenSpec.upto appealBoundSpec)

/-- 'parcenerlaw40.AppealReplays', WHERE WHAT IT READS IS OF BULK AT MOST 1048576: true; the input reads as it did. -/
def appealReplaysUptoRow : OpenClaim := { program := "ytlejhkmkdajneaa", sum := "d394e45092ccdf900d2acd9fdd03b2b65fc13f6a82dc37724ea2437a41615d39", func := "parcener/parcenerlaw40.AppealReplays", spec := "appealReplays", unfollowed := true, recurses := true, apart := false, narrowed := true }
def AppealReplaysUptoSaid : Prop := appealReplaysUptoRow.holds Try.pinned (OpenSpec.upto appealReplaysSpec)

/-- 'parcenerlaw40.AppealNames', WHERE WHAT IT READS IS OF BULK AT MOST 1048576: true; the input reads as it did. -/
def appealNamesUptoRow : OpenClaim := { program := "ytlejhkmkdajneaa", sum := "d394e45092ccdf900d2acd9fdd03b2b65fc13f6a82dc37724ea2437a41615d39", func := "parcener/parcenerlaw40.AppealNames", spec := "appealNames", unfollowed := true, recurses := true, apart := false, narrowed := true }
def AppealNamesUptoSaid : Prop := appealNamesUptoRow.holds Try.pinned (OpenSpec.upto appealNamesSpec)

/-- 'parcenerlaw40.AppealFinal', WHERE WHAT IT READS IS OF BULK AT MOST 1048576: true; the input reads as it did. -/
def appealFinalUptoRow : OpenClaim := { program := "ytlejhkmkdajneaa", sum := "d394e45092ccdf900d2acd9fdd03b2b65fc13f6a82dc37724ea2437a41615d39", func := "parcener/parcenerlaw40.AppealFinal", spec := "appealFinal", unfollowed := true, recurses := true, apart := false, narrowed := true }
def AppealFinalUptoSaid : Prop := appealFinalUptoRow.holds Try.pinned (OpenSpec.upto appealFinalSpec)

/-- 'parcenerlaw40.AppealOnly', WHERE WHAT IT READS IS OF BULK AT MOST 1048576: true; the input reads as it did. -/
def appealOnlyUptoRow : OpenClaim := { program := "ytlejhkmkdajneaa", sum := "d394e45092ccdf900d2acd9fdd03b2b65fc13f6a82dc37724ea2437a41615d39", func := "parcener/parcenerlaw40.AppealOnly", spec := "appealOnly", unfollowed := true, recurses := true, apart := false, narrowed := true }
def AppealOnlyUptoSaid : Prop := appealOnlyUptoRow.holds Try.pinned (OpenSpec.upto appealOnlySpec)

end Rows
end Go.Proofs.Ytlejhkmkdajneaa

/- Package ledger, tied cards: the functions that are entered. No conditions. -/
import Derived.Test.YtpblmkephkhlkaaDoorE1
namespace Go.Proofs.YtpblmkephkhlkaaDoor
open Go.Ev
set_option linter.all false
def fns : List Nat := [3, 4, 5, 6, 7, 8, 9, 10, 11, 12, 13, 14, 15, 16, 17, 18, 19, 20, 21, 22, 23, 24, 25, 26, 27, 28, 29, 30, 31, 32, 33, 34, 35, 36, 37, 38, 39, 40, 41, 42, 43]
theorem enter : ∀ (g : FuncId), fns.contains g = true → ∀ (args : Array Value) (w : World), (callFunc g args).run Tryd.prog w = .ok (.enter g args) w := by
  intro g hg
  simp only [fns, List.contains_cons, List.contains_nil, Bool.or_false, Bool.or_eq_true, beq_iff_eq] at hg
  rcases hg with rfl | rfl | rfl | rfl | rfl | rfl | rfl | rfl | rfl | rfl | rfl | rfl | rfl | rfl | rfl | rfl | rfl | rfl | rfl | rfl | rfl | rfl | rfl | rfl | rfl | rfl | rfl | rfl | rfl | rfl | rfl | rfl | rfl | rfl | rfl | rfl | rfl | rfl | rfl | rfl | rfl
  · exact Tryd.call3
  · exact Tryd.call4
  · exact Tryd.call5
  · exact Tryd.call6
  · exact Tryd.call7
  · exact Tryd.call8
  · exact Tryd.call9
  · exact Tryd.call10
  · exact Tryd.call11
  · exact Tryd.call12
  · exact Tryd.call13
  · exact Tryd.call14
  · exact Tryd.call15
  · exact Tryd.call16
  · exact Tryd.call17
  · exact Tryd.call18
  · exact Tryd.call19
  · exact Tryd.call20
  · exact Tryd.call21
  · exact Tryd.call22
  · exact Tryd.call23
  · exact Tryd.call24
  · exact Tryd.call25
  · exact Tryd.call26
  · exact Tryd.call27
  · exact Tryd.call28
  · exact Tryd.call29
  · exact Tryd.call30
  · exact Tryd.call31
  · exact Tryd.call32
  · exact Tryd.call33
  · exact Tryd.call34
  · exact Tryd.call35
  · exact Tryd.call36
  · exact Tryd.call37
  · exact Tryd.call38
  · exact Tryd.call39
  · exact Tryd.call40
  · exact Tryd.call41
  · exact Tryd.call42
  · exact Tryd.call43
theorem mixed : Tryd.prog.follows .mixedOrders = true := by kernel_rfl
noncomputable def C0 : Cx := mkCx Tryd.prog fns [] []
theorem C0_ok : CxOk C0 := mkCx_ok enter mixed (fun p h => by cases h) (fun l h => by cases h)
def ks1 : List CK := [.int .i64]
end Go.Proofs.YtpblmkephkhlkaaDoor

/- Package ledger: the chapter's examples. No conditions. -/
import Derived.Test.YtpblmkephkhlkaaDoorE11
namespace Go.Proofs.YtpblmkephkhlkaaDoor
open Go.Ev
set_option linter.all false
noncomputable def C4 : Cx := mkCx Tryd.prog fns [(9, Fgroups)] []
theorem C4_ok : CxW C4 Wt := mkCx_okW enter mixed (fun p h => by
  simp only [List.mem_cons, List.not_mem_nil, or_false] at h
  rcases h with rfl
  exact den_groups) (fun l h => by cases h)
set_option maxRecDepth 100000 in
theorem talive : evF C4 6 15 [] = some [.v (.bool true)] := by kernel_rfl
def Falive : List D → Option (Bool × List D)
  | [] => some (true, [.v (.bool true)])
  | _ => none
theorem den_alive : DenW Tryd.prog Wt 15 Falive := evF_denW C4_ok fun ds rs h => by
  unfold Falive at h
  split at h
  · simp only [Option.some.injEq, Prod.mk.injEq, true_and] at h
    subst h
    exact talive
  · cases h
end Go.Proofs.YtpblmkephkhlkaaDoor

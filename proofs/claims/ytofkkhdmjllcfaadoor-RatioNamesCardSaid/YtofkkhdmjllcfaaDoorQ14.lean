/- The laws RatioNames, RatioField, RatioLaws, RatioOrder: evaluations. No conditions. -/
import Derived.Test.YtofkkhdmjllcfaaDoorQ12
namespace Go.Proofs.YtofkkhdmjllcfaaDoor
open Go.Ev Go.RowKit
set_option linter.all false
noncomputable def CN : Cx := mkCx Tryd.prog fns [(22, Fmake), (16, Fadd), (18, Fsub), (17, Fpr), (19, Fdi), (20, Fcmp), (12, Fsum), (10, Fps), (15, Falive)] []
theorem CN_ok : CxW CN Wt := mkCx_okW enter mixed (fun p h => by
  simp only [List.mem_cons, List.not_mem_nil, or_false] at h
  rcases h with rfl | rfl | rfl | rfl | rfl | rfl | rfl | rfl | rfl
  · exact den_make.at _
  · exact den_addp.at _
  · exact den_subp.at _
  · exact den_mulp.at _
  · exact den_div.at _
  · exact den_cmpp.at _
  · exact den_sum.at _
  · exact den_parp
  · exact den_alive) (fun l h => by cases h)
theorem law_names : evF CN 6 7 [] = some [.v (.bool true)] := by kernel_rfl
end Go.Proofs.YtofkkhdmjllcfaaDoor

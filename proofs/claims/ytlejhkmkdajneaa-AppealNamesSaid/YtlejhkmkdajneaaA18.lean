/- The law AppealNames: its function gives true. No conditions. -/
import Derived.Test.YtlejhkmkdajneaaA8
namespace Go.Proofs.Ytlejhkmkdajneaa
open Go.Ev Go.ChangeShapes Go.WideShapes Go.ChangeAt Go.RowKit
set_option linter.all false
def rfM : Ms := ⟨3, 5, 1, 100, 0, 2, 11, 15, 0, true, false, 50⟩
def Frf : List D → Option (Bool × List D)
  | [.agg [.v (.int .u8 k), .v (.int .i64 xday), .v (.int .i64 party), .v (.int .i64 cents)]] => some (true, [.v (i64 (apE rfM ⟨k, xday, party, cents⟩))])
  | _ => none
noncomputable def C14 : Cx := mkCx Try.prog fns [(10, Fop), (21, Fap), (23, Frp)] []
theorem C14_ok : CxOk C14 := mkCx_ok enter mixed (fun p h => by
  simp only [List.mem_cons, List.not_mem_nil, or_false] at h
  rcases h with rfl | rfl | rfl
  · exact den_op
  · exact den_tap
  · exact den_rp) (fun l h => by cases h)
theorem trf (x : Stp) : evF C14 6 26 [stD x] = some [.v (i64 (apE rfM x))] := by kernel_rfl
theorem den_rf : Den Try.prog 26 Frf := evF_den C14_ok fun ds rs h => by
  unfold Frf at h
  split at h
  · rename_i k xday party cents
    cases h
    exact trf ⟨k, xday, party, cents⟩
  · cases h
noncomputable def C15 : Cx := mkCx Try.prog fns [(25, Ftrue), (26, Frf), (10, Fop), (21, Fap), (12, Fat), (14, Fal), (23, Frp), (16, Fbd), (18, Fchk), (20, Fsame)] []
theorem C15_ok : CxOk C15 := mkCx_ok enter mixed (fun p h => by
  simp only [List.mem_cons, List.not_mem_nil, or_false] at h
  rcases h with rfl | rfl | rfl | rfl | rfl | rfl | rfl | rfl | rfl | rfl
  · exact den_alive
  · exact den_rf
  · exact den_op
  · exact den_tap
  · exact den_at
  · exact den_talp
  · exact den_rp
  · exact den_bd
  · exact den_chk
  · exact den_same) (fun l h => by cases h)
theorem tnames : evF C15 6 7 [] = some [.v (.bool true)] := by kernel_rfl

set_option maxRecDepth 100000 in
theorem appealNames_lifted (os : Os) (started : os.Started) (H : Type) (enc : TypeId × Value → H) :
    ReturnsInHanded {} Try.checked os 7 .any (Rows.appealNamesSpec.pre6 enc Try.prog Try.f7 Rows.appealNamesRow.domain false) (Rows.appealNamesSpec.post enc Try.prog Try.f7 false true false false) :=
  lifted_true (C := C15) C15_ok (K := Try.checked) rfl (f := 7) (d := 5) (e := 6) (fn := Try.f7) (t4 := 4) (sh := []) own (by kernel_rfl) Try.func7 laidOut (by kernel_rfl) (by kernel_rfl) Try.underlying4 rfl
    (fun H ds h => by
      have h : ds.length = 0 := h
      match ds, h with
      | [], _ => rfl)
    (by kernel_rfl)
    (fun Ds h => by

      cases h
      exact tnames)
    started (ChangeSpec.witness6 (enc := enc) (C := Try.checked) false ⟨#[], #[], []⟩ 8 (by kernel_rfl) (by kernel_rfl) (by kernel_rfl) (by kernel_rfl))

theorem appealNames_over : Rows.appealNamesRow.holds Try.pinned (OpenSpec.ofChange Rows.appealNamesSpec) :=
  OpenClaim.holds_of_wide 7 Try.f7 rfl rfl rfl rfl rfl rfl rfl ⟨rfl, rfl, rfl, rfl, rfl⟩ rfl rfl rfl rfl rfl (by kernel_rfl) Try.func7 (by kernel_rfl)
    (of_decide_eq_true (by kernel_rfl)) (by unfold Func.isWrapper; first | (rw [if_pos (by decide +kernel)]; kernel_rfl) | (rw [if_neg (by decide +kernel)]; exact ⟨rfl, rfl⟩))
    (fun os started H enc _ => appealNames_lifted os started H enc)

theorem appealNames_said : Rows.AppealNamesSaid := appealNames_over
#print axioms appealNames_said
end Go.Proofs.Ytlejhkmkdajneaa

/- The law DocketNames: its function gives true. No conditions. -/
import Derived.Test.YtiiaimghkmlhlaaD13
namespace Go.Proofs.Ytiiaimghkmlhlaa
open Go.Ev Go.ChangeShapes Go.WideShapes Go.ChangeAt Go.RowKit
set_option linter.all false
def rfE (x : Evt) : Int := apE (apC (opC 30 20 10 1 100 0) ⟨1, 10, 0, 0, 0⟩) x
def Frf : List D → Option (Bool × List D)
  | [.agg [.v (.int .u8 k), .v (.int .i64 xday), .v (.int .i64 party), .v (.int .i64 cents), .v (.int .i64 days)]] => some (true, [.v (i64 (rfE ⟨k, xday, party, cents, days⟩))])
  | _ => none
noncomputable def C32 : Cx := mkCx Try.prog fns [(10, Fop), (21, Fap)] []
theorem C32_ok : CxOk C32 := mkCx_ok enter mixed (fun p h => by
  simp only [List.mem_cons, List.not_mem_nil, or_false] at h
  rcases h with rfl | rfl
  · exact den_op
  · exact den_tap) (fun l h => by cases h)
theorem trf (x : Evt) : evF C32 6 27 [evD x] = some [.v (i64 (rfE x))] := by kernel_rfl
theorem den_rf : Den Try.prog 27 Frf := evF_den C32_ok fun ds rs h => by
  unfold Frf at h
  split at h
  · rename_i k xday party cents days
    cases h
    exact trf ⟨k, xday, party, cents, days⟩
  · cases h
noncomputable def C33 : Cx := mkCx Try.prog fns [(19, Ftrue), (27, Frf), (10, Fop), (12, Fat), (14, Falp), (23, Frp), (16, Fchk), (18, Fsame)] []
theorem C33_ok : CxOk C33 := mkCx_ok enter mixed (fun p h => by
  simp only [List.mem_cons, List.not_mem_nil, or_false] at h
  rcases h with rfl | rfl | rfl | rfl | rfl | rfl | rfl | rfl
  · exact den_alive
  · exact den_rf
  · exact den_op
  · exact den_at
  · exact den_alp
  · exact den_rp
  · exact den_chk
  · exact den_same) (fun l h => by cases h)
theorem tnames : evF C33 6 9 [] = some [.v (.bool true)] := by kernel_rfl

set_option maxRecDepth 100000 in
theorem docketNames_lifted (os : Os) (started : os.Started) (H : Type) (enc : TypeId × Value → H) :
    ReturnsInHanded {} Try.checked os 9 .any (Rows.docketNamesSpec.pre6 enc Try.prog Try.f9 Rows.docketNamesRow.domain false) (Rows.docketNamesSpec.post enc Try.prog Try.f9 false true false false) :=
  lifted_true (C := C33) C33_ok (K := Try.checked) rfl (f := 9) (d := 5) (e := 6) (fn := Try.f9) (t4 := 4) (sh := []) own (by kernel_rfl) Try.func9 laidOut (by kernel_rfl) (by kernel_rfl) Try.underlying4 rfl
    (fun H ds h => by
      have h : ds.length = 0 := h
      match ds, h with
      | [], _ => rfl)
    (by kernel_rfl)
    (fun Ds h => by

      cases h
      exact tnames)
    started (ChangeSpec.witness6 (enc := enc) (C := Try.checked) false ⟨#[], #[], []⟩ 8 (by kernel_rfl) (by kernel_rfl) (by kernel_rfl) (by kernel_rfl))

theorem docketNames_over : Rows.docketNamesRow.holds Try.pinned (OpenSpec.ofChange Rows.docketNamesSpec) :=
  OpenClaim.holds_of_wide 9 Try.f9 rfl rfl rfl rfl rfl rfl rfl ⟨rfl, rfl, rfl, rfl, rfl⟩ rfl rfl rfl rfl rfl (by kernel_rfl) Try.func9 (by kernel_rfl)
    (of_decide_eq_true (by kernel_rfl)) (by unfold Func.isWrapper; first | (rw [if_pos (by decide +kernel)]; kernel_rfl) | (rw [if_neg (by decide +kernel)]; exact ⟨rfl, rfl⟩))
    (fun os started H enc _ => docketNames_lifted os started H enc)

theorem docketNames_said : Rows.DocketNamesSaid := docketNames_over
#print axioms docketNames_said
end Go.Proofs.Ytiiaimghkmlhlaa

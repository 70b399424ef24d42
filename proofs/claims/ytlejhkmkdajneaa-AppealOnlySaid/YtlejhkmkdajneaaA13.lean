/- The laws AppealSteps, AppealFinal and AppealReplays: whatever comes in, the law's function gives true. No conditions. -/
import Derived.Test.YtlejhkmkdajneaaA12
namespace Go.Proofs.Ytlejhkmkdajneaa
open Go.Ev Go.ChangeShapes Go.WideShapes Go.ChangeAt Go.RowKit
set_option linter.all false

set_option maxRecDepth 100000 in
theorem appealSteps_lifted (os : Os) (started : os.Started) (H : Type) (enc : TypeId × Value → H) :
    ReturnsInHanded {} Try.checked os 4 .any (Rows.appealStepsSpec.pre6 enc Try.prog Try.f4 Rows.appealStepsRow.domain false) (Rows.appealStepsSpec.post enc Try.prog Try.f4 false true false false) :=
  lifted_true (C := C9) C9_ok (K := Try.checked) rfl (f := 4) (d := 5) (e := 6) (fn := Try.f4) (t4 := 4) (sh := [(true, [.int .i64, .int .i64, .int .i64, .int .i64, .int .i64, .int .u8, .int .i64, .int .i64, .int .i64, .bool, .bool, .int .i64]), (true, [.int .u8, .int .i64, .int .i64, .int .i64]), (false, [.slice ksV])]) own (by kernel_rfl) Try.func4 laidOut (by kernel_rfl) (by kernel_rfl) Try.underlying4 rfl
    (fun H ds h => by
      have h : ds.length = 3 := h
      match ds, h with
      | [d1, d2, d3], _ => rfl)
    (by kernel_rfl)
    (fun Ds h => by
      cases h with
      | agg a h =>
      cases a with
      | cons c a =>
      cases c with
      | int w0_0 =>
      cases a with
      | cons c a =>
      cases c with
      | int w0_1 =>
      cases a with
      | cons c a =>
      cases c with
      | int w0_2 =>
      cases a with
      | cons c a =>
      cases c with
      | int w0_3 =>
      cases a with
      | cons c a =>
      cases c with
      | int w0_4 =>
      cases a with
      | cons c a =>
      cases c with
      | int w0_5 =>
      cases a with
      | cons c a =>
      cases c with
      | int w0_6 =>
      cases a with
      | cons c a =>
      cases c with
      | int w0_7 =>
      cases a with
      | cons c a =>
      cases c with
      | int w0_8 =>
      cases a with
      | cons c a =>
      cases c
      cases a with
      | cons c a =>
      cases c
      cases a with
      | cons c a =>
      cases c with
      | int w0_11 =>
      cases a
      cases h with
      | agg a h =>
      cases a with
      | cons c a =>
      cases c with
      | int w1_0 =>
      cases a with
      | cons c a =>
      cases c with
      | int w1_1 =>
      cases a with
      | cons c a =>
      cases c with
      | int w1_2 =>
      cases a with
      | cons c a =>
      cases c with
      | int w1_3 =>
      cases a
      cases h with
      | one c h =>
      cases c with
      | slice w2_0 =>
      cases h
      exact law_steps ⟨_, _, _, _, _, _, _, _, _, _, _, _⟩ ⟨_, _, _, _⟩ _)
    started (ChangeSpec.witness6 (enc := enc) (C := Try.checked) false ⟨#[], #[.agg #[.int .i64 0, .int .i64 0, .int .i64 0, .int .i64 0, .int .i64 0, .int .u8 0, .int .i64 0, .int .i64 0, .int .i64 0, .bool false, .bool false, .int .i64 0], .agg #[.int .u8 0, .int .i64 0, .int .i64 0, .int .i64 0], .slice none 0 0], []⟩ 8 (by kernel_rfl) (by kernel_rfl) (by kernel_rfl) (by kernel_rfl))

theorem appealSteps_over : Rows.appealStepsRow.holds Try.pinned (OpenSpec.ofChange Rows.appealStepsSpec) :=
  OpenClaim.holds_of_wide 4 Try.f4 rfl rfl rfl rfl rfl rfl rfl ⟨rfl, rfl, rfl, rfl, rfl⟩ rfl rfl rfl rfl rfl (by kernel_rfl) Try.func4 (by kernel_rfl)
    (of_decide_eq_true (by kernel_rfl)) (by unfold Func.isWrapper; first | (rw [if_pos (by decide +kernel)]; kernel_rfl) | (rw [if_neg (by decide +kernel)]; exact ⟨rfl, rfl⟩))
    (fun os started H enc _ => appealSteps_lifted os started H enc)

theorem appealSteps_said : Rows.AppealStepsSaid := appealSteps_over
#print axioms appealSteps_said

set_option maxRecDepth 100000 in
theorem appealFinal_lifted (os : Os) (started : os.Started) (H : Type) (enc : TypeId × Value → H) :
    ReturnsInHanded {} Try.checked os 8 .any (Rows.appealFinalSpec.pre6 enc Try.prog Try.f8 Rows.appealFinalRow.domain false) (Rows.appealFinalSpec.post enc Try.prog Try.f8 false true false false) :=
  lifted_true (C := C9) C9_ok (K := Try.checked) rfl (f := 8) (d := 5) (e := 6) (fn := Try.f8) (t4 := 4) (sh := [(true, [.int .i64, .int .i64, .int .i64, .int .i64, .int .i64, .int .u8, .int .i64, .int .i64, .int .i64, .bool, .bool, .int .i64]), (false, [.int .i64]), (false, [.int .i64]), (true, [.int .u8, .int .i64, .int .i64, .int .i64])]) own (by kernel_rfl) Try.func8 laidOut (by kernel_rfl) (by kernel_rfl) Try.underlying4 rfl
    (fun H ds h => by
      have h : ds.length = 4 := h
      match ds, h with
      | [d1, d2, d3, d4], _ => rfl)
    (by kernel_rfl)
    (fun Ds h => by
      cases h with
      | agg a h =>
      cases a with
      | cons c a =>
      cases c with
      | int w0_0 =>
      cases a with
      | cons c a =>
      cases c with
      | int w0_1 =>
      cases a with
      | cons c a =>
      cases c with
      | int w0_2 =>
      cases a with
      | cons c a =>
      cases c with
      | int w0_3 =>
      cases a with
      | cons c a =>
      cases c with
      | int w0_4 =>
      cases a with
      | cons c a =>
      cases c with
      | int w0_5 =>
      cases a with
      | cons c a =>
      cases c with
      | int w0_6 =>
      cases a with
      | cons c a =>
      cases c with
      | int w0_7 =>
      cases a with
      | cons c a =>
      cases c with
      | int w0_8 =>
      cases a with
      | cons c a =>
      cases c
      cases a with
      | cons c a =>
      cases c
      cases a with
      | cons c a =>
      cases c with
      | int w0_11 =>
      cases a
      cases h with
      | one c h =>
      cases c with
      | int w1_0 =>
      cases h with
      | one c h =>
      cases c with
      | int w2_0 =>
      cases h with
      | agg a h =>
      cases a with
      | cons c a =>
      cases c with
      | int w3_0 =>
      cases a with
      | cons c a =>
      cases c with
      | int w3_1 =>
      cases a with
      | cons c a =>
      cases c with
      | int w3_2 =>
      cases a with
      | cons c a =>
      cases c with
      | int w3_3 =>
      cases a
      cases h
      exact law_final ⟨_, _, _, _, _, _, _, _, _, _, _, _⟩ _ _ ⟨_, _, _, _⟩)
    started (ChangeSpec.witness6 (enc := enc) (C := Try.checked) false ⟨#[], #[.agg #[.int .i64 0, .int .i64 0, .int .i64 0, .int .i64 0, .int .i64 0, .int .u8 0, .int .i64 0, .int .i64 0, .int .i64 0, .bool false, .bool false, .int .i64 0], .int .i64 0, .int .i64 0, .agg #[.int .u8 0, .int .i64 0, .int .i64 0, .int .i64 0]], []⟩ 8 (by kernel_rfl) (by kernel_rfl) (by kernel_rfl) (by kernel_rfl))

theorem appealFinal_over : Rows.appealFinalRow.holds Try.pinned (OpenSpec.ofChange Rows.appealFinalSpec) :=
  OpenClaim.holds_of_wide 8 Try.f8 rfl rfl rfl rfl rfl rfl rfl ⟨rfl, rfl, rfl, rfl, rfl⟩ rfl rfl rfl rfl rfl (by kernel_rfl) Try.func8 (by kernel_rfl)
    (of_decide_eq_true (by kernel_rfl)) (by unfold Func.isWrapper; first | (rw [if_pos (by decide +kernel)]; kernel_rfl) | (rw [if_neg (by decide +kernel)]; exact ⟨rfl, rfl⟩))
    (fun os started H enc _ => appealFinal_lifted os started H enc)

theorem appealFinal_said : Rows.AppealFinalSaid := appealFinal_over
#print axioms appealFinal_said

set_option maxRecDepth 100000 in
theorem appealReplays_lifted (os : Os) (started : os.Started) (H : Type) (enc : TypeId × Value → H) :
    ReturnsInHanded {} Try.checked os 6 .any (Rows.appealReplaysSpec.pre6 enc Try.prog Try.f6 Rows.appealReplaysRow.domain false) (Rows.appealReplaysSpec.post enc Try.prog Try.f6 false true false false) :=
  lifted_true (C := C9) C9_ok (K := Try.checked) rfl (f := 6) (d := 5) (e := 6) (fn := Try.f6) (t4 := 4) (sh := [(true, [.int .i64, .int .i64, .int .i64, .int .i64, .int .i64, .int .u8, .int .i64, .int .i64, .int .i64, .bool, .bool, .int .i64]), (false, [.slice ksV]), (false, [.int .i64])]) own (by kernel_rfl) Try.func6 laidOut (by kernel_rfl) (by kernel_rfl) Try.underlying4 rfl
    (fun H ds h => by
      have h : ds.length = 3 := h
      match ds, h with
      | [d1, d2, d3], _ => rfl)
    (by kernel_rfl)
    (fun Ds h => by
      cases h with
      | agg a h =>
      cases a with
      | cons c a =>
      cases c with
      | int w0_0 =>
      cases a with
      | cons c a =>
      cases c with
      | int w0_1 =>
      cases a with
      | cons c a =>
      cases c with
      | int w0_2 =>
      cases a with
      | cons c a =>
      cases c with
      | int w0_3 =>
      cases a with
      | cons c a =>
      cases c with
      | int w0_4 =>
      cases a with
      | cons c a =>
      cases c with
      | int w0_5 =>
      cases a with
      | cons c a =>
      cases c with
      | int w0_6 =>
      cases a with
      | cons c a =>
      cases c with
      | int w0_7 =>
      cases a with
      | cons c a =>
      cases c with
      | int w0_8 =>
      cases a with
      | cons c a =>
      cases c
      cases a with
      | cons c a =>
      cases c
      cases a with
      | cons c a =>
      cases c with
      | int w0_11 =>
      cases a
      cases h with
      | one c h =>
      cases c with
      | slice w1_0 =>
      cases h with
      | one c h =>
      cases c with
      | int w2_0 =>
      cases h
      exact law_repl ⟨_, _, _, _, _, _, _, _, _, _, _, _⟩ _ _)
    started (ChangeSpec.witness6 (enc := enc) (C := Try.checked) false ⟨#[], #[.agg #[.int .i64 0, .int .i64 0, .int .i64 0, .int .i64 0, .int .i64 0, .int .u8 0, .int .i64 0, .int .i64 0, .int .i64 0, .bool false, .bool false, .int .i64 0], .slice none 0 0, .int .i64 0], []⟩ 8 (by kernel_rfl) (by kernel_rfl) (by kernel_rfl) (by kernel_rfl))

theorem appealReplays_over : Rows.appealReplaysRow.holds Try.pinned (OpenSpec.ofChange Rows.appealReplaysSpec) :=
  OpenClaim.holds_of_wide 6 Try.f6 rfl rfl rfl rfl rfl rfl rfl ⟨rfl, rfl, rfl, rfl, rfl⟩ rfl rfl rfl rfl rfl (by kernel_rfl) Try.func6 (by kernel_rfl)
    (of_decide_eq_true (by kernel_rfl)) (by unfold Func.isWrapper; first | (rw [if_pos (by decide +kernel)]; kernel_rfl) | (rw [if_neg (by decide +kernel)]; exact ⟨rfl, rfl⟩))
    (fun os started H enc _ => appealReplays_lifted os started H enc)

theorem appealReplays_said : Rows.AppealReplaysSaid := appealReplays_over
#print axioms appealReplays_said
end Go.Proofs.Ytlejhkmkdajneaa

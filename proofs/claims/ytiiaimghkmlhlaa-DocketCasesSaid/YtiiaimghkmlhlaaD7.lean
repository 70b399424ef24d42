/- DocketCases: whatever case, terms and numbers come in, the law's function gives true. No conditions. -/
import Derived.Test.YtiiaimghkmlhlaaD6
namespace Go.Proofs.Ytiiaimghkmlhlaa
open Go.Ev Go.ChangeShapes Go.WideShapes Go.ChangeAt Go.RowKit
set_option linter.all false
theorem al_n (c : Cs) (d : Int) : (alR c d).n ≤ 5 := by
  unfold alR kR
  repeat' split
  all_goals exact Nat.le_of_ble_eq_true rfl
theorem law_cases (c : Cs) (a e d x cl day : Int) (h : u8B c.st = true) : evF C7 6 3 [csD c, .agg [.v (i64 a), .v (i64 e), .v (i64 d), .v (i64 x)], .v (i64 cl), .v (i64 day)] = some [.v (.bool true)] := by
  rw [tcases]
  have h2 : decide ((winOf (alR c day) 0 (alR c day).n).n ≤ big) = true := decide_eq_true (show (alR c day).n ≤ 9223372036854775807 by have := al_n c day; omega)
  have h3 : sameR (winOf (alR c day) 0 (alR c day).n) (winOf (alS c day) 0 (alS c day).n) = true := same_al c day
  simp only [h, h2, h3, br_true, beq_self_eq_true, Bool.and_self, Bool.and_true]

theorem own : ownKnob Try.prog.godebug = none := by kernel_rfl
theorem laidOut : laidOutB Try.prog = true := by kernel_rfl
set_option maxRecDepth 100000 in
theorem docketCases_lifted (os : Os) (started : os.Started) (H : Type) (enc : TypeId × Value → H) :
    ReturnsInHanded {} Try.checked os 3 .any (Rows.docketCasesSpec.pre6 enc Try.prog Try.f3 Rows.docketCasesRow.domain false) (Rows.docketCasesSpec.post enc Try.prog Try.f3 false true false false) :=
  lifted_true (C := C7) C7_ok (K := Try.checked) rfl (f := 3) (d := 5) (e := 6) (fn := Try.f3) (t4 := 4) (sh := [(true, [.int .i64, .int .i64, .int .i64, .int .i64, .int .i64, .int .u8, .int .i64, .int .i64, .int .i64, .int .i64, .int .i64, .int .i64]), (true, [.int .i64, .int .i64, .int .i64, .int .i64]), (false, [.int .i64]), (false, [.int .i64])]) own (by kernel_rfl) Try.func3 laidOut (by kernel_rfl) (by kernel_rfl) Try.underlying4 rfl
    (fun H ds h => by
      have h : ds.length = 4 := h
      match ds, h with
      | [d1, d2, d3, d4], _ => rfl)
    (by kernel_rfl)
    (fun Ds h => by
      cases h with
      | agg a h =>
      cases a with
      | cons c a =>
      cases c with
      | int w0_0 =>
      cases a with
      | cons c a =>
      cases c with
      | int w0_1 =>
      cases a with
      | cons c a =>
      cases c with
      | int w0_2 =>
      cases a with
      | cons c a =>
      cases c with
      | int w0_3 =>
      cases a with
      | cons c a =>
      cases c with
      | int w0_4 =>
      cases a with
      | cons c a =>
      cases c with
      | int w0_5 =>
      cases a with
      | cons c a =>
      cases c with
      | int w0_6 =>
      cases a with
      | cons c a =>
      cases c with
      | int w0_7 =>
      cases a with
      | cons c a =>
      cases c with
      | int w0_8 =>
      cases a with
      | cons c a =>
      cases c with
      | int w0_9 =>
      cases a with
      | cons c a =>
      cases c with
      | int w0_10 =>
      cases a with
      | cons c a =>
      cases c with
      | int w0_11 =>
      cases a
      cases h with
      | agg a h =>
      cases a with
      | cons c a =>
      cases c with
      | int w1_0 =>
      cases a with
      | cons c a =>
      cases c with
      | int w1_1 =>
      cases a with
      | cons c a =>
      cases c with
      | int w1_2 =>
      cases a with
      | cons c a =>
      cases c with
      | int w1_3 =>
      cases a
      cases h with
      | one c h =>
      cases c with
      | int w2_0 =>
      cases h with
      | one c h =>
      cases c with
      | int w3_0 =>
      cases h
      exact law_cases ⟨_, _, _, _, _, _, _, _, _, _, _, _⟩ _ _ _ _ _ _ (wf8 w0_5))
    started (ChangeSpec.witness6 (enc := enc) (C := Try.checked) false ⟨#[], #[.agg #[.int .i64 0, .int .i64 0, .int .i64 0, .int .i64 0, .int .i64 0, .int .u8 0, .int .i64 0, .int .i64 0, .int .i64 0, .int .i64 0, .int .i64 0, .int .i64 0], .agg #[.int .i64 0, .int .i64 0, .int .i64 0, .int .i64 0], .int .i64 0, .int .i64 0], []⟩ 8 (by kernel_rfl) (by kernel_rfl) (by kernel_rfl) (by kernel_rfl))

theorem docketCases_over : Rows.docketCasesRow.holds Try.pinned (OpenSpec.ofChange Rows.docketCasesSpec) :=
  OpenClaim.holds_of_wide 3 Try.f3 rfl rfl rfl rfl rfl rfl rfl ⟨rfl, rfl, rfl, rfl, rfl⟩ rfl rfl rfl rfl rfl (by kernel_rfl) Try.func3 (by kernel_rfl)
    (of_decide_eq_true (by kernel_rfl)) (by unfold Func.isWrapper; first | (rw [if_pos (by decide +kernel)]; kernel_rfl) | (rw [if_neg (by decide +kernel)]; exact ⟨rfl, rfl⟩))
    (fun os started H enc _ => docketCases_lifted os started H enc)

theorem docketCases_said : Rows.DocketCasesSaid := docketCases_over
#print axioms docketCases_said
end Go.Proofs.Ytiiaimghkmlhlaa

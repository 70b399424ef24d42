/- The laws DocketEvents, DocketOnly, DocketFinal and DocketReplays: whatever comes in, the law's function gives true. No conditions. -/
import Derived.Test.YtiiaimghkmlhlaaD22
import Derived.Test.YtiiaimghkmlhlaaD25
namespace Go.Proofs.Ytiiaimghkmlhlaa
open Go.Ev Go.ChangeShapes Go.WideShapes Go.ChangeAt Go.RowKit
set_option linter.all false

set_option maxRecDepth 100000 in
theorem docketEvents_lifted (os : Os) (started : os.Started) (H : Type) (enc : TypeId × Value → H) :
    ReturnsInHanded {} Try.checked os 5 .any (Rows.docketEventsSpec.pre6 enc Try.prog Try.f5 Rows.docketEventsRow.domain false) (Rows.docketEventsSpec.post enc Try.prog Try.f5 false true false false) :=
  lifted_true (C := C30) C30_ok (K := Try.checked) rfl (f := 5) (d := 5) (e := 6) (fn := Try.f5) (t4 := 4) (sh := [(true, [.int .i64, .int .i64, .int .i64, .int .i64, .int .i64, .int .u8, .int .i64, .int .i64, .int .i64, .int .i64, .int .i64, .int .i64]), (true, [.int .u8, .int .i64, .int .i64, .int .i64, .int .i64]), (false, [.slice ksV])]) own (by kernel_rfl) Try.func5 laidOut (by kernel_rfl) (by kernel_rfl) Try.underlying4 rfl
    (fun H ds h => by
      have h : ds.length = 3 := h
      match ds, h with
      | [d1, d2, d3], _ => rfl)
    (by kernel_rfl)
    (fun Ds h => by
      cases h with
      | agg a h =>
      cases a with
      | cons c a =>
      cases c with
      | int w0_0 =>
      cases a with
      | cons c a =>
      cases c with
      | int w0_1 =>
      cases a with
      | cons c a =>
      cases c with
      | int w0_2 =>
      cases a with
      | cons c a =>
      cases c with
      | int w0_3 =>
      cases a with
      | cons c a =>
      cases c with
      | int w0_4 =>
      cases a with
      | cons c a =>
      cases c with
      | int w0_5 =>
      cases a with
      | cons c a =>
      cases c with
      | int w0_6 =>
      cases a with
      | cons c a =>
      cases c with
      | int w0_7 =>
      cases a with
      | cons c a =>
      cases c with
      | int w0_8 =>
      cases a with
      | cons c a =>
      cases c with
      | int w0_9 =>
      cases a with
      | cons c a =>
      cases c with
      | int w0_10 =>
      cases a with
      | cons c a =>
      cases c with
      | int w0_11 =>
      cases a
      cases h with
      | agg a h =>
      cases a with
      | cons c a =>
      cases c with
      | int w1_0 =>
      cases a with
      | cons c a =>
      cases c with
      | int w1_1 =>
      cases a with
      | cons c a =>
      cases c with
      | int w1_2 =>
      cases a with
      | cons c a =>
      cases c with
      | int w1_3 =>
      cases a with
      | cons c a =>
      cases c with
      | int w1_4 =>
      cases a
      cases h with
      | one c h =>
      cases c with
      | slice w2_0 =>
      cases h
      exact law_events ⟨_, _, _, _, _, _, _, _, _, _, _, _⟩ ⟨_, _, _, _, _⟩ _ (wf8 w0_5))
    started (ChangeSpec.witness6 (enc := enc) (C := Try.checked) false ⟨#[], #[.agg #[.int .i64 0, .int .i64 0, .int .i64 0, .int .i64 0, .int .i64 0, .int .u8 0, .int .i64 0, .int .i64 0, .int .i64 0, .int .i64 0, .int .i64 0, .int .i64 0], .agg #[.int .u8 0, .int .i64 0, .int .i64 0, .int .i64 0, .int .i64 0], .slice none 0 0], []⟩ 8 (by kernel_rfl) (by kernel_rfl) (by kernel_rfl) (by kernel_rfl))

theorem docketEvents_over : Rows.docketEventsRow.holds Try.pinned (OpenSpec.ofChange Rows.docketEventsSpec) :=
  OpenClaim.holds_of_wide 5 Try.f5 rfl rfl rfl rfl rfl rfl rfl ⟨rfl, rfl, rfl, rfl, rfl⟩ rfl rfl rfl rfl rfl (by kernel_rfl) Try.func5 (by kernel_rfl)
    (of_decide_eq_true (by kernel_rfl)) (by unfold Func.isWrapper; first | (rw [if_pos (by decide +kernel)]; kernel_rfl) | (rw [if_neg (by decide +kernel)]; exact ⟨rfl, rfl⟩))
    (fun os started H enc _ => docketEvents_lifted os started H enc)

theorem docketEvents_said : Rows.DocketEventsSaid := docketEvents_over
#print axioms docketEvents_said

set_option maxRecDepth 100000 in
theorem docketOnly_lifted (os : Os) (started : os.Started) (H : Type) (enc : TypeId × Value → H) :
    ReturnsInHanded {} Try.checked os 6 .any (Rows.docketOnlySpec.pre6 enc Try.prog Try.f6 Rows.docketOnlyRow.domain false) (Rows.docketOnlySpec.post enc Try.prog Try.f6 false true false false) :=
  lifted_true (C := C31) C31_ok (K := Try.checked) rfl (f := 6) (d := 5) (e := 6) (fn := Try.f6) (t4 := 4) (sh := [(true, [.int .i64, .int .i64, .int .i64, .int .i64, .int .i64, .int .u8, .int .i64, .int .i64, .int .i64, .int .i64, .int .i64, .int .i64]), (true, [.int .u8, .int .i64, .int .i64, .int .i64, .int .i64])]) own (by kernel_rfl) Try.func6 laidOut (by kernel_rfl) (by kernel_rfl) Try.underlying4 rfl
    (fun H ds h => by
      have h : ds.length = 2 := h
      match ds, h with
      | [d1, d2], _ => rfl)
    (by kernel_rfl)
    (fun Ds h => by
      cases h with
      | agg a h =>
      cases a with
      | cons c a =>
      cases c with
      | int w0_0 =>
      cases a with
      | cons c a =>
      cases c with
      | int w0_1 =>
      cases a with
      | cons c a =>
      cases c with
      | int w0_2 =>
      cases a with
      | cons c a =>
      cases c with
      | int w0_3 =>
      cases a with
      | cons c a =>
      cases c with
      | int w0_4 =>
      cases a with
      | cons c a =>
      cases c with
      | int w0_5 =>
      cases a with
      | cons c a =>
      cases c with
      | int w0_6 =>
      cases a with
      | cons c a =>
      cases c with
      | int w0_7 =>
      cases a with
      | cons c a =>
      cases c with
      | int w0_8 =>
      cases a with
      | cons c a =>
      cases c with
      | int w0_9 =>
      cases a with
      | cons c a =>
      cases c with
      | int w0_10 =>
      cases a with
      | cons c a =>
      cases c with
      | int w0_11 =>
      cases a
      cases h with
      | agg a h =>
      cases a with
      | cons c a =>
      cases c with
      | int w1_0 =>
      cases a with
      | cons c a =>
      cases c with
      | int w1_1 =>
      cases a with
      | cons c a =>
      cases c with
      | int w1_2 =>
      cases a with
      | cons c a =>
      cases c with
      | int w1_3 =>
      cases a with
      | cons c a =>
      cases c with
      | int w1_4 =>
      cases a
      cases h
      exact law_only ⟨_, _, _, _, _, _, _, _, _, _, _, _⟩ ⟨_, _, _, _, _⟩ (wf8 w0_5))
    started (ChangeSpec.witness6 (enc := enc) (C := Try.checked) false ⟨#[], #[.agg #[.int .i64 0, .int .i64 0, .int .i64 0, .int .i64 0, .int .i64 0, .int .u8 0, .int .i64 0, .int .i64 0, .int .i64 0, .int .i64 0, .int .i64 0, .int .i64 0], .agg #[.int .u8 0, .int .i64 0, .int .i64 0, .int .i64 0, .int .i64 0]], []⟩ 8 (by kernel_rfl) (by kernel_rfl) (by kernel_rfl) (by kernel_rfl))

theorem docketOnly_over : Rows.docketOnlyRow.holds Try.pinned (OpenSpec.ofChange Rows.docketOnlySpec) :=
  OpenClaim.holds_of_wide 6 Try.f6 rfl rfl rfl rfl rfl rfl rfl ⟨rfl, rfl, rfl, rfl, rfl⟩ rfl rfl rfl rfl rfl (by kernel_rfl) Try.func6 (by kernel_rfl)
    (of_decide_eq_true (by kernel_rfl)) (by unfold Func.isWrapper; first | (rw [if_pos (by decide +kernel)]; kernel_rfl) | (rw [if_neg (by decide +kernel)]; exact ⟨rfl, rfl⟩))
    (fun os started H enc _ => docketOnly_lifted os started H enc)

theorem docketOnly_said : Rows.DocketOnlySaid := docketOnly_over
#print axioms docketOnly_said

set_option maxRecDepth 100000 in
theorem docketFinal_lifted (os : Os) (started : os.Started) (H : Type) (enc : TypeId × Value → H) :
    ReturnsInHanded {} Try.checked os 7 .any (Rows.docketFinalSpec.pre6 enc Try.prog Try.f7 Rows.docketFinalRow.domain false) (Rows.docketFinalSpec.post enc Try.prog Try.f7 false true false false) :=
  lifted_true (C := C31) C31_ok (K := Try.checked) rfl (f := 7) (d := 5) (e := 6) (fn := Try.f7) (t4 := 4) (sh := [(true, [.int .i64, .int .i64, .int .i64, .int .i64, .int .i64, .int .u8, .int .i64, .int .i64, .int .i64, .int .i64, .int .i64, .int .i64]), (false, [.int .i64]), (true, [.int .u8, .int .i64, .int .i64, .int .i64, .int .i64])]) own (by kernel_rfl) Try.func7 laidOut (by kernel_rfl) (by kernel_rfl) Try.underlying4 rfl
    (fun H ds h => by
      have h : ds.length = 3 := h
      match ds, h with
      | [d1, d2, d3], _ => rfl)
    (by kernel_rfl)
    (fun Ds h => by
      cases h with
      | agg a h =>
      cases a with
      | cons c a =>
      cases c with
      | int w0_0 =>
      cases a with
      | cons c a =>
      cases c with
      | int w0_1 =>
      cases a with
      | cons c a =>
      cases c with
      | int w0_2 =>
      cases a with
      | cons c a =>
      cases c with
      | int w0_3 =>
      cases a with
      | cons c a =>
      cases c with
      | int w0_4 =>
      cases a with
      | cons c a =>
      cases c with
      | int w0_5 =>
      cases a with
      | cons c a =>
      cases c with
      | int w0_6 =>
      cases a with
      | cons c a =>
      cases c with
      | int w0_7 =>
      cases a with
      | cons c a =>
      cases c with
      | int w0_8 =>
      cases a with
      | cons c a =>
      cases c with
      | int w0_9 =>
      cases a with
      | cons c a =>
      cases c with
      | int w0_10 =>
      cases a with
      | cons c a =>
      cases c with
      | int w0_11 =>
      cases a
      cases h with
      | one c h =>
      cases c with
      | int w1_0 =>
      cases h with
      | agg a h =>
      cases a with
      | cons c a =>
      cases c with
      | int w2_0 =>
      cases a with
      | cons c a =>
      cases c with
      | int w2_1 =>
      cases a with
      | cons c a =>
      cases c with
      | int w2_2 =>
      cases a with
      | cons c a =>
      cases c with
      | int w2_3 =>
      cases a with
      | cons c a =>
      cases c with
      | int w2_4 =>
      cases a
      cases h
      exact law_final ⟨_, _, _, _, _, _, _, _, _, _, _, _⟩ _ ⟨_, _, _, _, _⟩ (wf8 w0_5))
    started (ChangeSpec.witness6 (enc := enc) (C := Try.checked) false ⟨#[], #[.agg #[.int .i64 0, .int .i64 0, .int .i64 0, .int .i64 0, .int .i64 0, .int .u8 0, .int .i64 0, .int .i64 0, .int .i64 0, .int .i64 0, .int .i64 0, .int .i64 0], .int .i64 0, .agg #[.int .u8 0, .int .i64 0, .int .i64 0, .int .i64 0, .int .i64 0]], []⟩ 8 (by kernel_rfl) (by kernel_rfl) (by kernel_rfl) (by kernel_rfl))

theorem docketFinal_over : Rows.docketFinalRow.holds Try.pinned (OpenSpec.ofChange Rows.docketFinalSpec) :=
  OpenClaim.holds_of_wide 7 Try.f7 rfl rfl rfl rfl rfl rfl rfl ⟨rfl, rfl, rfl, rfl, rfl⟩ rfl rfl rfl rfl rfl (by kernel_rfl) Try.func7 (by kernel_rfl)
    (of_decide_eq_true (by kernel_rfl)) (by unfold Func.isWrapper; first | (rw [if_pos (by decide +kernel)]; kernel_rfl) | (rw [if_neg (by decide +kernel)]; exact ⟨rfl, rfl⟩))
    (fun os started H enc _ => docketFinal_lifted os started H enc)

theorem docketFinal_said : Rows.DocketFinalSaid := docketFinal_over
#print axioms docketFinal_said

set_option maxRecDepth 100000 in
theorem docketReplays_lifted (os : Os) (started : os.Started) (H : Type) (enc : TypeId × Value → H) :
    ReturnsInHanded {} Try.checked os 8 .any (Rows.docketReplaysSpec.pre6 enc Try.prog Try.f8 Rows.docketReplaysRow.domain false) (Rows.docketReplaysSpec.post enc Try.prog Try.f8 false true false false) :=
  lifted_true (C := C31) C31_ok (K := Try.checked) rfl (f := 8) (d := 5) (e := 6) (fn := Try.f8) (t4 := 4) (sh := [(true, [.int .i64, .int .i64, .int .i64, .int .i64]), (false, [.int .i64]), (false, [.slice ksV]), (false, [.int .i64])]) own (by kernel_rfl) Try.func8 laidOut (by kernel_rfl) (by kernel_rfl) Try.underlying4 rfl
    (fun H ds h => by
      have h : ds.length = 4 := h
      match ds, h with
      | [d1, d2, d3, d4], _ => rfl)
    (by kernel_rfl)
    (fun Ds h => by
      cases h with
      | agg a h =>
      cases a with
      | cons c a =>
      cases c with
      | int w0_0 =>
      cases a with
      | cons c a =>
      cases c with
      | int w0_1 =>
      cases a with
      | cons c a =>
      cases c with
      | int w0_2 =>
      cases a with
      | cons c a =>
      cases c with
      | int w0_3 =>
      cases a
      cases h with
      | one c h =>
      cases c with
      | int w1_0 =>
      cases h with
      | one c h =>
      cases c with
      | slice w2_0 =>
      cases h with
      | one c h =>
      cases c with
      | int w3_0 =>
      cases h
      exact law_repl _ _ _ _ _ _ _)
    started (ChangeSpec.witness6 (enc := enc) (C := Try.checked) false ⟨#[], #[.agg #[.int .i64 0, .int .i64 0, .int .i64 0, .int .i64 0], .int .i64 0, .slice none 0 0, .int .i64 0], []⟩ 8 (by kernel_rfl) (by kernel_rfl) (by kernel_rfl) (by kernel_rfl))

theorem docketReplays_over : Rows.docketReplaysRow.holds Try.pinned (OpenSpec.ofChange Rows.docketReplaysSpec) :=
  OpenClaim.holds_of_wide 8 Try.f8 rfl rfl rfl rfl rfl rfl rfl ⟨rfl, rfl, rfl, rfl, rfl⟩ rfl rfl rfl rfl rfl (by kernel_rfl) Try.func8 (by kernel_rfl)
    (of_decide_eq_true (by kernel_rfl)) (by unfold Func.isWrapper; first | (rw [if_pos (by decide +kernel)]; kernel_rfl) | (rw [if_neg (by decide +kernel)]; exact ⟨rfl, rfl⟩))
    (fun os started H enc _ => docketReplays_lifted os started H enc)

theorem docketReplays_said : Rows.DocketReplaysSaid := docketReplays_over
#print axioms docketReplays_said
end Go.Proofs.Ytiiaimghkmlhlaa

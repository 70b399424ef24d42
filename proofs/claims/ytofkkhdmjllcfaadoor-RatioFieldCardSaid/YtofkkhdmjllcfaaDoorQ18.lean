/- RatioField: the law's function gives true; the tied card. No conditions. -/
import Derived.Test.YtofkkhdmjllcfaaDoorQ17
namespace Go.Proofs.YtofkkhdmjllcfaaDoor
open Go.Ev Go.RowKit Go.ChangeShapes Go.WideShapes
set_option linter.all false
set_option maxRecDepth 100000 in
theorem ratioField_lifted (os : Os) (started : os.Started) (H : Type) (enc : TypeId × Value → H) :
    ReturnsInHanded {} Tryd.checked os 4 .any (fun w args => (Rows.ratioFieldSpec.pre enc Tryd.prog Tryd.f4 Rows.ratioFieldRow.domain false w args ∧ Xt w) ∧ sizedMet enc Tryd.prog Tryd.f4 (OpenSpec.ofChange Rows.ratioFieldSpec) false w args) (Rows.ratioFieldSpec.post enc Tryd.prog Tryd.f4 false true false false) :=
  lifted_shape (C := (CF vaB adN adD adE sbN sbD sbE prN prD prE diN diD diE (fun n d => txt (txL n d)) chkE (fun s => rpN (by_ s)) (fun s => rpD (by_ s)) (fun s => rpE (by_ s)))) (Wp := Wt) CF_ok (K := Tryd.checked) rfl (f := 4) (d := 5) (e := 6) (fn := Tryd.f4) (t4 := 4) (sh := [(true, [.int .i64, .int .i64]), (true, [.int .i64, .int .i64])]) own (by kernel_rfl) Tryd.func4 laidOut (by kernel_rfl) (by kernel_rfl) Tryd.underlying4 rfl
    (fun H ds h => by
      have h : ds.length = 2 := h
      match ds, h with
      | [d1, d2], _ => rfl)
    (by kernel_rfl)
    (fun Ds h => by
      cases h with
      | agg a h =>
      cases a with
      | cons c a =>
      cases c with
      | int w0_0 =>
      cases a with
      | cons c a =>
      cases c with
      | int w0_1 =>
      cases a
      cases h with
      | agg a h =>
      cases a with
      | cons c a =>
      cases c with
      | int w1_0 =>
      cases a with
      | cons c a =>
      cases c with
      | int w1_1 =>
      cases a
      cases h
      exact law_field (iR_wf w0_0) (iR_wf w0_1) (iR_wf w1_0) (iR_wf w1_1))
    started (X := Xt) (fun _ _ hh h => laidMet.of_heap hh h) (fun _ hs h => Xt.wt hs h)
    (ChangeSpec.witness_at (enc := enc) (C := Tryd.checked) (os := os) (X := fun w _ => Xt w) false (tabWorld os) #[.agg #[.int .i64 0, .int .i64 0], .agg #[.int .i64 0, .int .i64 0]] 8 rfl (by kernel_rfl) (by kernel_rfl) (by kernel_rfl) (by kernel_rfl) (by kernel_rfl) (tab_met os _))

theorem ratioField_over : Rows.ratioFieldRow.holds Tryd.pinned (OpenSpec.ofChange Rows.ratioFieldSpec) :=
  OpenClaim.holds_of_wide 4 Tryd.f4 rfl rfl rfl rfl rfl rfl rfl ⟨rfl, rfl, rfl, rfl, rfl⟩ rfl rfl rfl rfl rfl (by kernel_rfl) Tryd.func4 (by kernel_rfl)
    (of_decide_eq_true (by kernel_rfl)) (by unfold Func.isWrapper; first | (rw [if_pos (by decide +kernel)]; kernel_rfl) | (rw [if_neg (by decide +kernel)]; exact ⟨rfl, rfl⟩))
    (fun os started H enc _ => ratioField_lifted os started H enc)

theorem ratioField_card : Rows.RatioFieldCardSaid :=
  Claim7.holds_tied_plain_at .later [] [.data, .data, .data, .sentinel, .sentinel] true (true, "0f4d4353febd24aa5701b7fe4dfbe1b693d2f62fe5b0142a532e871ec1ba1c6d") true
    ratioField_over (fun _ h => by cases h) (by kernel_rfl) (fun _ h => by cases h) ratioField_row_tie rfl ⟨rfl, rfl⟩ (by kernel_rfl) rfl
    (fun f fn hf hfn => by
      obtain rfl : f = 4 := Option.some.inj ((show Tryd.prog.funcNamed Rows.ratioFieldRow.func = some 4 by kernel_rfl).symm.trans hf) |>.symm
      obtain rfl : fn = Tryd.f4 := (Option.some.inj (Tryd.func4.symm.trans hfn)).symm
      refine ⟨by kernel_rfl, fun j t ht => ?_⟩
      have hall : (Tryd.f4.params.toList.all fun t => !Tryd.prog.wantsStandIn t) = true := by kernel_rfl
      have hm : t ∈ Tryd.f4.params.toList := List.mem_of_getElem? (by rw [Array.getElem?_toList]; exact ht)
      have hq : Tryd.prog.wantsStandIn t = false := by simpa using List.all_eq_true.1 hall t hm
      exact hq)
    (by kernel_rfl)
#print axioms ratioField_card
end Go.Proofs.YtofkkhdmjllcfaaDoor

/- RatioOrder: the law's function gives true; the tied card. No conditions. -/
import Derived.Test.YtofkkhdmjllcfaaDoorQ21
namespace Go.Proofs.YtofkkhdmjllcfaaDoor
open Go.Ev Go.RowKit Go.ChangeShapes Go.WideShapes
set_option linter.all false
set_option maxRecDepth 100000 in
theorem ratioOrder_lifted (os : Os) (started : os.Started) (H : Type) (enc : TypeId × Value → H) :
    ReturnsInHanded {} Tryd.checked os 6 .any (fun w args => (Rows.ratioOrderSpec.pre enc Tryd.prog Tryd.f6 Rows.ratioOrderRow.domain false w args ∧ Xt w) ∧ sizedMet enc Tryd.prog Tryd.f6 (OpenSpec.ofChange Rows.ratioOrderSpec) false w args) (Rows.ratioOrderSpec.post enc Tryd.prog Tryd.f6 false true false false) :=
  lifted_shape (C := (CO vaB adN adD adE cpC chk2 floN chkE)) (Wp := Wt) CO_ok (K := Tryd.checked) rfl (f := 6) (d := 5) (e := 6) (fn := Tryd.f6) (t4 := 4) (sh := [(true, [.int .i64, .int .i64]), (true, [.int .i64, .int .i64]), (true, [.int .i64, .int .i64])]) own (by kernel_rfl) Tryd.func6 laidOut (by kernel_rfl) (by kernel_rfl) Tryd.underlying4 rfl
    (fun H ds h => by
      have h : ds.length = 3 := h
      match ds, h with
      | [d1, d2, d3], _ => rfl)
    (by kernel_rfl)
    (fun Ds h => by
      cases h with
      | agg a h =>
      cases a with
      | cons c a =>
      cases c with
      | int w0_0 =>
      cases a with
      | cons c a =>
      cases c with
      | int w0_1 =>
      cases a
      cases h with
      | agg a h =>
      cases a with
      | cons c a =>
      cases c with
      | int w1_0 =>
      cases a with
      | cons c a =>
      cases c with
      | int w1_1 =>
      cases a
      cases h with
      | agg a h =>
      cases a with
      | cons c a =>
      cases c with
      | int w2_0 =>
      cases a with
      | cons c a =>
      cases c with
      | int w2_1 =>
      cases a
      cases h
      exact law_order (iR_wf w0_0) (iR_wf w0_1) (iR_wf w1_0) (iR_wf w1_1) (iR_wf w2_0) (iR_wf w2_1))
    started (X := Xt) (fun _ _ hh h => laidMet.of_heap hh h) (fun _ hs h => Xt.wt hs h)
    (ChangeSpec.witness_at (enc := enc) (C := Tryd.checked) (os := os) (X := fun w _ => Xt w) false (tabWorld os) #[.agg #[.int .i64 0, .int .i64 0], .agg #[.int .i64 0, .int .i64 0], .agg #[.int .i64 0, .int .i64 0]] 8 rfl (by kernel_rfl) (by kernel_rfl) (by kernel_rfl) (by kernel_rfl) (by kernel_rfl) (tab_met os _))

theorem ratioOrder_over : Rows.ratioOrderRow.holds Tryd.pinned (OpenSpec.ofChange Rows.ratioOrderSpec) :=
  OpenClaim.holds_of_wide 6 Tryd.f6 rfl rfl rfl rfl rfl rfl rfl ⟨rfl, rfl, rfl, rfl, rfl⟩ rfl rfl rfl rfl rfl (by kernel_rfl) Tryd.func6 (by kernel_rfl)
    (of_decide_eq_true (by kernel_rfl)) (by unfold Func.isWrapper; first | (rw [if_pos (by decide +kernel)]; kernel_rfl) | (rw [if_neg (by decide +kernel)]; exact ⟨rfl, rfl⟩))
    (fun os started H enc _ => ratioOrder_lifted os started H enc)

theorem ratioOrder_card : Rows.RatioOrderCardSaid :=
  Claim7.holds_tied_plain_at .later [] [.data, .data, .data, .sentinel, .sentinel] true (true, "0f4d4353febd24aa5701b7fe4dfbe1b693d2f62fe5b0142a532e871ec1ba1c6d") true
    ratioOrder_over (fun _ h => by cases h) (by kernel_rfl) (fun _ h => by cases h) ratioOrder_row_tie rfl ⟨rfl, rfl⟩ (by kernel_rfl) rfl
    (fun f fn hf hfn => by
      obtain rfl : f = 6 := Option.some.inj ((show Tryd.prog.funcNamed Rows.ratioOrderRow.func = some 6 by kernel_rfl).symm.trans hf) |>.symm
      obtain rfl : fn = Tryd.f6 := (Option.some.inj (Tryd.func6.symm.trans hfn)).symm
      refine ⟨by kernel_rfl, fun j t ht => ?_⟩
      have hall : (Tryd.f6.params.toList.all fun t => !Tryd.prog.wantsStandIn t) = true := by kernel_rfl
      have hm : t ∈ Tryd.f6.params.toList := List.mem_of_getElem? (by rw [Array.getElem?_toList]; exact ht)
      have hq : Tryd.prog.wantsStandIn t = false := by simpa using List.all_eq_true.1 hall t hm
      exact hq)
    (by kernel_rfl)
#print axioms ratioOrder_card
end Go.Proofs.YtofkkhdmjllcfaaDoor

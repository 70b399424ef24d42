/- RatioNames: the law's function gives true; the tied card. No conditions. -/
import Derived.Test.YtofkkhdmjllcfaaDoorQ14
namespace Go.Proofs.YtofkkhdmjllcfaaDoor
open Go.Ev Go.RowKit Go.ChangeShapes Go.WideShapes
set_option linter.all false
set_option maxRecDepth 100000 in
theorem ratioNames_lifted (os : Os) (started : os.Started) (H : Type) (enc : TypeId × Value → H) :
    ReturnsInHanded {} Tryd.checked os 7 .any (fun w args => (Rows.ratioNamesSpec.pre enc Tryd.prog Tryd.f7 Rows.ratioNamesRow.domain false w args ∧ Xt w) ∧ sizedMet enc Tryd.prog Tryd.f7 (OpenSpec.ofChange Rows.ratioNamesSpec) false w args) (Rows.ratioNamesSpec.post enc Tryd.prog Tryd.f7 false true false false) :=
  lifted_shape (C := CN) (Wp := Wt) CN_ok (K := Tryd.checked) rfl (f := 7) (d := 5) (e := 6) (fn := Tryd.f7) (t4 := 4) (sh := []) own (by kernel_rfl) Tryd.func7 laidOut (by kernel_rfl) (by kernel_rfl) Tryd.underlying4 rfl
    (fun H ds h => by
      have h : ds.length = 0 := h
      match ds, h with
      | [], _ => rfl)
    (by kernel_rfl)
    (fun Ds h => by

      cases h
      exact law_names)
    started (X := Xt) (fun _ _ hh h => laidMet.of_heap hh h) (fun _ hs h => Xt.wt hs h)
    (ChangeSpec.witness_at (enc := enc) (C := Tryd.checked) (os := os) (X := fun w _ => Xt w) false (tabWorld os) #[] 8 rfl (by kernel_rfl) (by kernel_rfl) (by kernel_rfl) (by kernel_rfl) (by kernel_rfl) (tab_met os _))

theorem ratioNames_over : Rows.ratioNamesRow.holds Tryd.pinned (OpenSpec.ofChange Rows.ratioNamesSpec) :=
  OpenClaim.holds_of_wide 7 Tryd.f7 rfl rfl rfl rfl rfl rfl rfl ⟨rfl, rfl, rfl, rfl, rfl⟩ rfl rfl rfl rfl rfl (by kernel_rfl) Tryd.func7 (by kernel_rfl)
    (of_decide_eq_true (by kernel_rfl)) (by unfold Func.isWrapper; first | (rw [if_pos (by decide +kernel)]; kernel_rfl) | (rw [if_neg (by decide +kernel)]; exact ⟨rfl, rfl⟩))
    (fun os started H enc _ => ratioNames_lifted os started H enc)

theorem ratioNames_card : Rows.RatioNamesCardSaid :=
  Claim7.holds_tied_plain_at .later [] [.data, .data, .data, .sentinel, .sentinel] true (true, "0f4d4353febd24aa5701b7fe4dfbe1b693d2f62fe5b0142a532e871ec1ba1c6d") true
    ratioNames_over (fun _ h => by cases h) (by kernel_rfl) (fun _ h => by cases h) ratioNames_row_tie rfl ⟨rfl, rfl⟩ (by kernel_rfl) rfl
    (fun f fn hf hfn => by
      obtain rfl : f = 7 := Option.some.inj ((show Tryd.prog.funcNamed Rows.ratioNamesRow.func = some 7 by kernel_rfl).symm.trans hf) |>.symm
      obtain rfl : fn = Tryd.f7 := (Option.some.inj (Tryd.func7.symm.trans hfn)).symm
      refine ⟨by kernel_rfl, fun j t ht => ?_⟩
      have hall : (Tryd.f7.params.toList.all fun t => !Tryd.prog.wantsStandIn t) = true := by kernel_rfl
      have hm : t ∈ Tryd.f7.params.toList := List.mem_of_getElem? (by rw [Array.getElem?_toList]; exact ht)
      have hq : Tryd.prog.wantsStandIn t = false := by simpa using List.all_eq_true.1 hall t hm
      exact hq)
    (by kernel_rfl)
#print axioms ratioNames_card
end Go.Proofs.YtofkkhdmjllcfaaDoor

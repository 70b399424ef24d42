/- LedgerFewest: whatever balances and payments come in, the law's function gives true; the tied card. No conditions. -/
import Derived.Test.YtpblmkephkhlkaaDoorE16
import Derived.Test.YtpblmkephkhlkaaDoorE26
namespace Go.Proofs.YtpblmkephkhlkaaDoor
open Go.Ev Go.ChangeShapes Go.WideShapes Go.RowKit
set_option linter.all false
set_option maxRecDepth 100000 in
theorem ledgerFewest_lifted (os : Os) (started : os.Started) (H : Type) (enc : TypeId × Value → H) :
    ReturnsInHanded {} Tryd.checked os 4 .any (fun w args => (Rows.ledgerFewestSpec.pre enc Tryd.prog Tryd.f4 Rows.ledgerFewestRow.domain false w args ∧ Xt w) ∧ sizedMet enc Tryd.prog Tryd.f4 (OpenSpec.ofChange Rows.ledgerFewestSpec) false w args) (Rows.ledgerFewestSpec.post enc Tryd.prog Tryd.f4 false true false false) :=
  lifted_laid (C := Fw.C20) (Wp := Wt) Fw.C20_ok (K := Tryd.checked) rfl (f := 4) (d := 5) (e := 6) (fn := Tryd.f4) (t4 := 4) (sh := [(false, [.slice ks1]), (false, [.slice Lg.ks3])]) own (by kernel_rfl) Tryd.func4 laidOut (by kernel_rfl) (by kernel_rfl) Tryd.underlying4 rfl
    (fun H ds h => by
      have h : ds.length = 2 := h
      match ds, h with
      | [d1, d2], _ => rfl)
    (by kernel_rfl)
    (fun Ds h => by
      cases h with
      | one c h =>
      cases c with
      | slice w0_0 =>
      cases h with
      | one c h =>
      cases c with
      | slice w1_0 =>
      cases h
      exact Fw.law_fewest _ _)
    started (X := Xt) (fun _ _ hh h => laidMet.of_heap hh h) (fun _ h => h.wt)
    (ChangeSpec.witness_at (enc := enc) (C := Tryd.checked) (os := os) (X := fun w _ => Xt w) false (tabWorld os) #[.slice none 0 0, .slice none 0 0] 8 rfl (by kernel_rfl) (by kernel_rfl) (by kernel_rfl) (by kernel_rfl) (by kernel_rfl) (tab_met os _))

theorem ledgerFewest_over : Rows.ledgerFewestRow.holds Tryd.pinned (OpenSpec.ofChange Rows.ledgerFewestSpec) :=
  OpenClaim.holds_of_wide 4 Tryd.f4 rfl rfl rfl rfl rfl rfl rfl ⟨rfl, rfl, rfl, rfl, rfl⟩ rfl rfl rfl rfl rfl (by kernel_rfl) Tryd.func4 (by kernel_rfl)
    (of_decide_eq_true (by kernel_rfl)) (by unfold Func.isWrapper; first | (rw [if_pos (by decide +kernel)]; kernel_rfl) | (rw [if_neg (by decide +kernel)]; exact ⟨rfl, rfl⟩))
    (fun os started H enc _ => ledgerFewest_lifted os started H enc)

theorem ledgerFewest_card : Rows.LedgerFewestCardSaid :=
  Claim7.holds_tied_plain_at .later [] [.data, .data] true (true, "c574c69ac59fb3124327a303ca252de68517c022ba0d0c9022e11bf7ae4326c0") false
    ledgerFewest_over (fun _ h => by cases h) (by kernel_rfl) (fun _ h => by cases h) ledgerFewest_row_tie rfl ⟨rfl, rfl⟩ (by kernel_rfl) rfl
    (fun f fn hf hfn => by
      obtain rfl : f = 4 := Option.some.inj ((show Tryd.prog.funcNamed Rows.ledgerFewestRow.func = some 4 by kernel_rfl).symm.trans hf) |>.symm
      obtain rfl : fn = Tryd.f4 := (Option.some.inj (Tryd.func4.symm.trans hfn)).symm
      refine ⟨by kernel_rfl, fun j t ht => ?_⟩
      have hall : (Tryd.f4.params.toList.all fun t => !Tryd.prog.wantsStandIn t) = true := by kernel_rfl
      have hm : t ∈ Tryd.f4.params.toList := List.mem_of_getElem? (by rw [Array.getElem?_toList]; exact ht)
      have hq : Tryd.prog.wantsStandIn t = false := by simpa using List.all_eq_true.1 hall t hm
      exact hq)
    (by kernel_rfl)
#print axioms ledgerFewest_card
end Go.Proofs.YtpblmkephkhlkaaDoor

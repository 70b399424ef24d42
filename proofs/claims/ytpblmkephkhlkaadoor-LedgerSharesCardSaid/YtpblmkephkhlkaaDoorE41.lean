/- LedgerShares: whatever number and expenses come in, the law's function gives true; the tied card. No conditions. -/
import Derived.Test.YtpblmkephkhlkaaDoorE16
import Derived.Test.YtpblmkephkhlkaaDoorE36
namespace Go.Proofs.YtpblmkephkhlkaaDoor
open Go.Ev Go.ChangeShapes Go.WideShapes Go.RowKit
set_option linter.all false
set_option maxRecDepth 100000 in
theorem ledgerShares_lifted (os : Os) (started : os.Started) (H : Type) (enc : TypeId × Value → H) :
    ReturnsInHanded {} Tryd.checked os 6 .any (fun w args => (Rows.ledgerSharesSpec.pre enc Tryd.prog Tryd.f6 Rows.ledgerSharesRow.domain false w args ∧ Xt w) ∧ sizedMet enc Tryd.prog Tryd.f6 (OpenSpec.ofChange Rows.ledgerSharesSpec) false w args) (Rows.ledgerSharesSpec.post enc Tryd.prog Tryd.f6 false true false false) :=
  lifted_laid (C := Sh.C30) (Wp := Wt) Sh.C30_ok (K := Tryd.checked) rfl (f := 6) (d := 5) (e := 6) (fn := Tryd.f6) (t4 := 4) (sh := [(false, [.int .i64]), (false, [.slice Lg.ksE])]) own (by kernel_rfl) Tryd.func6 laidOut (by kernel_rfl) (by kernel_rfl) Tryd.underlying4 rfl
    (fun H ds h => by
      have h : ds.length = 2 := h
      match ds, h with
      | [d1, d2], _ => rfl)
    (by kernel_rfl)
    (fun Ds h => by
      cases h with
      | one c h =>
      cases c with
      | int w0_0 =>
      cases h with
      | one c h =>
      cases c with
      | slice w1_0 =>
      cases h
      cases w1_0 with
      | mk hn _ => exact Sh.law_shares _ _ (Nat.le_trans hn (by decide)))
    started (X := Xt) (fun _ _ hh h => laidMet.of_heap hh h) (fun _ h => h.wt)
    (ChangeSpec.witness_at (enc := enc) (C := Tryd.checked) (os := os) (X := fun w _ => Xt w) false (tabWorld os) #[.int .i64 0, .slice none 0 0] 8 rfl (by kernel_rfl) (by kernel_rfl) (by kernel_rfl) (by kernel_rfl) (by kernel_rfl) (tab_met os _))

theorem ledgerShares_over : Rows.ledgerSharesRow.holds Tryd.pinned (OpenSpec.ofChange Rows.ledgerSharesSpec) :=
  OpenClaim.holds_of_wide 6 Tryd.f6 rfl rfl rfl rfl rfl rfl rfl ⟨rfl, rfl, rfl, rfl, rfl⟩ rfl rfl rfl rfl rfl (by kernel_rfl) Tryd.func6 (by kernel_rfl)
    (of_decide_eq_true (by kernel_rfl)) (by unfold Func.isWrapper; first | (rw [if_pos (by decide +kernel)]; kernel_rfl) | (rw [if_neg (by decide +kernel)]; exact ⟨rfl, rfl⟩))
    (fun os started H enc _ => ledgerShares_lifted os started H enc)

theorem ledgerShares_card : Rows.LedgerSharesCardSaid :=
  Claim7.holds_tied_plain_at .later [] [.data, .data] true (true, "c574c69ac59fb3124327a303ca252de68517c022ba0d0c9022e11bf7ae4326c0") false
    ledgerShares_over (fun _ h => by cases h) (by kernel_rfl) (fun _ h => by cases h) ledgerShares_row_tie rfl ⟨rfl, rfl⟩ (by kernel_rfl) rfl
    (fun f fn hf hfn => by
      obtain rfl : f = 6 := Option.some.inj ((show Tryd.prog.funcNamed Rows.ledgerSharesRow.func = some 6 by kernel_rfl).symm.trans hf) |>.symm
      obtain rfl : fn = Tryd.f6 := (Option.some.inj (Tryd.func6.symm.trans hfn)).symm
      refine ⟨by kernel_rfl, fun j t ht => ?_⟩
      have hall : (Tryd.f6.params.toList.all fun t => !Tryd.prog.wantsStandIn t) = true := by kernel_rfl
      have hm : t ∈ Tryd.f6.params.toList := List.mem_of_getElem? (by rw [Array.getElem?_toList]; exact ht)
      have hq : Tryd.prog.wantsStandIn t = false := by simpa using List.all_eq_true.1 hall t hm
      exact hq)
    (by kernel_rfl)
#print axioms ledgerShares_card
end Go.Proofs.YtpblmkephkhlkaaDoor

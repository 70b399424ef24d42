/- ScriptNames: the law's function gives true; the tied card. No conditions. -/
import Derived.Test.YtopdfmhlgkbaaaaDoorT53
import Derived.Test.YtopdfmhlgkbaaaaDoorMF
namespace Go.Proofs.YtopdfmhlgkbaaaaDoor
open Go.Ev Go.RowKit Go.ChangeShapes Go.WideShapes
set_option linter.all false
theorem wf_big {ks : List CK} {r : Row} (h : WfR ks r) : r.n ≤ big := by
  cases h with
  | mk h _ => exact h
set_option maxRecDepth 100000 in
theorem scriptNames_lifted (os : Os) (started : os.Started) (H : Type) (enc : TypeId × Value → H) :
    ReturnsInHanded {} Tryd.checked os 6 .any (fun w args => (Rows.scriptNamesSpec.pre enc Tryd.prog Tryd.f6 Rows.scriptNamesRow.domain false w args ∧ Xt w) ∧ sizedMet enc Tryd.prog Tryd.f6 (OpenSpec.ofChange Rows.scriptNamesSpec) false w args) (Rows.scriptNamesSpec.post enc Tryd.prog Tryd.f6 false true false false) :=
  lifted_shape (C := CN7i) (Wp := Wd) CN7_ok (K := Tryd.checked) rfl (f := 6) (d := 5) (e := 6) (fn := Tryd.f6) (t4 := 4) (sh := []) own (by kernel_rfl) Tryd.func6 laidOut (by kernel_rfl) (by kernel_rfl) Tryd.underlying4 rfl
    (fun H ds h => by
      have h : ds.length = 0 := h
      match ds, h with
      | [], _ => rfl)
    (by kernel_rfl)
    (fun Ds h => by

      cases h
      exact law_scnames)
    started (X := Xt) (fun _ _ hh h => laidMet.of_heap hh h) (fun _ hs h => Xt.wt hs h)
    (ChangeSpec.witness_at (enc := enc) (C := Tryd.checked) (os := os) (X := fun w _ => Xt w) false (tabWorld os) #[] 8 rfl (by kernel_rfl) (by kernel_rfl) (by kernel_rfl) (by kernel_rfl) (by kernel_rfl) (tab_met os _))

theorem scriptNames_over : Rows.scriptNamesRow.holds Tryd.pinned (OpenSpec.ofChange Rows.scriptNamesSpec) :=
  OpenClaim.holds_of_wide 6 Tryd.f6 rfl rfl rfl rfl rfl rfl rfl ⟨rfl, rfl, rfl, rfl, rfl⟩ rfl rfl rfl rfl rfl (by kernel_rfl) Tryd.func6 (by kernel_rfl)
    (of_decide_eq_true (by kernel_rfl)) (by unfold Func.isWrapper; first | (rw [if_pos (by decide +kernel)]; kernel_rfl) | (rw [if_neg (by decide +kernel)]; exact ⟨rfl, rfl⟩))
    (fun os started H enc _ => scriptNames_lifted os started H enc)

theorem scriptNames_card : Rows.ScriptNamesCardSaid :=
  Claim7.holds_tied_plain_at .later [] [.data, .data, .data, .data, .sentinel, .sentinel, .pinned] true (true, "4079273ca28614bbaef530713c479f97cbf2500f47da3641b1ab41bab538885f") true
    scriptNames_over (fun _ h => by cases h) (by kernel_rfl) (fun _ h => by cases h) scriptNames_row_tie rfl ⟨rfl, rfl⟩ (by kernel_rfl) rfl
    (fun f fn hf hfn => by
      obtain rfl : f = 6 := Option.some.inj ((show Tryd.prog.funcNamed Rows.scriptNamesRow.func = some 6 by kernel_rfl).symm.trans hf) |>.symm
      obtain rfl : fn = Tryd.f6 := (Option.some.inj (Tryd.func6.symm.trans hfn)).symm
      refine ⟨by kernel_rfl, fun j t ht => ?_⟩
      have hall : (Tryd.f6.params.toList.all fun t => !Tryd.prog.wantsStandIn t) = true := by kernel_rfl
      have hm : t ∈ Tryd.f6.params.toList := List.mem_of_getElem? (by rw [Array.getElem?_toList]; exact ht)
      have hq : Tryd.prog.wantsStandIn t = false := by simpa using List.all_eq_true.1 hall t hm
      exact hq)
    (by kernel_rfl)
#print axioms scriptNames_card
end Go.Proofs.YtopdfmhlgkbaaaaDoor

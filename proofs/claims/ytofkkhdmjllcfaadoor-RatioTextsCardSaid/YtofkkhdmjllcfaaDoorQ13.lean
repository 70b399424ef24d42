/- RatioTexts: the law's function gives true; the tied card. No conditions. -/
import Derived.Test.YtofkkhdmjllcfaaDoorQ12
namespace Go.Proofs.YtofkkhdmjllcfaaDoor
open Go.Ev Go.RowKit Go.ChangeShapes Go.WideShapes
set_option linter.all false
theorem CTx_ok : CxW (CTx (fun n d => txt (txL n d)) chkE (fun s => rpN (by_ s)) (fun s => rpD (by_ s)) (fun s => rpE (by_ s)) (fun r => decide ((r.n : Int) > 100) || Su.wf2 r r.n) suN suD suE) Wt := mkCx_okW enter mixed (fun p h => by
  simp only [List.mem_cons, List.not_mem_nil, or_false] at h
  rcases h with rfl | rfl | rfl | rfl | rfl | rfl
  · exact den_text
  · exact den_textr
  · exact den_parp
  · exact den_parr.at _
  · exact den_sum.at _
  · exact den_sumr.at _) (fun l h => by cases h)
theorem wf2_of {r : Row} (h : WfR [.int .i64, .int .i64] r) : Su.wf2 (winOf r 0 r.n) r.n = true := by
  cases h with
  | mk _ h2 =>
  unfold Su.wf2
  rw [Bool.not_eq_true']
  refine anyF_false.2 fun i _ hi => ?_
  have a := h2 i 0 (.int .i64) (by omega) rfl
  have b := h2 i 1 (.int .i64) (by omega) rfl
  cases a with
  | int a =>
  cases b with
  | int b =>
  show (!(iR (r.I i 0) && iR (r.I i 1))) = false
  rw [iR_wf a, iR_wf b]
  rfl
theorem law_texts {n d : Int} {s : ByteArray} {r : Row} (h1 : iR n = true) (h2 : iR d = true) (h3 : WfR [.int .i64, .int .i64] r) :
    evF (CTx (fun n d => txt (txL n d)) chkE (fun s => rpN (by_ s)) (fun s => rpD (by_ s)) (fun s => rpE (by_ s)) (fun r => decide ((r.n : Int) > 100) || Su.wf2 r r.n) suN suD suE) 6 3 [.agg [.v (i64 n), .v (i64 d)], .v (.string s), .slice [.int .i64, .int .i64] r] = some [.v (.bool true)] := by
  refine (ttexts _ _ _ _ _ _ _ _ _ n d s r).trans ?_
  have hw := wf2_of h3
  have hcw : (decide (((winOf r 0 r.n).n : Int) > 100) || Su.wf2 (winOf r 0 r.n) (winOf r 0 r.n).n) = true := by rw [winOf_n, hw, Bool.or_true]
  by_cases hs : (s.size : Int) > 300
  · rw [decide_eq_true hs]; rfl
  · rw [decide_eq_false hs, br_false, h1, h2, decide_eq_true (show s.size ≤ 4000000000 by omega)]
    simp only [hcw, beq_self_eq_true, Bool.and_self, br_true]
    cases decide ((r.n : Int) > 30) <;> cases decide ((r.n : Int) ≤ 100) <;> cases decide ((r.n : Int) > 200) <;> rfl
set_option maxRecDepth 100000 in
theorem ratioTexts_lifted (os : Os) (started : os.Started) (H : Type) (enc : TypeId × Value → H) :
    ReturnsInHanded {} Tryd.checked os 3 .any (fun w args => (Rows.ratioTextsSpec.pre enc Tryd.prog Tryd.f3 Rows.ratioTextsRow.domain false w args ∧ Xt w) ∧ sizedMet enc Tryd.prog Tryd.f3 (OpenSpec.ofChange Rows.ratioTextsSpec) false w args) (Rows.ratioTextsSpec.post enc Tryd.prog Tryd.f3 false true false false) :=
  lifted_shape (C := (CTx (fun n d => txt (txL n d)) chkE (fun s => rpN (by_ s)) (fun s => rpD (by_ s)) (fun s => rpE (by_ s)) (fun r => decide ((r.n : Int) > 100) || Su.wf2 r r.n) suN suD suE)) (Wp := Wt) CTx_ok (K := Tryd.checked) rfl (f := 3) (d := 5) (e := 6) (fn := Tryd.f3) (t4 := 4) (sh := [(true, [.int .i64, .int .i64]), (false, [.str]), (false, [.slice [.int .i64, .int .i64]])]) own (by kernel_rfl) Tryd.func3 laidOut (by kernel_rfl) (by kernel_rfl) Tryd.underlying4 rfl
    (fun H ds h => by
      have h : ds.length = 3 := h
      match ds, h with
      | [d1, d2, d3], _ => rfl)
    (by kernel_rfl)
    (fun Ds h => by
      cases h with
      | agg a h =>
      cases a with
      | cons c a =>
      cases c with
      | int w0_0 =>
      cases a with
      | cons c a =>
      cases c with
      | int w0_1 =>
      cases a
      cases h with
      | one c h =>
      cases c with
      | str w1_0 =>
      cases h with
      | one c h =>
      cases c with
      | slice w2_0 =>
      cases h
      exact law_texts (iR_wf w0_0) (iR_wf w0_1) w2_0)
    started (X := Xt) (fun _ _ hh h => laidMet.of_heap hh h) (fun _ hs h => Xt.wt hs h)
    (ChangeSpec.witness_at (enc := enc) (C := Tryd.checked) (os := os) (X := fun w _ => Xt w) false (tabWorld os) #[.agg #[.int .i64 0, .int .i64 0], .string ⟨#[]⟩, .slice none 0 0] 8 rfl (by kernel_rfl) (by kernel_rfl) (by kernel_rfl) (by kernel_rfl) (by kernel_rfl) (tab_met os _))

theorem ratioTexts_over : Rows.ratioTextsRow.holds Tryd.pinned (OpenSpec.ofChange Rows.ratioTextsSpec) :=
  OpenClaim.holds_of_wide 3 Tryd.f3 rfl rfl rfl rfl rfl rfl rfl ⟨rfl, rfl, rfl, rfl, rfl⟩ rfl rfl rfl rfl rfl (by kernel_rfl) Tryd.func3 (by kernel_rfl)
    (of_decide_eq_true (by kernel_rfl)) (by unfold Func.isWrapper; first | (rw [if_pos (by decide +kernel)]; kernel_rfl) | (rw [if_neg (by decide +kernel)]; exact ⟨rfl, rfl⟩))
    (fun os started H enc _ => ratioTexts_lifted os started H enc)

theorem ratioTexts_card : Rows.RatioTextsCardSaid :=
  Claim7.holds_tied_plain_at .later [] [.data, .data, .data, .sentinel, .sentinel] true (true, "0f4d4353febd24aa5701b7fe4dfbe1b693d2f62fe5b0142a532e871ec1ba1c6d") true
    ratioTexts_over (fun _ h => by cases h) (by kernel_rfl) (fun _ h => by cases h) ratioTexts_row_tie rfl ⟨rfl, rfl⟩ (by kernel_rfl) rfl
    (fun f fn hf hfn => by
      obtain rfl : f = 3 := Option.some.inj ((show Tryd.prog.funcNamed Rows.ratioTextsRow.func = some 3 by kernel_rfl).symm.trans hf) |>.symm
      obtain rfl : fn = Tryd.f3 := (Option.some.inj (Tryd.func3.symm.trans hfn)).symm
      refine ⟨by kernel_rfl, fun j t ht => ?_⟩
      have hall : (Tryd.f3.params.toList.all fun t => !Tryd.prog.wantsStandIn t) = true := by kernel_rfl
      have hm : t ∈ Tryd.f3.params.toList := List.mem_of_getElem? (by rw [Array.getElem?_toList]; exact ht)
      have hq : Tryd.prog.wantsStandIn t = false := by simpa using List.all_eq_true.1 hall t hm
      exact hq)
    (by kernel_rfl)
#print axioms ratioTexts_card
end Go.Proofs.YtofkkhdmjllcfaaDoor

/- The law RatioProducts: whatever comes in, it returns true, and what came in reads as before. No conditions. -/
import Derived.Test.YtofkkhdmjllcfaaR10
namespace Go.Proofs.Ytofkkhdmjllcfaa
open Go.Ev
set_option linter.all false
theorem iR_wf {n : Int} (h : (Lit.int .i64 n).wf = true) : iR n = true := iR_iff.mpr (by have := wf64.1 h; omega)
theorem law_prod {a b n d m e : Int} (h1 : iR a = true) (h2 : iR b = true) (h3 : iR n = true) (h4 : iR d = true) (h5 : iR m = true) (h6 : iR e = true) :
    evF C6 6 3 [.v (i64 a), .v (i64 b), .agg [.v (i64 n), .v (i64 d)], .agg [.v (i64 m), .v (i64 e)]] = some [.v (.bool true)] := by
  refine (tprod a b n d m e).trans ?_
  simp only [h1, h2, h3, h4, h5, h6, beq_self_eq_true, Bool.and_self, br_true]

theorem own : ownKnob Try.prog.godebug = none := by kernel_rfl
theorem laidOut : laidOutB Try.prog = true := by kernel_rfl
set_option maxRecDepth 100000 in
theorem ratioProducts_lifted (os : Os) (started : os.Started) (H : Type) (enc : TypeId × Value → H) :
    ReturnsInHanded {} Try.checked os 3 .any (Rows.ratioProductsSpec.pre6 enc Try.prog Try.f3 Rows.ratioProductsRow.domain false) (Rows.ratioProductsSpec.post enc Try.prog Try.f3 false true false false) :=
  lifted_true (C := C6) C6_ok (K := Try.checked) rfl (f := 3) (d := 5) (e := 6) (fn := Try.f3) (t4 := 4) (sh := [(false, [.int .i64]), (false, [.int .i64]), (true, [.int .i64, .int .i64]), (true, [.int .i64, .int .i64])]) own (by kernel_rfl) Try.func3 laidOut (by kernel_rfl) (by kernel_rfl) Try.underlying4 rfl
    (fun H ds h => by
      have h : ds.length = 4 := h
      match ds, h with
      | [d1, d2, d3, d4], _ => rfl)
    (by kernel_rfl)
    (fun Ds h => by
      cases h with
      | one c h =>
      cases c with
      | int w0_0 =>
      cases h with
      | one c h =>
      cases c with
      | int w1_0 =>
      cases h with
      | agg a h =>
      cases a with
      | cons c a =>
      cases c with
      | int w2_0 =>
      cases a with
      | cons c a =>
      cases c with
      | int w2_1 =>
      cases a
      cases h with
      | agg a h =>
      cases a with
      | cons c a =>
      cases c with
      | int w3_0 =>
      cases a with
      | cons c a =>
      cases c with
      | int w3_1 =>
      cases a
      cases h
      exact law_prod (iR_wf w0_0) (iR_wf w1_0) (iR_wf w2_0) (iR_wf w2_1) (iR_wf w3_0) (iR_wf w3_1))
    started (ChangeSpec.witness6 (enc := enc) (C := Try.checked) false ⟨#[], #[.int .i64 0, .int .i64 0, .agg #[.int .i64 0, .int .i64 0], .agg #[.int .i64 0, .int .i64 0]], []⟩ 8 (by kernel_rfl) (by kernel_rfl) (by kernel_rfl) (by kernel_rfl))

theorem ratioProducts_over : Rows.ratioProductsRow.holds Try.pinned (OpenSpec.ofChange Rows.ratioProductsSpec) :=
  OpenClaim.holds_of_wide 3 Try.f3 rfl rfl rfl rfl rfl rfl rfl ⟨rfl, rfl, rfl, rfl, rfl⟩ rfl rfl rfl rfl rfl (by kernel_rfl) Try.func3 (by kernel_rfl)
    (of_decide_eq_true (by kernel_rfl)) (by unfold Func.isWrapper; first | (rw [if_pos (by decide +kernel)]; kernel_rfl) | (rw [if_neg (by decide +kernel)]; exact ⟨rfl, rfl⟩))
    (fun os started H enc _ => ratioProducts_lifted os started H enc)

theorem ratioProducts_said : Rows.RatioProductsSaid := ratioProducts_over
#print axioms ratioProducts_said
end Go.Proofs.Ytofkkhdmjllcfaa

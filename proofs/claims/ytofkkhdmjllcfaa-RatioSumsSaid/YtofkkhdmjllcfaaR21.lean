/- Differences and comparisons: contracts; the law RatioSums. No conditions. -/
import Derived.Test.YtofkkhdmjllcfaaR20
namespace Go.Proofs.Ytofkkhdmjllcfaa
open Go.Ev
set_option linter.all false
def sbN (n d m e : Int) : Int := if chk2 n d m e = 0 then adN n d (-m) e else 0
def sbD (n d m e : Int) : Int := if chk2 n d m e = 0 then adD n d (-m) e else 0
def sbE (n d m e : Int) : Int := if chk2 n d m e = 0 then adE n d (-m) e else chk2 n d m e
def Fsub : List D → Option (Bool × List D)
  | [.agg [.v (.int .i64 n), .v (.int .i64 d)], .agg [.v (.int .i64 m), .v (.int .i64 e)]] => some (iR n && iR d && iR m && iR e, [.agg [.v (i64 (sbN n d m e)), .v (i64 (sbD n d m e))], .v (i64 (sbE n d m e))])
  | _ => none
def cpC (n d m e : Int) : Int := if chk2 n d m e = 0 then cmpI (n * e) (m * d) else 0
def Fcmp : List D → Option (Bool × List D)
  | [.agg [.v (.int .i64 n), .v (.int .i64 d)], .agg [.v (.int .i64 m), .v (.int .i64 e)]] => some (iR n && iR d && iR m && iR e, [.v (i64 (cpC n d m e)), .v (i64 (chk2 n d m e))])
  | _ => none
theorem den_subp : Den Try.prog 15 Fsub := evF_den C13_ok fun ds rs h => by
  unfold Fsub at h
  split at h
  · rename_i n d m e
    simp only [Option.some.injEq, Prod.mk.injEq] at h
    obtain ⟨h0, rfl⟩ := h
    refine (tsubp n d m e).trans ?_
    unfold sbN sbD sbE
    rw [h0, br_true]
    simp only [Bool.and_eq_true] at h0
    obtain ⟨⟨⟨h1, h2⟩, h3⟩, h4⟩ := h0
    by_cases hc : chk2 n d m e = 0
    · obtain ⟨_, _, ⟨m1, m2⟩, _⟩ := chk2_good hc
      rw [show (chk2 n d m e != 0) = false by simpa using hc, br_false, if_pos hc, if_pos hc, if_pos hc, wrapI_id (n := 0 - m) (by omega) (by omega), Int.zero_sub, show (iR n && iR d && iR (-m) && iR e) = true by
        simp only [Bool.and_eq_true]
        exact ⟨⟨⟨h1, h2⟩, iR_iff.mpr (by omega)⟩, h4⟩, br_true]
    · rw [show (chk2 n d m e != 0) = true by simpa using hc, br_true, if_neg hc, if_neg hc, if_neg hc]
  · cases h
theorem den_subr : Den Try.prog 16 Fsub := evF_den C13_ok fun ds rs h => by
  unfold Fsub at h
  split at h
  · rename_i n d m e
    simp only [Option.some.injEq, Prod.mk.injEq] at h
    obtain ⟨h0, rfl⟩ := h
    refine (tsubr n d m e).trans ?_
    unfold sbN sbD sbE
    rw [h0, br_true, br_true]
    simp only [Bool.and_eq_true] at h0
    obtain ⟨⟨⟨h1, h2⟩, h3⟩, h4⟩ := h0
    by_cases hc : chk2 n d m e = 0
    · obtain ⟨_, _, ⟨m1, m2⟩, _⟩ := chk2_good hc
      rw [show (chk2 n d m e != 0) = false by simpa using hc, br_false, if_pos hc, if_pos hc, if_pos hc, wrapI_id (n := 0 - m) (by omega) (by omega), Int.zero_sub, show (iR n && iR d && iR (-m) && iR e) = true by
        simp only [Bool.and_eq_true]
        exact ⟨⟨⟨h1, h2⟩, iR_iff.mpr (by omega)⟩, h4⟩]
      rfl
    · rw [show (chk2 n d m e != 0) = true by simpa using hc, br_true, if_neg hc, if_neg hc, if_neg hc]
  · cases h
theorem cmpI_lt {a b : Int} (h : a < b) : cmpI a b = -1 := if_pos h
theorem cmpI_gt {a b : Int} (h : b < a) : cmpI a b = 1 := by unfold cmpI; rw [if_neg (by omega), if_pos h]
theorem cmpI_eq {a b : Int} (h : a = b) : cmpI a b = 0 := by unfold cmpI; rw [if_neg (by omega), if_neg (by omega)]
theorem den_cmpr : Den Try.prog 18 Fcmp := evF_den C13_ok fun ds rs h => by
  unfold Fcmp at h
  split at h
  · rename_i n d m e
    simp only [Option.some.injEq, Prod.mk.injEq] at h
    obtain ⟨h0, rfl⟩ := h
    refine (tcmpr n d m e).trans ?_
    unfold cpC
    rw [h0, br_true, br_true]
    simp only [Bool.and_eq_true] at h0
    obtain ⟨⟨⟨h1, h2⟩, h3⟩, h4⟩ := h0
    by_cases hc : chk2 n d m e = 0
    · obtain ⟨⟨hd, _⟩, he, _⟩ := chk2_good hc
      rw [show (chk2 n d m e != 0) = false by simpa using hc, br_false, if_pos hc, h1, h3, show (true && true && (inB d 1 1000000000000000000 && inB e 1 1000000000000000000)) = true by simp only [Bool.true_and, Bool.and_eq_true, inB_iff]; omega,
        show (true && true && (inB e 1 1000000000000000000 && inB d 1 1000000000000000000)) = true by simp only [Bool.true_and, Bool.and_eq_true, inB_iff]; omega, br_true, br_true, hc]
      refine br_splitP (fun h => ?_) (fun h => br_splitP (fun h' => ?_) (fun h' => ?_))
      · rw [cmpI_lt h]
      · rw [cmpI_gt h']
      · rw [cmpI_eq (by omega)]
    · rw [show (chk2 n d m e != 0) = true by simpa using hc, br_true, if_neg hc]
  · cases h
theorem cmpI_wide (x y : Int) (hx : 0 ≤ x) (hy : 0 ≤ y) : cmpI x y = if cmpI (x / 18446744073709551616) (y / 18446744073709551616) ≠ 0 then cmpI (x / 18446744073709551616) (y / 18446744073709551616) else cmpI (x % 18446744073709551616) (y % 18446744073709551616) := by
  rcases Int.lt_trichotomy (x / 18446744073709551616) (y / 18446744073709551616) with h | h | h
  · rw [cmpI_lt h, if_pos (by decide), cmpI_lt (by omega)]
  · rw [cmpI_eq h, if_neg (by simp)]
    unfold cmpI
    repeat' split
    all_goals omega
  · rw [cmpI_gt h, if_pos (by decide), cmpI_gt (by omega)]
theorem cmpI_range (x y : Int) : cmpI x y = -1 ∨ cmpI x y = 0 ∨ cmpI x y = 1 := by
  rcases Int.lt_trichotomy x y with h | h | h
  · exact .inl (cmpI_lt h)
  · exact .inr (.inl (cmpI_eq h))
  · exact .inr (.inr (cmpI_gt h))
theorem cmpI_neg (x y : Int) : cmpI (-x) (-y) = -cmpI x y := by
  rcases Int.lt_trichotomy x y with h | h | h
  · rw [cmpI_lt h, cmpI_gt (by omega)]; rfl
  · rw [cmpI_eq h, cmpI_eq (by omega)]; rfl
  · rw [cmpI_gt h, cmpI_lt (by omega)]
theorem den_cmpp : Den Try.prog 17 Fcmp := evF_den C12_ok fun ds rs h => by
  unfold Fcmp at h
  split at h
  · rename_i n d m e
    simp only [Option.some.injEq, Prod.mk.injEq] at h
    obtain ⟨h0, rfl⟩ := h
    refine (tcmp n d m e).trans ?_
    unfold cpC
    rw [h0, br_true]
    simp only [Bool.and_eq_true] at h0
    obtain ⟨⟨⟨h1, h2⟩, h3⟩, h4⟩ := h0
    by_cases hc : chk2 n d m e = 0
    · obtain ⟨⟨⟨d1, d2⟩, _⟩, ⟨e1, e2⟩, _⟩ := chk2_good hc
      obtain ⟨_, _, ⟨a1, a2⟩, ⟨b1, b2⟩, _⟩ := ad_bounds hc
      rw [show (chk2 n d m e != 0) = false by simpa using hc, br_false, if_pos hc, h1, h3, wrapU_id (n := d) (by omega) (by omega), wrapU_id (n := e) (by omega) (by omega),
        show (uR (absI n) && uR e) = true by simp only [Bool.and_eq_true, uR_iff]; omega, show (uR (absI m) && uR d) = true by simp only [Bool.and_eq_true, uR_iff]; omega, br_true, br_true, br_true, br_true, hc]
      have hx := abs_mul n e
      have hy := abs_mul m d
      have x0 : 0 ≤ absI n * e := Int.mul_nonneg a1 (by omega)
      have y0 : 0 ≤ absI m * d := Int.mul_nonneg b1 (by omega)
      have sx : n < 0 → n * e < 0 := fun h => Int.mul_neg_of_neg_of_pos h (by omega)
      have sx' : 0 ≤ n → 0 ≤ n * e := fun h => Int.mul_nonneg h (by omega)
      have sy : m < 0 → m * d < 0 := fun h => Int.mul_neg_of_neg_of_pos h (by omega)
      have sy' : 0 ≤ m → 0 ≤ m * d := fun h => Int.mul_nonneg h (by omega)
      have hw := cmpI_wide _ _ x0 y0
      generalize absI n * e = x at *
      generalize absI m * d = y at *
      generalize n * e = u at *
      generalize m * d = v at *
      have r1 := cmpI_range (x / 18446744073709551616) (y / 18446744073709551616)
      have r2 := cmpI_range (x % 18446744073709551616) (y % 18446744073709551616)
      generalize hp : cmpI (x / 18446744073709551616) (y / 18446744073709551616) = p at *
      generalize hq : cmpI (x % 18446744073709551616) (y % 18446744073709551616) = q at *
      rw [show (((Row.zeros 2).setI 0 0 p).setI 1 0 q).I 0 0 = p from rfl, show (((Row.zeros 2).setI 0 0 p).setI 1 0 q).I 1 0 = q from rfl, wrapI_id (n := 0 - p) (by omega) (by omega), wrapI_id (n := 0 - q) (by omega) (by omega), Int.zero_sub, Int.zero_sub]
      by_cases hs : decide (n < 0) = decide (m < 0)
      · rw [show (!decide (n < 0) == decide (m < 0)) = false by rw [hs]; cases decide (m < 0) <;> rfl, br_false]
        have hcmp : cmpI u v = if n < 0 then -cmpI x y else cmpI x y := by
          by_cases hn : n < 0
          · have hm : m < 0 := by rw [decide_eq_true hn] at hs; exact of_decide_eq_true hs.symm
            rw [if_pos hn] at hx ⊢
            rw [if_pos hm] at hy
            rw [hx, hy, cmpI_neg, Int.neg_neg]
          · have hm : ¬ m < 0 := by rw [decide_eq_false hn] at hs; exact of_decide_eq_false hs.symm
            rw [if_neg hn] at hx ⊢
            rw [if_neg hm] at hy
            rw [hx, hy]
        rw [hcmp]
        by_cases hp0 : p = 0
        · rw [show (p != 0) = false by simpa using hp0, br_false]
          rw [if_neg (fun h => h hp0)] at hw
          rw [hw]
          by_cases hq0 : q = 0
          · rw [show (q != 0) = false by simpa using hq0, br_false, hq0]
            by_cases hn : n < 0
            · rw [decide_eq_true hn, if_pos hn]; rfl
            · rw [decide_eq_false hn, if_neg hn]; rfl
          · rw [show (q != 0) = true by simpa using hq0, br_true]
            by_cases hn : n < 0
            · rw [decide_eq_true hn, if_pos hn]; rfl
            · rw [decide_eq_false hn, if_neg hn]; rfl
        · rw [show (p != 0) = true by simpa using hp0, br_true]
          rw [if_pos hp0] at hw
          rw [hw]
          by_cases hn : n < 0
          · rw [decide_eq_true hn, if_pos hn]; rfl
          · rw [decide_eq_false hn, if_neg hn]; rfl
      · rw [show (!decide (n < 0) == decide (m < 0)) = true by revert hs; cases decide (n < 0) <;> cases decide (m < 0) <;> simp, br_true]
        have hnm : (n < 0 ∧ 0 ≤ m) ∨ (0 ≤ n ∧ m < 0) := by
          by_cases hn : n < 0
          · refine .inl ⟨hn, ?_⟩
            rcases Int.lt_or_le m 0 with h | h
            · exact absurd ((decide_eq_true hn).trans (decide_eq_true h).symm) hs
            · exact h
          · refine .inr ⟨by omega, ?_⟩
            rcases Int.lt_or_le m 0 with h | h
            · exact h
            · exact absurd ((decide_eq_false hn).trans (decide_eq_false (show ¬ m < 0 by omega)).symm) hs
        rcases hnm with ⟨g1, g2⟩ | ⟨g1, g2⟩
        · have := sx g1
          have := sy' g2
          rw [cmpI_lt (show n < m by omega), cmpI_lt (show u < v by omega)]
        · have := sx' g1
          have := sy g2
          rw [cmpI_gt (show m < n by omega), cmpI_gt (show v < u by omega)]
    · rw [show (chk2 n d m e != 0) = true by simpa using hc, br_true, if_neg hc]
  · cases h
noncomputable def C14 : Cx := mkCx Try.prog fns [(19, Fchk), (20, Fchk), (13, Fadd), (14, Fadd), (15, Fsub), (16, Fsub), (17, Fcmp), (18, Fcmp)] []
theorem C14_ok : CxOk C14 := mkCx_ok enter mixed (fun p h => by
  simp only [List.mem_cons, List.not_mem_nil, or_false] at h
  rcases h with rfl | rfl | rfl | rfl | rfl | rfl | rfl | rfl
  · exact den_chk
  · exact den_chkr
  · exact den_addp
  · exact den_addr
  · exact den_subp
  · exact den_subr
  · exact den_cmpp
  · exact den_cmpr) (fun l h => by cases h)
theorem tsums (n d m e : Int) : evF C14 6 4 [.agg [.v (i64 n), .v (i64 d)], .agg [.v (i64 m), .v (i64 e)]] =
    br (iR n && iR d && iR m && iR e) (br (iR n && iR d && iR m && iR e) (br (iR n && iR d && iR m && iR e) (br (iR n && iR d && iR m && iR e) (br (iR n && iR d && iR m && iR e) (br (iR n && iR d && iR m && iR e) (br (iR n && iR d) (br (iR n && iR d) (br (chkE n d == chkE n d) (br (adN n d m e == adN n d m e && (adD n d m e == adD n d m e && true)) (br (adE n d m e == adE n d m e) (br (sbN n d m e == sbN n d m e && (sbD n d m e == sbD n d m e && true)) (br (sbE n d m e == sbE n d m e) (br (cpC n d m e == cpC n d m e) (some [.v (.bool (chk2 n d m e == chk2 n d m e))]) (some [.v (.bool (false))])) (some [.v (.bool (false))])) (some [.v (.bool (false))])) (some [.v (.bool (false))])) (some [.v (.bool (false))])) (some [.v (.bool (false))])) (none)) (none)) (none)) (none)) (none)) (none)) (none)) (none) := by kernel_rfl
theorem law_sums {n d m e : Int} (h3 : iR n = true) (h4 : iR d = true) (h5 : iR m = true) (h6 : iR e = true) :
    evF C14 6 4 [.agg [.v (i64 n), .v (i64 d)], .agg [.v (i64 m), .v (i64 e)]] = some [.v (.bool true)] := by
  refine (tsums n d m e).trans ?_
  simp only [h3, h4, h5, h6, beq_self_eq_true, Bool.and_self, br_true]

set_option maxRecDepth 100000 in
theorem ratioSums_lifted (os : Os) (started : os.Started) (H : Type) (enc : TypeId × Value → H) :
    ReturnsInHanded {} Try.checked os 4 .any (Rows.ratioSumsSpec.pre6 enc Try.prog Try.f4 Rows.ratioSumsRow.domain false) (Rows.ratioSumsSpec.post enc Try.prog Try.f4 false true false false) :=
  lifted_true (C := C14) C14_ok (K := Try.checked) rfl (f := 4) (d := 5) (e := 6) (fn := Try.f4) (t4 := 4) (sh := [(true, [.int .i64, .int .i64]), (true, [.int .i64, .int .i64])]) own (by kernel_rfl) Try.func4 laidOut (by kernel_rfl) (by kernel_rfl) Try.underlying4 rfl
    (fun H ds h => by
      have h : ds.length = 2 := h
      match ds, h with
      | [d1, d2], _ => rfl)
    (by kernel_rfl)
    (fun Ds h => by
      cases h with
      | agg a h =>
      cases a with
      | cons c a =>
      cases c with
      | int w0_0 =>
      cases a with
      | cons c a =>
      cases c with
      | int w0_1 =>
      cases a
      cases h with
      | agg a h =>
      cases a with
      | cons c a =>
      cases c with
      | int w1_0 =>
      cases a with
      | cons c a =>
      cases c with
      | int w1_1 =>
      cases a
      cases h
      exact law_sums (iR_wf w0_0) (iR_wf w0_1) (iR_wf w1_0) (iR_wf w1_1))
    started (ChangeSpec.witness6 (enc := enc) (C := Try.checked) false ⟨#[], #[.agg #[.int .i64 0, .int .i64 0], .agg #[.int .i64 0, .int .i64 0]], []⟩ 8 (by kernel_rfl) (by kernel_rfl) (by kernel_rfl) (by kernel_rfl))

theorem ratioSums_over : Rows.ratioSumsRow.holds Try.pinned (OpenSpec.ofChange Rows.ratioSumsSpec) :=
  OpenClaim.holds_of_wide 4 Try.f4 rfl rfl rfl rfl rfl rfl rfl ⟨rfl, rfl, rfl, rfl, rfl⟩ rfl rfl rfl rfl rfl (by kernel_rfl) Try.func4 (by kernel_rfl)
    (of_decide_eq_true (by kernel_rfl)) (by unfold Func.isWrapper; first | (rw [if_pos (by decide +kernel)]; kernel_rfl) | (rw [if_neg (by decide +kernel)]; exact ⟨rfl, rfl⟩))
    (fun os started H enc _ => ratioSums_lifted os started H enc)

theorem ratioSums_said : Rows.RatioSumsSaid := ratioSums_over
#print axioms ratioSums_said
end Go.Proofs.Ytofkkhdmjllcfaa

/- Differences and comparisons: contracts. No conditions. -/
import Derived.Test.YtofkkhdmjllcfaaR19
namespace Go.Proofs.Ytofkkhdmjllcfaa
open Go.Ev
set_option linter.all false
def Fneg : List D → Option (Bool × List D)
  | [.agg [.v (.int .i64 a), .v (.int .i64 b)]] => some (true, [.agg [.v (i64 (IntKind.i64.wrap (0 - a))), .v (i64 b)]])
  | _ => none
theorem den_neg : Den Try.prog 39 Fneg := evF_den C0_ok fun ds rs h => by
  unfold Fneg at h
  split at h
  · rename_i a b
    simp only [Option.some.injEq, Prod.mk.injEq] at h
    obtain ⟨_, rfl⟩ := h
    exact tneg a b
  · cases h
/-- Less, of ratios whose denominators are numbers of a ratio. -/
def Flessr : List D → Option (Bool × List D)
  | [.agg [.v (.int .i64 n), .v (.int .i64 d)], .agg [.v (.int .i64 m), .v (.int .i64 e)]] => some (iR n && iR m && (inB d 1 1000000000000000000 && inB e 1 1000000000000000000), [.v (.bool (decide (n * e < m * d)))])
  | _ => none
theorem abs_mul (n e : Int) : absI n * e = if n < 0 then -(n * e) else n * e := by
  unfold absI
  split
  · rw [Int.neg_mul]
  · rfl
theorem den_lessr : Den Try.prog 43 Flessr := evF_den C12_ok fun ds rs h => by
  unfold Flessr at h
  split at h
  · rename_i n d m e
    simp only [Option.some.injEq, Prod.mk.injEq, Bool.and_eq_true, inB_iff] at h
    obtain ⟨⟨⟨h1, h2⟩, ⟨d1, d2⟩, e1, e2⟩, rfl⟩ := h
    refine (tlessr n d m e).trans ?_
    obtain ⟨n1, n2⟩ := iR_iff.mp h1
    obtain ⟨m1, m2⟩ := iR_iff.mp h2
    have ⟨a1, a0⟩ := absI_or n
    have ⟨b1, b0⟩ := absI_or m
    have x0 : 0 ≤ absI n * e := Int.mul_nonneg a1 (by omega)
    have x1 : absI n * e ≤ 9223372036854775808 * 1000000000000000000 := Int.mul_le_mul (by omega) e2 (by omega) (by decide)
    have y0 : 0 ≤ absI m * d := Int.mul_nonneg b1 (by omega)
    have y1 : absI m * d ≤ 9223372036854775808 * 1000000000000000000 := Int.mul_le_mul (by omega) d2 (by omega) (by decide)
    rw [wrapU_id (n := d) (by omega) (by omega), wrapU_id (n := e) (by omega) (by omega), h1, h2, show (uR (absI n) && uR e) = true by simp only [Bool.and_eq_true, uR_iff]; omega, show (uR (absI m) && uR d) = true by simp only [Bool.and_eq_true, uR_iff]; omega, wd_parts, wd_parts, br_true, br_true, br_true, br_true]
    have hx := abs_mul n e
    have hy := abs_mul m d
    have sx : n < 0 → n * e < 0 := fun h => Int.mul_neg_of_neg_of_pos h (by omega)
    have sx' : 0 ≤ n → 0 ≤ n * e := fun h => Int.mul_nonneg h (by omega)
    have sy : m < 0 → m * d < 0 := fun h => Int.mul_neg_of_neg_of_pos h (by omega)
    have sy' : 0 ≤ m → 0 ≤ m * d := fun h => Int.mul_nonneg h (by omega)
    generalize absI n * e = x at *
    generalize absI m * d = y at *
    generalize n * e = u at *
    generalize m * d = v at *
    rw [show (uR (y / 18446744073709551616) && uR (y % 18446744073709551616) && uR (x / 18446744073709551616) && uR (x % 18446744073709551616)) = true by simp only [Bool.and_eq_true, uR_iff]; omega,
      show (uR (x / 18446744073709551616) && uR (x % 18446744073709551616) && uR (y / 18446744073709551616) && uR (y % 18446744073709551616)) = true by simp only [Bool.and_eq_true, uR_iff]; omega, br_true, br_true]
    by_cases hn : n < 0
    · rw [if_pos hn] at hx
      have := sx hn
      by_cases hm : m < 0
      · rw [if_pos hm] at hy
        rw [decide_eq_true hn, decide_eq_true hm, show (!true == true) = false from rfl, br_false, br_true, show decide (y < x) = decide (u < v) from decide_eq_decide.mpr (by omega)]
      · have := sy' (by omega)
        rw [decide_eq_true hn, decide_eq_false hm, show (!true == false) = true from rfl, br_true, decide_eq_true (show u < v by omega)]
    · rw [if_neg hn] at hx
      have := sx' (by omega)
      by_cases hm : m < 0
      · have := sy hm
        rw [decide_eq_false hn, decide_eq_true hm, show (!false == true) = true from rfl, br_true, decide_eq_false (show ¬ u < v by omega)]
      · rw [if_neg hm] at hy
        rw [decide_eq_false hn, decide_eq_false hm, show (!false == false) = false from rfl, br_false, br_false, show decide (x < y) = decide (u < v) from decide_eq_decide.mpr (by omega)]
  · cases h
noncomputable def C13 : Cx := mkCx Try.prog fns [(27, Fboth), (29, Fboth), (13, Fadd), (14, Fadd), (43, Flessr), (39, Fneg)] []
theorem C13_ok : CxOk C13 := mkCx_ok enter mixed (fun p h => by
  simp only [List.mem_cons, List.not_mem_nil, or_false] at h
  rcases h with rfl | rfl | rfl | rfl | rfl | rfl
  · exact den_check
  · exact den_both
  · exact den_addp
  · exact den_addr
  · exact den_lessr
  · exact den_neg) (fun l h => by cases h)
theorem tsubp (n d m e : Int) : evF C13 6 15 [.agg [.v (i64 n), .v (i64 d)], .agg [.v (i64 m), .v (i64 e)]] =
    br (iR n && iR d && iR m && iR e) (br (chk2 n d m e != 0) (some [.agg [.v (i64 (0)), .v (i64 (0))], .v (i64 (chk2 n d m e))]) (br (iR n && iR d && iR (IntKind.i64.wrap (0 - m)) && iR e) (some [.agg [.v (i64 (adN n d (IntKind.i64.wrap (0 - m)) e)), .v (i64 (adD n d (IntKind.i64.wrap (0 - m)) e))], .v (i64 (adE n d (IntKind.i64.wrap (0 - m)) e))]) (none))) (none) := by kernel_rfl
theorem tsubr (n d m e : Int) : evF C13 6 16 [.agg [.v (i64 n), .v (i64 d)], .agg [.v (i64 m), .v (i64 e)]] =
    br (iR n && iR d && iR m && iR e) (br (chk2 n d m e != 0) (br (iR n && iR d && iR m && iR e) (some [.agg [.v (i64 (0)), .v (i64 (0))], .v (i64 (chk2 n d m e))]) (none)) (br (iR n && iR d && iR (IntKind.i64.wrap (0 - m)) && iR e) (some [.agg [.v (i64 (adN n d (IntKind.i64.wrap (0 - m)) e)), .v (i64 (adD n d (IntKind.i64.wrap (0 - m)) e))], .v (i64 (adE n d (IntKind.i64.wrap (0 - m)) e))]) (none))) (none) := by kernel_rfl
theorem tcmpr (n d m e : Int) : evF C13 6 18 [.agg [.v (i64 n), .v (i64 d)], .agg [.v (i64 m), .v (i64 e)]] =
    br (iR n && iR d && iR m && iR e) (br (chk2 n d m e != 0) (br (iR n && iR d && iR m && iR e) (some [.v (i64 (0)), .v (i64 (chk2 n d m e))]) (none)) (br (iR n && iR m && (inB d 1 1000000000000000000 && inB e 1 1000000000000000000)) (br (decide (n * e < m * d)) (some [.v (i64 (-1)), .v (i64 (0))]) (br (iR m && iR n && (inB e 1 1000000000000000000 && inB d 1 1000000000000000000)) (br (decide (m * d < n * e)) (some [.v (i64 (1)), .v (i64 (0))]) (some [.v (i64 (0)), .v (i64 (0))])) (none))) (none))) (none) := by kernel_rfl
end Go.Proofs.Ytofkkhdmjllcfaa

/- Make, Floor, the checks of two ratios: contracts. No conditions. -/
import Derived.Test.YtofkkhdmjllcfaaR5
namespace Go.Proofs.Ytofkkhdmjllcfaa
open Go.Ev
set_option linter.all false
def chk2 (n d m e : Int) : Int := if chkE n d = 0 then chkE m e else chkE n d
def Fboth : List D → Option (Bool × List D)
  | [.agg [.v (.int .i64 n), .v (.int .i64 d)], .agg [.v (.int .i64 m), .v (.int .i64 e)]] => some (iR n && iR d && iR m && iR e, [.v (i64 (chk2 n d m e))])
  | _ => none
theorem den_both : Den Try.prog 29 Fboth := evF_den C2_ok fun ds rs h => by
  unfold Fboth at h
  split at h
  · rename_i n d m e
    simp only [Option.some.injEq, Prod.mk.injEq, Bool.and_eq_true] at h
    obtain ⟨⟨⟨⟨h1, h2⟩, h3⟩, h4⟩, rfl⟩ := h
    refine (tboth n d m e).trans ?_
    rw [h1, h2, h3, h4]
    unfold chk2
    by_cases hc : chkE n d = 0
    · rw [show (chkE n d != 0) = false by simpa using hc, if_pos hc]; rfl
    · rw [show (chkE n d != 0) = true by simpa using hc, if_neg hc]; rfl
  · cases h
theorem den_check : Den Try.prog 27 Fboth := evF_den C2_ok fun ds rs h => by
  unfold Fboth at h
  split at h
  · rename_i n d m e
    simp only [Option.some.injEq, Prod.mk.injEq, Bool.and_eq_true] at h
    obtain ⟨⟨⟨⟨h1, h2⟩, h3⟩, h4⟩, rfl⟩ := h
    refine (tcheck n d m e).trans ?_
    rw [h1, h2, h3, h4, show (((Row.zeros 2).setI 0 0 (chkE n d)).setI 1 0 (chkE m e)).I 0 0 = chkE n d from rfl, show (((Row.zeros 2).setI 0 0 (chkE n d)).setI 1 0 (chkE m e)).I 1 0 = chkE m e from rfl]
    unfold chk2
    by_cases hc : chkE n d = 0
    · rw [show (chkE n d != 0) = false by simpa using hc, if_pos hc]
      by_cases hk : chkE m e = 0
      · rw [hk]; rfl
      · rw [show (chkE m e != 0) = true by simpa using hk]; rfl
    · rw [show (chkE n d != 0) = true by simpa using hc, if_neg hc]; rfl
  · cases h
theorem quo (a g : Int) (h0 : 0 ≤ a) (h1 : a < 18446744073709551616) (hg : 0 < g) : IntKind.u64.wrap (a.tdiv g) = a / g ∧ 0 ≤ a / g ∧ a / g ≤ a ∧ uR (a / g) = true := by
  have e1 := Int.ediv_nonneg h0 (Int.le_of_lt hg)
  have e2 := Int.ediv_le_self g h0
  rw [Int.tdiv_eq_ediv_of_nonneg h0]
  exact ⟨wrapU_id e1 (by omega), e1, e2, uR_iff.mpr ⟨e1, by omega⟩⟩
def mN (n d : Int) : Int := absI n / gcdI (absI n) (absI d)
def mD (n d : Int) : Int := absI d / gcdI (absI n) (absI d)
def makeN (n d : Int) : Int := if d = 0 then 0 else mkN (!decide (n < 0) == decide (d < 0)) (mN n d) (mD n d)
def makeD (n d : Int) : Int := if d = 0 then 0 else mkD (mN n d) (mD n d)
def makeE (n d : Int) : Int := if d = 0 then 18 else mkE (mN n d) (mD n d)
def Fmake : List D → Option (Bool × List D)
  | [.v (.int .i64 n), .v (.int .i64 d)] => some (iR n && iR d, [.agg [.v (i64 (makeN n d)), .v (i64 (makeD n d))], .v (i64 (makeE n d))])
  | _ => none
theorem make_facts (n d : Int) (h1 : iR n = true) (h2 : iR d = true) (hd : ¬ d = 0) : (uR (absI n) && uR (absI d)) = true ∧ decide (gcdI (absI n) (absI d) = 0) = false ∧
    IntKind.u64.wrap ((absI n).tdiv (gcdI (absI n) (absI d))) = mN n d ∧ IntKind.u64.wrap ((absI d).tdiv (gcdI (absI n) (absI d))) = mD n d ∧ uR (mN n d) = true ∧ uR (mD n d) = true := by
  have ⟨h3, h4⟩ := iR_iff.mp h1
  have ⟨h5, h6⟩ := iR_iff.mp h2
  have ⟨a1, a0⟩ := absI_or n
  have ⟨b1, b0⟩ := absI_or d
  have hp := gcdI_pos (absI n) (absI d) a1 (by omega)
  obtain ⟨q1, q2, q3, q4⟩ := quo (absI n) _ a1 (by omega) hp
  obtain ⟨r1, r2, r3, r4⟩ := quo (absI d) _ b1 (by omega) hp
  exact ⟨by simp only [Bool.and_eq_true, uR_iff]; omega, decide_eq_false (by omega), q1, r1, q4, r4⟩
theorem den_make : Den Try.prog 5 Fmake := evF_den C2_ok fun ds rs h => by
  unfold Fmake at h
  split at h
  · rename_i n d
    simp only [Option.some.injEq, Prod.mk.injEq, Bool.and_eq_true] at h
    obtain ⟨⟨h1, h2⟩, rfl⟩ := h
    refine (tmake n d).trans ?_
    unfold makeN makeD makeE
    by_cases hd : d = 0
    · rw [show (d == 0) = true by simpa using hd, if_pos hd, if_pos hd, if_pos hd]; rfl
    · obtain ⟨f1, f2, f3, f4, f5, f6⟩ := make_facts n d h1 h2 hd
      rw [show (d == 0) = false by simpa using hd, h1, h2, f1, f2, f3, f4, f5, f6, if_neg hd, if_neg hd, if_neg hd]; rfl
  · cases h
theorem den_maker : Den Try.prog 6 Fmake := evF_den C2_ok fun ds rs h => by
  unfold Fmake at h
  split at h
  · rename_i n d
    simp only [Option.some.injEq, Prod.mk.injEq, Bool.and_eq_true] at h
    obtain ⟨⟨h1, h2⟩, rfl⟩ := h
    refine (tmaker n d).trans ?_
    unfold makeN makeD makeE
    by_cases hd : d = 0
    · rw [show (d == 0) = true by simpa using hd, if_pos hd, if_pos hd, if_pos hd]; rfl
    · obtain ⟨f1, f2, f3, f4, f5, f6⟩ := make_facts n d h1 h2 hd
      rw [show (d == 0) = false by simpa using hd, h1, h2, f1, f2, f3, f4, f5, f6, if_neg hd, if_neg hd, if_neg hd]
      simp only [Int.zero_mul, Int.zero_add]
      rfl
  · cases h
def floN (n d : Int) : Int := if chkE n d = 0 then (if n.tmod d < 0 then n.tdiv d - 1 else n.tdiv d) else 0
def Ffloor : List D → Option (Bool × List D)
  | [.agg [.v (.int .i64 n), .v (.int .i64 d)]] => some (iR n && iR d, [.v (i64 (floN n d)), .v (i64 (chkE n d))])
  | _ => none
theorem chk_good {n d : Int} (h : chkE n d = 0) : goodR n d := by
  unfold chkE at h
  split at h
  · assumption
  · omega
theorem floor_facts (n d : Int) (h : goodR n d) : n.tdiv d * d = n - n.tmod d ∧ n.tmod d < d ∧ -d < n.tmod d ∧ -1000000000000000000 ≤ n.tdiv d ∧ n.tdiv d ≤ 1000000000000000000 := by
  obtain ⟨⟨d1, d2⟩, ⟨n1, n2⟩, _⟩ := h
  have e1 := Int.tmod_def n d
  rw [Int.mul_comm] at e1
  have e2 := Int.natAbs_tdiv_le_natAbs n d
  exact ⟨by omega, Int.tmod_lt_of_pos n (by omega), Int.lt_tmod_of_pos n (by omega), by omega, by omega⟩
theorem den_floor : Den Try.prog 11 Ffloor := evF_den C2_ok fun ds rs h => by
  unfold Ffloor at h
  split at h
  · rename_i n d
    simp only [Option.some.injEq, Prod.mk.injEq, Bool.and_eq_true] at h
    obtain ⟨⟨h1, h2⟩, rfl⟩ := h
    refine (tfloor n d).trans ?_
    unfold floN
    rw [h1, h2]
    by_cases hc : chkE n d = 0
    · have hg := chk_good hc
      obtain ⟨f1, f2, f3, f4, f5⟩ := floor_facts n d hg
      have hd := hg.1.1
      rw [show (chkE n d != 0) = false by simpa using hc, if_pos hc, decide_eq_false (show ¬ d = 0 by omega), wrapI_id (n := n.tdiv d) (by omega) (by omega), wrapI_id (n := n.tdiv d - 1) (by omega) (by omega), hc]
      by_cases ht : n.tmod d < 0
      · rw [decide_eq_true ht, if_pos ht]; rfl
      · rw [decide_eq_false ht, if_neg ht]; rfl
    · rw [show (chkE n d != 0) = true by simpa using hc, if_neg hc]; rfl
  · cases h
theorem den_floorr : Den Try.prog 12 Ffloor := evF_den C2_ok fun ds rs h => by
  unfold Ffloor at h
  split at h
  · rename_i n d
    simp only [Option.some.injEq, Prod.mk.injEq, Bool.and_eq_true] at h
    obtain ⟨⟨h1, h2⟩, rfl⟩ := h
    refine (tfloorr n d).trans ?_
    unfold floN
    rw [h1, h2]
    by_cases hc : chkE n d = 0
    · have hg := chk_good hc
      obtain ⟨f1, f2, f3, f4, f5⟩ := floor_facts n d hg
      have hd := hg.1
      have hn := hg.2.1
      rw [show (chkE n d != 0) = false by simpa using hc, if_pos hc, decide_eq_false (show ¬ d = 0 by omega), wrapI_id (n := n.tdiv d) (by omega) (by omega), wrapI_id (n := n.tdiv d - 1) (by omega) (by omega), f1, wrapI_id (n := n - n.tmod d) (by omega) (by omega), hc]
      by_cases ht : n.tmod d < 0
      · rw [decide_eq_true (show n - n.tmod d > n by omega), if_pos ht]; rfl
      · rw [decide_eq_false (show ¬ n - n.tmod d > n by omega), if_neg ht]; rfl
    · rw [show (chkE n d != 0) = true by simpa using hc, if_neg hc]; rfl
  · cases h
noncomputable def C3 : Cx := mkCx Try.prog fns [(22, Fgcd), (25, Fgcd), (21, Fsize), (24, Fsize), (27, Fboth), (29, Fboth), (23, Fsigned), (26, Fmade), (28, Fmul), (30, Ftimes)] []
theorem C3_ok : CxOk C3 := mkCx_ok enter mixed (fun p h => by
  simp only [List.mem_cons, List.not_mem_nil, or_false] at h
  rcases h with rfl | rfl | rfl | rfl | rfl | rfl | rfl | rfl | rfl | rfl
  · exact den_gcd
  · exact den_gcdr
  · exact den_size
  · exact den_abs
  · exact den_check
  · exact den_both
  · exact den_signed
  · exact den_made
  · exact den_mul
  · exact den_times) (fun l h => by cases h)
theorem tmulp (n d m e : Int) : evF C3 6 7 [.agg [.v (i64 n), .v (i64 d)], .agg [.v (i64 m), .v (i64 e)]] =
    br (iR n && iR d && iR m && iR e) (br (chk2 n d m e != 0) (some [.agg [.v (i64 (0)), .v (i64 (0))], .v (i64 (chk2 n d m e))]) (br (iR n) (br (iR m) (br (uR (absI n) && uR (IntKind.u64.wrap e)) (br (uR (absI m) && uR (IntKind.u64.wrap d)) (br (decide (gcdI (absI n) (IntKind.u64.wrap e) = 0)) (none) (br (decide (gcdI (absI m) (IntKind.u64.wrap d) = 0)) (none) (br (uR (IntKind.u64.wrap ((absI n).tdiv (gcdI (absI n) (IntKind.u64.wrap e)))) && uR (IntKind.u64.wrap ((absI m).tdiv (gcdI (absI m) (IntKind.u64.wrap d))))) (br (decide (gcdI (absI m) (IntKind.u64.wrap d) = 0)) (none) (br (decide (gcdI (absI n) (IntKind.u64.wrap e) = 0)) (none) (br (uR (IntKind.u64.wrap ((IntKind.u64.wrap d).tdiv (gcdI (absI m) (IntKind.u64.wrap d)))) && uR (IntKind.u64.wrap ((IntKind.u64.wrap e).tdiv (gcdI (absI n) (IntKind.u64.wrap e))))) (br (decide (IntKind.u64.wrap (IntKind.u64.wrap ((absI n).tdiv (gcdI (absI n) (IntKind.u64.wrap e))) * IntKind.u64.wrap ((absI m).tdiv (gcdI (absI m) (IntKind.u64.wrap d))) / 18446744073709551616 + IntKind.u64.wrap ((IntKind.u64.wrap d).tdiv (gcdI (absI m) (IntKind.u64.wrap d))) * IntKind.u64.wrap ((IntKind.u64.wrap e).tdiv (gcdI (absI n) (IntKind.u64.wrap e))) / 18446744073709551616) > 0)) (some [.agg [.v (i64 (0)), .v (i64 (0))], .v (i64 (16))]) (br (decide (IntKind.u64.wrap ((absI n).tdiv (gcdI (absI n) (IntKind.u64.wrap e))) * IntKind.u64.wrap ((absI m).tdiv (gcdI (absI m) (IntKind.u64.wrap d))) % 18446744073709551616 > 0)) (br (uR (IntKind.u64.wrap ((absI n).tdiv (gcdI (absI n) (IntKind.u64.wrap e))) * IntKind.u64.wrap ((absI m).tdiv (gcdI (absI m) (IntKind.u64.wrap d))) % 18446744073709551616) && uR (IntKind.u64.wrap ((IntKind.u64.wrap d).tdiv (gcdI (absI m) (IntKind.u64.wrap d))) * IntKind.u64.wrap ((IntKind.u64.wrap e).tdiv (gcdI (absI n) (IntKind.u64.wrap e))) % 18446744073709551616)) (some [.agg [.v (i64 (mkN (!decide (n < 0) == decide (m < 0)) (IntKind.u64.wrap ((absI n).tdiv (gcdI (absI n) (IntKind.u64.wrap e))) * IntKind.u64.wrap ((absI m).tdiv (gcdI (absI m) (IntKind.u64.wrap d))) % 18446744073709551616) (IntKind.u64.wrap ((IntKind.u64.wrap d).tdiv (gcdI (absI m) (IntKind.u64.wrap d))) * IntKind.u64.wrap ((IntKind.u64.wrap e).tdiv (gcdI (absI n) (IntKind.u64.wrap e))) % 18446744073709551616))), .v (i64 (mkD (IntKind.u64.wrap ((absI n).tdiv (gcdI (absI n) (IntKind.u64.wrap e))) * IntKind.u64.wrap ((absI m).tdiv (gcdI (absI m) (IntKind.u64.wrap d))) % 18446744073709551616) (IntKind.u64.wrap ((IntKind.u64.wrap d).tdiv (gcdI (absI m) (IntKind.u64.wrap d))) * IntKind.u64.wrap ((IntKind.u64.wrap e).tdiv (gcdI (absI n) (IntKind.u64.wrap e))) % 18446744073709551616)))], .v (i64 (mkE (IntKind.u64.wrap ((absI n).tdiv (gcdI (absI n) (IntKind.u64.wrap e))) * IntKind.u64.wrap ((absI m).tdiv (gcdI (absI m) (IntKind.u64.wrap d))) % 18446744073709551616) (IntKind.u64.wrap ((IntKind.u64.wrap d).tdiv (gcdI (absI m) (IntKind.u64.wrap d))) * IntKind.u64.wrap ((IntKind.u64.wrap e).tdiv (gcdI (absI n) (IntKind.u64.wrap e))) % 18446744073709551616)))]) (none)) (br (uR (IntKind.u64.wrap ((absI n).tdiv (gcdI (absI n) (IntKind.u64.wrap e))) * IntKind.u64.wrap ((absI m).tdiv (gcdI (absI m) (IntKind.u64.wrap d))) % 18446744073709551616) && uR (IntKind.u64.wrap ((IntKind.u64.wrap d).tdiv (gcdI (absI m) (IntKind.u64.wrap d))) * IntKind.u64.wrap ((IntKind.u64.wrap e).tdiv (gcdI (absI n) (IntKind.u64.wrap e))) % 18446744073709551616)) (some [.agg [.v (i64 (mkN false (IntKind.u64.wrap ((absI n).tdiv (gcdI (absI n) (IntKind.u64.wrap e))) * IntKind.u64.wrap ((absI m).tdiv (gcdI (absI m) (IntKind.u64.wrap d))) % 18446744073709551616) (IntKind.u64.wrap ((IntKind.u64.wrap d).tdiv (gcdI (absI m) (IntKind.u64.wrap d))) * IntKind.u64.wrap ((IntKind.u64.wrap e).tdiv (gcdI (absI n) (IntKind.u64.wrap e))) % 18446744073709551616))), .v (i64 (mkD (IntKind.u64.wrap ((absI n).tdiv (gcdI (absI n) (IntKind.u64.wrap e))) * IntKind.u64.wrap ((absI m).tdiv (gcdI (absI m) (IntKind.u64.wrap d))) % 18446744073709551616) (IntKind.u64.wrap ((IntKind.u64.wrap d).tdiv (gcdI (absI m) (IntKind.u64.wrap d))) * IntKind.u64.wrap ((IntKind.u64.wrap e).tdiv (gcdI (absI n) (IntKind.u64.wrap e))) % 18446744073709551616)))], .v (i64 (mkE (IntKind.u64.wrap ((absI n).tdiv (gcdI (absI n) (IntKind.u64.wrap e))) * IntKind.u64.wrap ((absI m).tdiv (gcdI (absI m) (IntKind.u64.wrap d))) % 18446744073709551616) (IntKind.u64.wrap ((IntKind.u64.wrap d).tdiv (gcdI (absI m) (IntKind.u64.wrap d))) * IntKind.u64.wrap ((IntKind.u64.wrap e).tdiv (gcdI (absI n) (IntKind.u64.wrap e))) % 18446744073709551616)))]) (none)))) (none)))) (none)))) (none)) (none)) (none)) (none))) (none) := by kernel_rfl
theorem tmulr (n d m e : Int) : evF C3 6 8 [.agg [.v (i64 n), .v (i64 d)], .agg [.v (i64 m), .v (i64 e)]] =
    br (iR n && iR d && iR m && iR e) (br (chk2 n d m e != 0) (br (iR n && iR d && iR m && iR e) (some [.agg [.v (i64 (0)), .v (i64 (0))], .v (i64 (chk2 n d m e))]) (none)) (br (iR n) (br (uR (absI n) && uR (IntKind.u64.wrap e)) (br (iR m) (br (uR (absI m) && uR (IntKind.u64.wrap d)) (br (!decide (n < 0) == decide (m < 0)) (br (n != 0) (br (iR n) (br (decide (gcdI (absI n) (IntKind.u64.wrap e) = 0)) (none) (br (iR m) (br (decide (gcdI (absI m) (IntKind.u64.wrap d) = 0)) (none) (br (uR (IntKind.u64.wrap ((absI n).tdiv (gcdI (absI n) (IntKind.u64.wrap e)))) && uR (IntKind.u64.wrap ((absI m).tdiv (gcdI (absI m) (IntKind.u64.wrap d))))) (br (decide (gcdI (absI m) (IntKind.u64.wrap d) = 0)) (none) (br (decide (gcdI (absI n) (IntKind.u64.wrap e) = 0)) (none) (br (uR (IntKind.u64.wrap ((IntKind.u64.wrap d).tdiv (gcdI (absI m) (IntKind.u64.wrap d)))) && uR (IntKind.u64.wrap ((IntKind.u64.wrap e).tdiv (gcdI (absI n) (IntKind.u64.wrap e))))) (br (uR (IntKind.u64.wrap ((absI n).tdiv (gcdI (absI n) (IntKind.u64.wrap e))) * IntKind.u64.wrap ((absI m).tdiv (gcdI (absI m) (IntKind.u64.wrap d))) / 18446744073709551616) && uR (IntKind.u64.wrap ((absI n).tdiv (gcdI (absI n) (IntKind.u64.wrap e))) * IntKind.u64.wrap ((absI m).tdiv (gcdI (absI m) (IntKind.u64.wrap d))) % 18446744073709551616) && uR (IntKind.u64.wrap ((IntKind.u64.wrap d).tdiv (gcdI (absI m) (IntKind.u64.wrap d))) * IntKind.u64.wrap ((IntKind.u64.wrap e).tdiv (gcdI (absI n) (IntKind.u64.wrap e))) / 18446744073709551616) && uR (IntKind.u64.wrap ((IntKind.u64.wrap d).tdiv (gcdI (absI m) (IntKind.u64.wrap d))) * IntKind.u64.wrap ((IntKind.u64.wrap e).tdiv (gcdI (absI n) (IntKind.u64.wrap e))) % 18446744073709551616)) (some [.agg [.v (i64 (mkN (m != 0) (IntKind.u64.wrap ((absI n).tdiv (gcdI (absI n) (IntKind.u64.wrap e))) * IntKind.u64.wrap ((absI m).tdiv (gcdI (absI m) (IntKind.u64.wrap d))) / 18446744073709551616 * 18446744073709551616 + IntKind.u64.wrap ((absI n).tdiv (gcdI (absI n) (IntKind.u64.wrap e))) * IntKind.u64.wrap ((absI m).tdiv (gcdI (absI m) (IntKind.u64.wrap d))) % 18446744073709551616) (IntKind.u64.wrap ((IntKind.u64.wrap d).tdiv (gcdI (absI m) (IntKind.u64.wrap d))) * IntKind.u64.wrap ((IntKind.u64.wrap e).tdiv (gcdI (absI n) (IntKind.u64.wrap e))) / 18446744073709551616 * 18446744073709551616 + IntKind.u64.wrap ((IntKind.u64.wrap d).tdiv (gcdI (absI m) (IntKind.u64.wrap d))) * IntKind.u64.wrap ((IntKind.u64.wrap e).tdiv (gcdI (absI n) (IntKind.u64.wrap e))) % 18446744073709551616))), .v (i64 (mkD (IntKind.u64.wrap ((absI n).tdiv (gcdI (absI n) (IntKind.u64.wrap e))) * IntKind.u64.wrap ((absI m).tdiv (gcdI (absI m) (IntKind.u64.wrap d))) / 18446744073709551616 * 18446744073709551616 + IntKind.u64.wrap ((absI n).tdiv (gcdI (absI n) (IntKind.u64.wrap e))) * IntKind.u64.wrap ((absI m).tdiv (gcdI (absI m) (IntKind.u64.wrap d))) % 18446744073709551616) (IntKind.u64.wrap ((IntKind.u64.wrap d).tdiv (gcdI (absI m) (IntKind.u64.wrap d))) * IntKind.u64.wrap ((IntKind.u64.wrap e).tdiv (gcdI (absI n) (IntKind.u64.wrap e))) / 18446744073709551616 * 18446744073709551616 + IntKind.u64.wrap ((IntKind.u64.wrap d).tdiv (gcdI (absI m) (IntKind.u64.wrap d))) * IntKind.u64.wrap ((IntKind.u64.wrap e).tdiv (gcdI (absI n) (IntKind.u64.wrap e))) % 18446744073709551616)))], .v (i64 (mkE (IntKind.u64.wrap ((absI n).tdiv (gcdI (absI n) (IntKind.u64.wrap e))) * IntKind.u64.wrap ((absI m).tdiv (gcdI (absI m) (IntKind.u64.wrap d))) / 18446744073709551616 * 18446744073709551616 + IntKind.u64.wrap ((absI n).tdiv (gcdI (absI n) (IntKind.u64.wrap e))) * IntKind.u64.wrap ((absI m).tdiv (gcdI (absI m) (IntKind.u64.wrap d))) % 18446744073709551616) (IntKind.u64.wrap ((IntKind.u64.wrap d).tdiv (gcdI (absI m) (IntKind.u64.wrap d))) * IntKind.u64.wrap ((IntKind.u64.wrap e).tdiv (gcdI (absI n) (IntKind.u64.wrap e))) / 18446744073709551616 * 18446744073709551616 + IntKind.u64.wrap ((IntKind.u64.wrap d).tdiv (gcdI (absI m) (IntKind.u64.wrap d))) * IntKind.u64.wrap ((IntKind.u64.wrap e).tdiv (gcdI (absI n) (IntKind.u64.wrap e))) % 18446744073709551616)))]) (none)) (none)))) (none))) (none))) (none)) (br (iR n) (br (decide (gcdI (absI n) (IntKind.u64.wrap e) = 0)) (none) (br (iR m) (br (decide (gcdI (absI m) (IntKind.u64.wrap d) = 0)) (none) (br (uR (IntKind.u64.wrap ((absI n).tdiv (gcdI (absI n) (IntKind.u64.wrap e)))) && uR (IntKind.u64.wrap ((absI m).tdiv (gcdI (absI m) (IntKind.u64.wrap d))))) (br (decide (gcdI (absI m) (IntKind.u64.wrap d) = 0)) (none) (br (decide (gcdI (absI n) (IntKind.u64.wrap e) = 0)) (none) (br (uR (IntKind.u64.wrap ((IntKind.u64.wrap d).tdiv (gcdI (absI m) (IntKind.u64.wrap d)))) && uR (IntKind.u64.wrap ((IntKind.u64.wrap e).tdiv (gcdI (absI n) (IntKind.u64.wrap e))))) (br (uR (IntKind.u64.wrap ((absI n).tdiv (gcdI (absI n) (IntKind.u64.wrap e))) * IntKind.u64.wrap ((absI m).tdiv (gcdI (absI m) (IntKind.u64.wrap d))) / 18446744073709551616) && uR (IntKind.u64.wrap ((absI n).tdiv (gcdI (absI n) (IntKind.u64.wrap e))) * IntKind.u64.wrap ((absI m).tdiv (gcdI (absI m) (IntKind.u64.wrap d))) % 18446744073709551616) && uR (IntKind.u64.wrap ((IntKind.u64.wrap d).tdiv (gcdI (absI m) (IntKind.u64.wrap d))) * IntKind.u64.wrap ((IntKind.u64.wrap e).tdiv (gcdI (absI n) (IntKind.u64.wrap e))) / 18446744073709551616) && uR (IntKind.u64.wrap ((IntKind.u64.wrap d).tdiv (gcdI (absI m) (IntKind.u64.wrap d))) * IntKind.u64.wrap ((IntKind.u64.wrap e).tdiv (gcdI (absI n) (IntKind.u64.wrap e))) % 18446744073709551616)) (some [.agg [.v (i64 (mkN false (IntKind.u64.wrap ((absI n).tdiv (gcdI (absI n) (IntKind.u64.wrap e))) * IntKind.u64.wrap ((absI m).tdiv (gcdI (absI m) (IntKind.u64.wrap d))) / 18446744073709551616 * 18446744073709551616 + IntKind.u64.wrap ((absI n).tdiv (gcdI (absI n) (IntKind.u64.wrap e))) * IntKind.u64.wrap ((absI m).tdiv (gcdI (absI m) (IntKind.u64.wrap d))) % 18446744073709551616) (IntKind.u64.wrap ((IntKind.u64.wrap d).tdiv (gcdI (absI m) (IntKind.u64.wrap d))) * IntKind.u64.wrap ((IntKind.u64.wrap e).tdiv (gcdI (absI n) (IntKind.u64.wrap e))) / 18446744073709551616 * 18446744073709551616 + IntKind.u64.wrap ((IntKind.u64.wrap d).tdiv (gcdI (absI m) (IntKind.u64.wrap d))) * IntKind.u64.wrap ((IntKind.u64.wrap e).tdiv (gcdI (absI n) (IntKind.u64.wrap e))) % 18446744073709551616))), .v (i64 (mkD (IntKind.u64.wrap ((absI n).tdiv (gcdI (absI n) (IntKind.u64.wrap e))) * IntKind.u64.wrap ((absI m).tdiv (gcdI (absI m) (IntKind.u64.wrap d))) / 18446744073709551616 * 18446744073709551616 + IntKind.u64.wrap ((absI n).tdiv (gcdI (absI n) (IntKind.u64.wrap e))) * IntKind.u64.wrap ((absI m).tdiv (gcdI (absI m) (IntKind.u64.wrap d))) % 18446744073709551616) (IntKind.u64.wrap ((IntKind.u64.wrap d).tdiv (gcdI (absI m) (IntKind.u64.wrap d))) * IntKind.u64.wrap ((IntKind.u64.wrap e).tdiv (gcdI (absI n) (IntKind.u64.wrap e))) / 18446744073709551616 * 18446744073709551616 + IntKind.u64.wrap ((IntKind.u64.wrap d).tdiv (gcdI (absI m) (IntKind.u64.wrap d))) * IntKind.u64.wrap ((IntKind.u64.wrap e).tdiv (gcdI (absI n) (IntKind.u64.wrap e))) % 18446744073709551616)))], .v (i64 (mkE (IntKind.u64.wrap ((absI n).tdiv (gcdI (absI n) (IntKind.u64.wrap e))) * IntKind.u64.wrap ((absI m).tdiv (gcdI (absI m) (IntKind.u64.wrap d))) / 18446744073709551616 * 18446744073709551616 + IntKind.u64.wrap ((absI n).tdiv (gcdI (absI n) (IntKind.u64.wrap e))) * IntKind.u64.wrap ((absI m).tdiv (gcdI (absI m) (IntKind.u64.wrap d))) % 18446744073709551616) (IntKind.u64.wrap ((IntKind.u64.wrap d).tdiv (gcdI (absI m) (IntKind.u64.wrap d))) * IntKind.u64.wrap ((IntKind.u64.wrap e).tdiv (gcdI (absI n) (IntKind.u64.wrap e))) / 18446744073709551616 * 18446744073709551616 + IntKind.u64.wrap ((IntKind.u64.wrap d).tdiv (gcdI (absI m) (IntKind.u64.wrap d))) * IntKind.u64.wrap ((IntKind.u64.wrap e).tdiv (gcdI (absI n) (IntKind.u64.wrap e))) % 18446744073709551616)))]) (none)) (none)))) (none))) (none))) (none))) (br (iR n) (br (decide (gcdI (absI n) (IntKind.u64.wrap e) = 0)) (none) (br (iR m) (br (decide (gcdI (absI m) (IntKind.u64.wrap d) = 0)) (none) (br (uR (IntKind.u64.wrap ((absI n).tdiv (gcdI (absI n) (IntKind.u64.wrap e)))) && uR (IntKind.u64.wrap ((absI m).tdiv (gcdI (absI m) (IntKind.u64.wrap d))))) (br (decide (gcdI (absI m) (IntKind.u64.wrap d) = 0)) (none) (br (decide (gcdI (absI n) (IntKind.u64.wrap e) = 0)) (none) (br (uR (IntKind.u64.wrap ((IntKind.u64.wrap d).tdiv (gcdI (absI m) (IntKind.u64.wrap d)))) && uR (IntKind.u64.wrap ((IntKind.u64.wrap e).tdiv (gcdI (absI n) (IntKind.u64.wrap e))))) (br (uR (IntKind.u64.wrap ((absI n).tdiv (gcdI (absI n) (IntKind.u64.wrap e))) * IntKind.u64.wrap ((absI m).tdiv (gcdI (absI m) (IntKind.u64.wrap d))) / 18446744073709551616) && uR (IntKind.u64.wrap ((absI n).tdiv (gcdI (absI n) (IntKind.u64.wrap e))) * IntKind.u64.wrap ((absI m).tdiv (gcdI (absI m) (IntKind.u64.wrap d))) % 18446744073709551616) && uR (IntKind.u64.wrap ((IntKind.u64.wrap d).tdiv (gcdI (absI m) (IntKind.u64.wrap d))) * IntKind.u64.wrap ((IntKind.u64.wrap e).tdiv (gcdI (absI n) (IntKind.u64.wrap e))) / 18446744073709551616) && uR (IntKind.u64.wrap ((IntKind.u64.wrap d).tdiv (gcdI (absI m) (IntKind.u64.wrap d))) * IntKind.u64.wrap ((IntKind.u64.wrap e).tdiv (gcdI (absI n) (IntKind.u64.wrap e))) % 18446744073709551616)) (some [.agg [.v (i64 (mkN false (IntKind.u64.wrap ((absI n).tdiv (gcdI (absI n) (IntKind.u64.wrap e))) * IntKind.u64.wrap ((absI m).tdiv (gcdI (absI m) (IntKind.u64.wrap d))) / 18446744073709551616 * 18446744073709551616 + IntKind.u64.wrap ((absI n).tdiv (gcdI (absI n) (IntKind.u64.wrap e))) * IntKind.u64.wrap ((absI m).tdiv (gcdI (absI m) (IntKind.u64.wrap d))) % 18446744073709551616) (IntKind.u64.wrap ((IntKind.u64.wrap d).tdiv (gcdI (absI m) (IntKind.u64.wrap d))) * IntKind.u64.wrap ((IntKind.u64.wrap e).tdiv (gcdI (absI n) (IntKind.u64.wrap e))) / 18446744073709551616 * 18446744073709551616 + IntKind.u64.wrap ((IntKind.u64.wrap d).tdiv (gcdI (absI m) (IntKind.u64.wrap d))) * IntKind.u64.wrap ((IntKind.u64.wrap e).tdiv (gcdI (absI n) (IntKind.u64.wrap e))) % 18446744073709551616))), .v (i64 (mkD (IntKind.u64.wrap ((absI n).tdiv (gcdI (absI n) (IntKind.u64.wrap e))) * IntKind.u64.wrap ((absI m).tdiv (gcdI (absI m) (IntKind.u64.wrap d))) / 18446744073709551616 * 18446744073709551616 + IntKind.u64.wrap ((absI n).tdiv (gcdI (absI n) (IntKind.u64.wrap e))) * IntKind.u64.wrap ((absI m).tdiv (gcdI (absI m) (IntKind.u64.wrap d))) % 18446744073709551616) (IntKind.u64.wrap ((IntKind.u64.wrap d).tdiv (gcdI (absI m) (IntKind.u64.wrap d))) * IntKind.u64.wrap ((IntKind.u64.wrap e).tdiv (gcdI (absI n) (IntKind.u64.wrap e))) / 18446744073709551616 * 18446744073709551616 + IntKind.u64.wrap ((IntKind.u64.wrap d).tdiv (gcdI (absI m) (IntKind.u64.wrap d))) * IntKind.u64.wrap ((IntKind.u64.wrap e).tdiv (gcdI (absI n) (IntKind.u64.wrap e))) % 18446744073709551616)))], .v (i64 (mkE (IntKind.u64.wrap ((absI n).tdiv (gcdI (absI n) (IntKind.u64.wrap e))) * IntKind.u64.wrap ((absI m).tdiv (gcdI (absI m) (IntKind.u64.wrap d))) / 18446744073709551616 * 18446744073709551616 + IntKind.u64.wrap ((absI n).tdiv (gcdI (absI n) (IntKind.u64.wrap e))) * IntKind.u64.wrap ((absI m).tdiv (gcdI (absI m) (IntKind.u64.wrap d))) % 18446744073709551616) (IntKind.u64.wrap ((IntKind.u64.wrap d).tdiv (gcdI (absI m) (IntKind.u64.wrap d))) * IntKind.u64.wrap ((IntKind.u64.wrap e).tdiv (gcdI (absI n) (IntKind.u64.wrap e))) / 18446744073709551616 * 18446744073709551616 + IntKind.u64.wrap ((IntKind.u64.wrap d).tdiv (gcdI (absI m) (IntKind.u64.wrap d))) * IntKind.u64.wrap ((IntKind.u64.wrap e).tdiv (gcdI (absI n) (IntKind.u64.wrap e))) % 18446744073709551616)))]) (none)) (none)))) (none))) (none))) (none))) (none)) (none)) (none)) (none))) (none) := by kernel_rfl
end Go.Proofs.Ytofkkhdmjllcfaa

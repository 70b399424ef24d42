/- Checks, and what is made of numerator and denominator: contracts. No conditions. -/
import Derived.Test.YtofkkhdmjllcfaaR4
namespace Go.Proofs.Ytofkkhdmjllcfaa
open Go.Ev
set_option linter.all false
theorem wrapI_id {n : Int} (h0 : -9223372036854775808 ≤ n) (h1 : n < 9223372036854775808) : IntKind.i64.wrap n = n := by rw [wrapI]; omega
theorem absI_or (n : Int) : 0 ≤ absI n ∧ (absI n = n ∨ absI n = -n) := by unfold absI; split <;> omega
theorem den_chk : Den Try.prog 19 Fchk := evF_den C1_ok fun ds rs h => by
  unfold Fchk at h
  split at h
  · rename_i n d
    simp only [Option.some.injEq, Prod.mk.injEq, Bool.and_eq_true] at h
    obtain ⟨⟨h1, h2⟩, rfl⟩ := h
    refine (tchk n d).trans ?_
    have ⟨h3, h4⟩ := iR_iff.mp h1
    have ⟨h5, h6⟩ := iR_iff.mp h2
    have ⟨a1, a0⟩ := absI_or n
    unfold chkE
    by_cases hd : d < 1
    · rw [decide_eq_true hd, br_true, if_neg (fun hg => by have := hg.1.1; omega)]
    · rw [decide_eq_false hd, h1, wrapU_id (n := d) (by omega) (by omega), br_false, br_true]
      by_cases hm : (if d > absI n then d else absI n) > 1000000000000000000
      · rw [decide_eq_true hm, br_true, if_neg (fun hg => by have := hg.1; have := hg.2.1; split at hm <;> omega)]
      · have hm' : d ≤ 1000000000000000000 ∧ absI n ≤ 1000000000000000000 := by split at hm <;> omega
        rw [decide_eq_false hm, br_false, br_true, show (uR (absI n) && uR d) = true by simp only [Bool.and_eq_true, uR_iff]; omega, br_true]
        have hp := gcdI_pos (absI n) d a1 (by omega)
        by_cases hg : gcdI (absI n) d > 1
        · rw [decide_eq_true hg, br_true, if_neg (fun h => by have := h.2.2; omega)]
        · rw [decide_eq_false hg, br_false, if_pos ⟨by omega, by omega, by omega⟩]
  · cases h
theorem den_chkr : Den Try.prog 20 Fchk := evF_den C1_ok fun ds rs h => by
  unfold Fchk at h
  split at h
  · rename_i n d
    simp only [Option.some.injEq, Prod.mk.injEq, Bool.and_eq_true] at h
    obtain ⟨⟨h1, h2⟩, rfl⟩ := h
    refine (tchkr n d).trans ?_
    have ⟨h3, h4⟩ := iR_iff.mp h1
    have ⟨h5, h6⟩ := iR_iff.mp h2
    have ⟨a1, a0⟩ := absI_or n
    unfold chkE
    by_cases hd : d < 1
    · rw [decide_eq_true hd, br_true, if_neg (fun hg => by have := hg.1.1; omega)]
    · rw [decide_eq_false hd, br_false]
      by_cases e1 : d > 1000000000000000000
      · rw [decide_eq_true e1, br_true, if_neg (fun hg => by have := hg.1.2; omega)]
      · rw [decide_eq_false e1, br_false]
        by_cases e2 : n < -1000000000000000000
        · rw [decide_eq_true e2, br_true, if_neg (fun hg => by have := hg.2.1.1; omega)]
        · rw [decide_eq_false e2, br_false]
          by_cases e3 : n > 1000000000000000000
          · rw [decide_eq_true e3, br_true, if_neg (fun hg => by have := hg.2.1.2; omega)]
          · rw [decide_eq_false e3, br_false, h1, wrapU_id (n := d) (by omega) (by omega), br_true, show (uR (absI n) && uR d) = true by simp only [Bool.and_eq_true, uR_iff]; omega, br_true]
            by_cases hg : gcdI (absI n) d = 1
            · rw [show (gcdI (absI n) d != 1) = false by simpa using hg, br_false, if_pos ⟨by omega, by omega, hg⟩]
            · rw [show (gcdI (absI n) d != 1) = true by simpa using hg, br_true, if_neg (fun h => hg h.2.2)]
  · cases h
def Fsigned : List D → Option (Bool × List D)
  | [.v (.bool m), .v (.int .u64 N), .v (.int .u64 d)] => some (uR N && uR d, [.agg [.v (i64 (mkN m N d)), .v (i64 (mkD N d))], .v (i64 (mkE N d))])
  | _ => none
def Fmade : List D → Option (Bool × List D)
  | [.v (.bool m), .agg [.v (.int .u64 h1), .v (.int .u64 N)], .agg [.v (.int .u64 h2), .v (.int .u64 d)]] => some (uR h1 && uR N && uR h2 && uR d, [.agg [.v (i64 (mkN m (h1 * 18446744073709551616 + N) (h2 * 18446744073709551616 + d))), .v (i64 (mkD (h1 * 18446744073709551616 + N) (h2 * 18446744073709551616 + d)))], .v (i64 (mkE (h1 * 18446744073709551616 + N) (h2 * 18446744073709551616 + d)))])
  | _ => none
theorem mk_bad {N d : Int} (h : 1000000000000000000 < N ∨ 1000000000000000000 < d) (m : Bool) : mkE N d = 16 ∧ mkN m N d = 0 ∧ mkD N d = 0 := by
  have e : mkE N d = 16 := if_pos h
  unfold mkN mkD
  rw [e]
  exact ⟨rfl, rfl, rfl⟩
theorem mk_ok {N d : Int} (h : ¬ (1000000000000000000 < N ∨ 1000000000000000000 < d)) (m : Bool) : mkE N d = 0 ∧ mkN m N d = (if m = true then -N else N) ∧ mkD N d = d := by
  have e : mkE N d = 0 := if_neg h
  unfold mkN mkD
  rw [e]
  exact ⟨rfl, rfl, rfl⟩
theorem den_signed : Den Try.prog 23 Fsigned := evF_den C1_ok fun ds rs h => by
  unfold Fsigned at h
  split at h
  · rename_i m N d
    simp only [Option.some.injEq, Prod.mk.injEq, Bool.and_eq_true, uR_iff] at h
    obtain ⟨⟨⟨h1, h2⟩, h3, h4⟩, rfl⟩ := h
    refine (tsigned m N d).trans ?_
    by_cases hm : (if d > N then d else N) > 1000000000000000000
    · obtain ⟨e1, e2, e3⟩ := mk_bad (N := N) (d := d) (by split at hm <;> omega) m
      rw [decide_eq_true hm, e1, e2, e3]; rfl
    · have hb : ¬ (1000000000000000000 < N ∨ 1000000000000000000 < d) := by split at hm <;> omega
      obtain ⟨e1, e2, e3⟩ := mk_ok hb m
      rw [decide_eq_false hm, e1, e2, e3, wrapI_id (n := N) (by omega) (by omega), wrapI_id (n := d) (by omega) (by omega), wrapI_id (n := 0 - N) (by omega) (by omega), Int.zero_sub]
      cases m <;> rfl
  · cases h
theorem den_made : Den Try.prog 26 Fmade := evF_den C1_ok fun ds rs h => by
  unfold Fmade at h
  split at h
  · rename_i m a N b d
    simp only [Option.some.injEq, Prod.mk.injEq, Bool.and_eq_true, uR_iff] at h
    obtain ⟨⟨⟨⟨a1, a2⟩, h1, h2⟩, b1, b2⟩, h3, h4⟩ := h.1
    obtain ⟨_, rfl⟩ := h
    refine (tmade m a N b d).trans ?_
    by_cases ha : a > 0
    · obtain ⟨e1, e2, e3⟩ := mk_bad (N := a * 18446744073709551616 + N) (d := b * 18446744073709551616 + d) (by omega) m
      rw [decide_eq_true ha, e1, e2, e3]; rfl
    · rw [decide_eq_false ha, br_false]
      by_cases hb : b > 0
      · obtain ⟨e1, e2, e3⟩ := mk_bad (N := a * 18446744073709551616 + N) (d := b * 18446744073709551616 + d) (by omega) m
        rw [decide_eq_true hb, e1, e2, e3]; rfl
      · rw [decide_eq_false hb, br_false, show a * 18446744073709551616 + N = N by omega, show b * 18446744073709551616 + d = d by omega]
        by_cases hN : N > 1000000000000000000
        · obtain ⟨e1, e2, e3⟩ := mk_bad (N := N) (d := d) (by omega) m
          rw [decide_eq_true hN, e1, e2, e3]; rfl
        · rw [decide_eq_false hN, br_false]
          by_cases hd : d > 1000000000000000000
          · obtain ⟨e1, e2, e3⟩ := mk_bad (N := N) (d := d) (by omega) m
            rw [decide_eq_true hd, e1, e2, e3]; rfl
          · obtain ⟨e1, e2, e3⟩ := mk_ok (N := N) (d := d) (by omega) m
            rw [decide_eq_false hd, br_false, e1, e2, e3, wrapI_id (n := N) (by omega) (by omega), wrapI_id (n := d) (by omega) (by omega), wrapI_id (n := 0 - N) (by omega) (by omega), Int.zero_sub]
            cases m <;> rfl
  · cases h
noncomputable def C2 : Cx := mkCx Try.prog fns [(22, Fgcd), (25, Fgcd), (21, Fsize), (24, Fsize), (19, Fchk), (20, Fchk), (23, Fsigned), (26, Fmade), (28, Fmul), (30, Ftimes)] []
theorem C2_ok : CxOk C2 := mkCx_ok enter mixed (fun p h => by
  simp only [List.mem_cons, List.not_mem_nil, or_false] at h
  rcases h with rfl | rfl | rfl | rfl | rfl | rfl | rfl | rfl | rfl | rfl
  · exact den_gcd
  · exact den_gcdr
  · exact den_size
  · exact den_abs
  · exact den_chk
  · exact den_chkr
  · exact den_signed
  · exact den_made
  · exact den_mul
  · exact den_times) (fun l h => by cases h)
theorem tboth (n d m e : Int) : evF C2 6 29 [.agg [.v (i64 n), .v (i64 d)], .agg [.v (i64 m), .v (i64 e)]] =
    br (iR n && iR d) (br (chkE n d != 0) (br (iR n && iR d) (some [.v (i64 (chkE n d))]) (none)) (br (iR m && iR e) (some [.v (i64 (chkE m e))]) (none))) (none) := by kernel_rfl
theorem tcheck (n d m e : Int) : evF C2 6 27 [.agg [.v (i64 n), .v (i64 d)], .agg [.v (i64 m), .v (i64 e)]] =
    br (iR n && iR d) (br (iR m && iR e) (br ((((Row.zeros 2).setI 0 0 (chkE n d)).setI 1 0 (chkE m e)).I 0 0 != 0) (some [.v (i64 ((((Row.zeros 2).setI 0 0 (chkE n d)).setI 1 0 (chkE m e)).I 0 0))]) (br ((((Row.zeros 2).setI 0 0 (chkE n d)).setI 1 0 (chkE m e)).I 1 0 != 0) (some [.v (i64 ((((Row.zeros 2).setI 0 0 (chkE n d)).setI 1 0 (chkE m e)).I 1 0))]) (some [.v (i64 (0))]))) (none)) (none) := by kernel_rfl
theorem tmake (n d : Int) : evF C2 6 5 [.v (i64 n), .v (i64 d)] =
    br (d == 0) (some [.agg [.v (i64 (0)), .v (i64 (0))], .v (i64 (18))]) (br (iR n) (br (iR d) (br (uR (absI n) && uR (absI d)) (br (decide (gcdI (absI n) (absI d) = 0)) (none) (br (decide (gcdI (absI n) (absI d) = 0)) (none) (br (uR (IntKind.u64.wrap ((absI n).tdiv (gcdI (absI n) (absI d)))) && uR (IntKind.u64.wrap ((absI d).tdiv (gcdI (absI n) (absI d))))) (some [.agg [.v (i64 (mkN (!decide (n < 0) == decide (d < 0)) (IntKind.u64.wrap ((absI n).tdiv (gcdI (absI n) (absI d)))) (IntKind.u64.wrap ((absI d).tdiv (gcdI (absI n) (absI d)))))), .v (i64 (mkD (IntKind.u64.wrap ((absI n).tdiv (gcdI (absI n) (absI d)))) (IntKind.u64.wrap ((absI d).tdiv (gcdI (absI n) (absI d))))))], .v (i64 (mkE (IntKind.u64.wrap ((absI n).tdiv (gcdI (absI n) (absI d)))) (IntKind.u64.wrap ((absI d).tdiv (gcdI (absI n) (absI d))))))]) (none)))) (none)) (none)) (none)) := by kernel_rfl
theorem tmaker (n d : Int) : evF C2 6 6 [.v (i64 n), .v (i64 d)] =
    br (d == 0) (some [.agg [.v (i64 (0)), .v (i64 (0))], .v (i64 (18))]) (br (iR n) (br (iR d) (br (uR (absI n) && uR (absI d)) (br (decide (gcdI (absI n) (absI d) = 0)) (none) (br (decide (gcdI (absI n) (absI d) = 0)) (none) (br (uR 0 && uR (IntKind.u64.wrap ((absI n).tdiv (gcdI (absI n) (absI d)))) && uR 0 && uR (IntKind.u64.wrap ((absI d).tdiv (gcdI (absI n) (absI d))))) (some [.agg [.v (i64 (mkN (!decide (n < 0) == decide (d < 0)) (0 * 18446744073709551616 + IntKind.u64.wrap ((absI n).tdiv (gcdI (absI n) (absI d)))) (0 * 18446744073709551616 + IntKind.u64.wrap ((absI d).tdiv (gcdI (absI n) (absI d)))))), .v (i64 (mkD (0 * 18446744073709551616 + IntKind.u64.wrap ((absI n).tdiv (gcdI (absI n) (absI d)))) (0 * 18446744073709551616 + IntKind.u64.wrap ((absI d).tdiv (gcdI (absI n) (absI d))))))], .v (i64 (mkE (0 * 18446744073709551616 + IntKind.u64.wrap ((absI n).tdiv (gcdI (absI n) (absI d)))) (0 * 18446744073709551616 + IntKind.u64.wrap ((absI d).tdiv (gcdI (absI n) (absI d))))))]) (none)))) (none)) (none)) (none)) := by kernel_rfl
theorem tfloor (n d : Int) : evF C2 6 11 [.agg [.v (i64 n), .v (i64 d)]] =
    br (iR n && iR d) (br (chkE n d != 0) (some [.v (i64 (0)), .v (i64 (chkE n d))]) (br (decide (d = 0)) (none) (br (decide (d = 0)) (none) (br (decide (n.tmod d < 0)) (some [.v (i64 (IntKind.i64.wrap (IntKind.i64.wrap (n.tdiv d) - 1))), .v (i64 (0))]) (some [.v (i64 (IntKind.i64.wrap (n.tdiv d))), .v (i64 (0))]))))) (none) := by kernel_rfl
theorem tfloorr (n d : Int) : evF C2 6 12 [.agg [.v (i64 n), .v (i64 d)]] =
    br (iR n && iR d) (br (chkE n d != 0) (br (iR n && iR d) (some [.v (i64 (0)), .v (i64 (chkE n d))]) (none)) (br (decide (d = 0)) (none) (br (decide (IntKind.i64.wrap (IntKind.i64.wrap (n.tdiv d) * d) > n)) (some [.v (i64 (IntKind.i64.wrap (IntKind.i64.wrap (n.tdiv d) - 1))), .v (i64 (0))]) (some [.v (i64 (IntKind.i64.wrap (n.tdiv d))), .v (i64 (0))])))) (none) := by kernel_rfl
end Go.Proofs.Ytofkkhdmjllcfaa

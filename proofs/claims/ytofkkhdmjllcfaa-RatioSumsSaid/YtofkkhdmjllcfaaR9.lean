/- The reference's Mul: contract; the tree of its Div, and of the law RatioProducts. No conditions. -/
import Derived.Test.YtofkkhdmjllcfaaR8
namespace Go.Proofs.Ytofkkhdmjllcfaa
open Go.Ev
set_option linter.all false
theorem gcdI_dvd (a b : Int) (ha : 0 ≤ a) : gcdI a b ∣ a := by
  have h := Nat.gcd_dvd_left a.toNat b.toNat
  have h2 : ((Nat.gcd a.toNat b.toNat : Nat) : Int) ∣ ((a.toNat : Nat) : Int) := Int.natCast_dvd_natCast.mpr h
  rwa [Int.toNat_of_nonneg ha] at h2
theorem gcdI_dvd2 (a b : Int) (hb : 0 ≤ b) : gcdI a b ∣ b := by
  have h := Nat.gcd_dvd_right a.toNat b.toNat
  have h2 : ((Nat.gcd a.toNat b.toNat : Nat) : Int) ∣ ((b.toNat : Nat) : Int) := Int.natCast_dvd_natCast.mpr h
  rwa [Int.toNat_of_nonneg hb] at h2
theorem quo_pos (a b : Int) (ha : 0 ≤ a) (hb : 0 < b) : 0 < a / gcdI a b ↔ 0 < a := by
  have hg := gcdI_pos a b ha hb
  obtain ⟨c, hc⟩ := gcdI_dvd a b ha
  generalize gcdI a b = g at *
  rw [hc, Int.mul_ediv_cancel_left _ (by omega)]
  constructor
  · intro h; exact Int.mul_pos hg h
  · intro h; exact Int.pos_of_mul_pos_right h hg
theorem pN_pos (n d m e : Int) (hd : 0 < d) (he : 0 < e) : pN n d m e > 0 ↔ n ≠ 0 ∧ m ≠ 0 := by
  have ⟨a1, a0⟩ := absI_or n
  have ⟨b1, b0⟩ := absI_or m
  have h1 := quo_pos (absI n) e a1 he
  have h2 := quo_pos (absI m) d b1 hd
  have p1 := Int.ediv_nonneg a1 (gcdI_nonneg (absI n) e)
  have p2 := Int.ediv_nonneg b1 (gcdI_nonneg (absI m) d)
  unfold pN
  generalize absI n / gcdI (absI n) e = x at *
  generalize absI m / gcdI (absI m) d = y at *
  constructor
  · intro h
    have hx : x ≠ 0 := fun h0 => by rw [h0, Int.zero_mul] at h; omega
    have hy : y ≠ 0 := fun h0 => by rw [h0, Int.mul_zero] at h; omega
    omega
  · intro h
    exact Int.mul_pos (by omega) (by omega)
theorem den_mulr : Den Try.prog 8 Fpr := evF_den C3_ok fun ds rs h => by
  unfold Fpr at h
  split at h
  · rename_i n d m e
    simp only [Option.some.injEq, Prod.mk.injEq] at h
    obtain ⟨h0, rfl⟩ := h
    refine (tmulr n d m e).trans ?_
    rw [h0, br_true]
    simp only [Bool.and_eq_true] at h0
    obtain ⟨⟨⟨h1, h2⟩, h3⟩, h4⟩ := h0
    unfold prN prD prE
    by_cases hc : chk2 n d m e = 0
    · obtain ⟨⟨⟨d1, d2⟩, ⟨n1, n2⟩, _⟩, ⟨e1, e2⟩, ⟨m1, m2⟩, _⟩ := chk2_good hc
      have ⟨a1, a0⟩ := absI_or n
      have ⟨b1, b0⟩ := absI_or m
      have hg := gcdI_pos (absI n) e a1 (by omega)
      have hh := gcdI_pos (absI m) d b1 (by omega)
      obtain ⟨p1, p2, p3, p4⟩ := quo (absI n) _ a1 (by omega) hg
      obtain ⟨r1, r2, r3, r4⟩ := quo (absI m) _ b1 (by omega) hh
      obtain ⟨q1, q2, q3, q4⟩ := quo d _ (by omega) (by omega) hh
      obtain ⟨s1, s2, s3, s4⟩ := quo e _ (by omega) (by omega) hg
      have hpos := pN_pos n d m e (by omega) (by omega)
      rw [show (chk2 n d m e != 0) = false by simpa using hc, if_pos hc, if_pos hc, if_pos hc, h1, h3, wrapU_id (n := d) (by omega) (by omega), wrapU_id (n := e) (by omega) (by omega), p1, r1, q1, s1, p4, r4, q4, s4,
        show (uR (absI n) && uR e) = true by simp only [Bool.and_eq_true, uR_iff]; omega, show (uR (absI m) && uR d) = true by simp only [Bool.and_eq_true, uR_iff]; omega,
        decide_eq_false (show ¬ gcdI (absI n) e = 0 by omega), decide_eq_false (show ¬ gcdI (absI m) d = 0 by omega)]
      obtain ⟨x1, x2⟩ := mul_most p2 (by omega) r2 (by omega)
      obtain ⟨y1, y2⟩ := mul_most q2 (by omega) s2 (by omega)
      rw [show absI n / gcdI (absI n) e * (absI m / gcdI (absI m) d) = pN n d m e from rfl, show d / gcdI (absI m) d * (e / gcdI (absI n) e) = pD n d m e from rfl]
      rw [show absI n / gcdI (absI n) e * (absI m / gcdI (absI m) d) = pN n d m e from rfl] at x1 x2
      rw [show d / gcdI (absI m) d * (e / gcdI (absI n) e) = pD n d m e from rfl] at y1 y2
      generalize pN n d m e = N at *
      generalize pD n d m e = M at *
      rw [show N / 18446744073709551616 * 18446744073709551616 + N % 18446744073709551616 = N by omega, show M / 18446744073709551616 * 18446744073709551616 + M % 18446744073709551616 = M by omega,
        show (uR (N / 18446744073709551616) && uR (N % 18446744073709551616) && uR (M / 18446744073709551616) && uR (M % 18446744073709551616)) = true by simp only [Bool.and_eq_true, uR_iff]; omega]
      unfold sgn
      by_cases hn : n = 0
      · rw [show (n != 0) = false by simpa using hn, decide_eq_false (show ¬ N > 0 by omega)]
        generalize (!decide (n < 0) == decide (m < 0)) = s
        cases s <;> rfl
      · rw [show (n != 0) = true by simpa using hn]
        by_cases hm : m = 0
        · rw [show (m != 0) = false by simpa using hm, decide_eq_false (show ¬ N > 0 by omega)]
          generalize (!decide (n < 0) == decide (m < 0)) = s
          cases s <;> rfl
        · rw [show (m != 0) = true by simpa using hm, decide_eq_true (show N > 0 by omega)]
          generalize (!decide (n < 0) == decide (m < 0)) = s
          cases s <;> rfl
    · rw [show (chk2 n d m e != 0) = true by simpa using hc, if_neg hc, if_neg hc, if_neg hc]; rfl
  · cases h
noncomputable def C5 : Cx := mkCx Try.prog fns [(27, Fboth), (29, Fboth), (7, Fpr), (8, Fpr), (5, Fmake), (6, Fmake), (11, Ffloor), (12, Ffloor), (9, Fdi)] []
theorem C5_ok : CxOk C5 := mkCx_ok enter mixed (fun p h => by
  simp only [List.mem_cons, List.not_mem_nil, or_false] at h
  rcases h with rfl | rfl | rfl | rfl | rfl | rfl | rfl | rfl | rfl
  · exact den_check
  · exact den_both
  · exact den_mulp
  · exact den_mulr
  · exact den_make
  · exact den_maker
  · exact den_floor
  · exact den_floorr
  · exact den_div) (fun l h => by cases h)
theorem tdivr (n d m e : Int) : evF C5 6 10 [.agg [.v (i64 n), .v (i64 d)], .agg [.v (i64 m), .v (i64 e)]] =
    br (iR n && iR d && iR m && iR e) (br (chk2 n d m e != 0) (br (iR n && iR d && iR m && iR e) (some [.agg [.v (i64 (0)), .v (i64 (0))], .v (i64 (chk2 n d m e))]) (none)) (br (m == 0) (some [.agg [.v (i64 (0)), .v (i64 (0))], .v (i64 (18))]) (br (decide (m < 0)) (br (iR n && iR d && iR (IntKind.i64.wrap (0 - e)) && iR (IntKind.i64.wrap (0 - m))) (some [.agg [.v (i64 (prN n d (IntKind.i64.wrap (0 - e)) (IntKind.i64.wrap (0 - m)))), .v (i64 (prD n d (IntKind.i64.wrap (0 - e)) (IntKind.i64.wrap (0 - m))))], .v (i64 (prE n d (IntKind.i64.wrap (0 - e)) (IntKind.i64.wrap (0 - m))))]) (none)) (br (iR n && iR d && iR e && iR m) (some [.agg [.v (i64 (prN n d e m)), .v (i64 (prD n d e m))], .v (i64 (prE n d e m))]) (none))))) (none) := by kernel_rfl
end Go.Proofs.Ytofkkhdmjllcfaa

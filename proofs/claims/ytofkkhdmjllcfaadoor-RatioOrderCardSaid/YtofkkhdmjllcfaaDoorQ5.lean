/- Add, Sub, Cmp. No conditions. -/
import Derived.Test.YtofkkhdmjllcfaaDoorQ4
namespace Go.Proofs.YtofkkhdmjllcfaaDoor
open Go.Ev
set_option linter.all false
noncomputable def C12 : Cx := mkCx Tryd.prog fns [(35, Fgcd), (47, Fgcd), (37, Fsize), (48, Fsize), (34, Fboth), (33, Fboth), (42, Fsigned), (57, Fmade), (36, Fmul), (52, Ftimes), (41, Fdv), (40, Frem), (53, Fplus), (54, Fminus), (55, Fless), (56, Fsplit), (43, Fcmpi), (45, Fcmpu)] [] [(38, Xadd), (39, Xsub)]
theorem C12_ok : CxOk C12 := fun wb => mkCx_okX (W := fun _ => True) enter mixed (fun p h => by
  simp only [List.mem_cons, List.not_mem_nil, or_false] at h
  rcases h with rfl | rfl | rfl | rfl | rfl | rfl | rfl | rfl | rfl | rfl | rfl | rfl | rfl | rfl | rfl | rfl | rfl | rfl
  · exact den_gcd.at _
  · exact den_gcdr.at _
  · exact den_size.at _
  · exact den_abs.at _
  · exact den_check.at _
  · exact den_both.at _
  · exact den_signed.at _
  · exact den_made.at _
  · exact den_mul.at _
  · exact den_times.at _
  · exact den_div64.at _
  · exact den_rem.at _
  · exact den_plus.at _
  · exact den_minus.at _
  · exact den_less.at _
  · exact den_split.at _
  · exact den_cmpi.at _
  · exact den_cmpu.at _) (fun l h => by cases h) (fun p h => by
  simp only [List.mem_cons, List.not_mem_nil, or_false] at h
  rcases h with rfl | rfl
  · exact ext_add
  · exact ext_sub) wb trivial
theorem tcmp (n d m e : Int) : evF C12 6 20 [.agg [.v (i64 n), .v (i64 d)], .agg [.v (i64 m), .v (i64 e)]] =
    br (iR n && iR d && iR m && iR e) (br (chk2 n d m e != 0) (some [.v (i64 (0)), .v (i64 (chk2 n d m e))]) (br (!decide (n < 0) == decide (m < 0)) (some [.v (i64 (cmpI n m)), .v (i64 (0))]) (br (iR n) (br (uR (absI n) && uR (IntKind.u64.wrap e)) (br (iR m) (br (uR (absI m) && uR (IntKind.u64.wrap d)) (br ((((Row.zeros 2).setI 0 0 (cmpI (absI n * IntKind.u64.wrap e / 18446744073709551616) (absI m * IntKind.u64.wrap d / 18446744073709551616))).setI 1 0 (cmpI (absI n * IntKind.u64.wrap e % 18446744073709551616) (absI m * IntKind.u64.wrap d % 18446744073709551616))).I 0 0 != 0) (br (decide (n < 0)) (some [.v (i64 (IntKind.i64.wrap (0 - (((Row.zeros 2).setI 0 0 (cmpI (absI n * IntKind.u64.wrap e / 18446744073709551616) (absI m * IntKind.u64.wrap d / 18446744073709551616))).setI 1 0 (cmpI (absI n * IntKind.u64.wrap e % 18446744073709551616) (absI m * IntKind.u64.wrap d % 18446744073709551616))).I 0 0))), .v (i64 (0))]) (some [.v (i64 ((((Row.zeros 2).setI 0 0 (cmpI (absI n * IntKind.u64.wrap e / 18446744073709551616) (absI m * IntKind.u64.wrap d / 18446744073709551616))).setI 1 0 (cmpI (absI n * IntKind.u64.wrap e % 18446744073709551616) (absI m * IntKind.u64.wrap d % 18446744073709551616))).I 0 0)), .v (i64 (0))])) (br ((((Row.zeros 2).setI 0 0 (cmpI (absI n * IntKind.u64.wrap e / 18446744073709551616) (absI m * IntKind.u64.wrap d / 18446744073709551616))).setI 1 0 (cmpI (absI n * IntKind.u64.wrap e % 18446744073709551616) (absI m * IntKind.u64.wrap d % 18446744073709551616))).I 1 0 != 0) (br (decide (n < 0)) (some [.v (i64 (IntKind.i64.wrap (0 - (((Row.zeros 2).setI 0 0 (cmpI (absI n * IntKind.u64.wrap e / 18446744073709551616) (absI m * IntKind.u64.wrap d / 18446744073709551616))).setI 1 0 (cmpI (absI n * IntKind.u64.wrap e % 18446744073709551616) (absI m * IntKind.u64.wrap d % 18446744073709551616))).I 1 0))), .v (i64 (0))]) (some [.v (i64 ((((Row.zeros 2).setI 0 0 (cmpI (absI n * IntKind.u64.wrap e / 18446744073709551616) (absI m * IntKind.u64.wrap d / 18446744073709551616))).setI 1 0 (cmpI (absI n * IntKind.u64.wrap e % 18446744073709551616) (absI m * IntKind.u64.wrap d % 18446744073709551616))).I 1 0)), .v (i64 (0))])) (br (decide (n < 0)) (some [.v (i64 (0)), .v (i64 (0))]) (some [.v (i64 (0)), .v (i64 (0))])))) (none)) (none)) (none)) (none)))) (none) := by kernel_rfl
def adE16 : Option (List D) := some [.agg [.v (i64 0), .v (i64 0)], .v (i64 16)]
def adZ : Option (List D) := some [.agg [.v (i64 0), .v (i64 1)], .v (i64 0)]
/-- What is left to do behind the sum (program): d, e are the denominators, g what they have in common. -/
def adT3 (neg : Bool) (N M : Int) : Option (List D) := br (uR N && uR M) (some [.agg [.v (i64 (mkN neg N M)), .v (i64 (mkD N M))], .v (i64 (mkE N M))]) none
def adT2 (d e g : Int) (neg : Bool) (hi lo h : Int) : Option (List D) :=
  br (decide (hi ≥ h)) adE16 (br (uR hi && uR lo && uR h && decide (hi < h)) (br (decide (g = 0)) none (br (decide (h = 0)) none
    (br (uR (wu (d.tdiv g)) && uR (wu (e.tdiv h))) (br (decide (wu (d.tdiv g) * wu (e.tdiv h) / 18446744073709551616 > 0)) adE16 (adT3 neg (wd hi lo / h) (wu (d.tdiv g) * wu (e.tdiv h) % 18446744073709551616))) none))) none)
def adT1 (d e g : Int) (neg : Bool) (hi lo : Int) : Option (List D) :=
  br (uR hi && uR lo && uR g && decide (0 < g)) (br (uR (wd hi lo % g) && uR g) (adT2 d e g neg hi lo (gcdI (wd hi lo % g) g)) none) none
def adT0 (d e g : Int) (neg : Bool) (hi lo : Int) : Option (List D) := br (hi == 0) (br (lo == 0) adZ (adT1 d e g neg hi lo)) (adT1 d e g neg hi lo)
def adSub (d e g : Int) (neg : Bool) (xh xl yh yl : Int) : Option (List D) :=
  br (uR xl && uR yl && (decide ((0 : Int) ≤ 0) && decide ((0 : Int) ≤ 1))) (br (uR xh && uR yh && (decide (0 ≤ bor xl (yl + 0)) && decide (bor xl (yl + 0) ≤ 1)))
    (adT0 d e g neg ((xh - yh - bor xl (yl + 0)) % 18446744073709551616) ((xl - yl - 0) % 18446744073709551616)) none) none
def adMain (n d m e g xh xl yh yl : Int) : Option (List D) :=
  br (decide (n < 0) == decide (m < 0))
    (br (uR xl && uR yl && (decide ((0 : Int) ≤ 0) && decide ((0 : Int) ≤ 1))) (br (uR xh && uR yh && (decide (0 ≤ (xl + yl + 0) / 18446744073709551616) && decide ((xl + yl + 0) / 18446744073709551616 ≤ 1)))
      (adT0 d e g (decide (n < 0)) ((xh + yh + (xl + yl + 0) / 18446744073709551616) % 18446744073709551616) ((xl + yl + 0) % 18446744073709551616)) none) none)
    (br (decide (xh < yh)) (adSub d e g (!decide (n < 0)) yh yl xh xl) (br (xh == yh) (br (decide (xl < yl)) (adSub d e g (!decide (n < 0)) yh yl xh xl) (adSub d e g (decide (n < 0)) xh xl yh yl)) (adSub d e g (decide (n < 0)) xh xl yh yl)))
def adG (n m d e g : Int) (k : Int → Int → Option (List D)) : Option (List D) :=
  br (uR d && uR e) (br (iR n) (br (decide (g = 0)) none (br (uR (absI n) && uR (wu (e.tdiv g))) (br (iR m) (br (decide (g = 0)) none (br (uR (absI m) && uR (wu (d.tdiv g))) (k (absI n * wu (e.tdiv g)) (absI m * wu (d.tdiv g))) none)) none) none)) none) none
def adP (n d m e : Int) : Option (List D) :=
  br (iR n && iR d && iR m && iR e) (br (chk2 n d m e != 0) (some [.agg [.v (i64 0), .v (i64 0)], .v (i64 (chk2 n d m e))])
    (adG n m (wu d) (wu e) (gcdI (wu d) (wu e)) fun x y => adMain n (wu d) m (wu e) (gcdI (wu d) (wu e)) (x / 18446744073709551616) (x % 18446744073709551616) (y / 18446744073709551616) (y % 18446744073709551616))) none
set_option maxRecDepth 100000 in
theorem taddp (n d m e : Int) : evF C12 6 16 [.agg [.v (i64 n), .v (i64 d)], .agg [.v (i64 m), .v (i64 e)]] = adP n d m e := by kernel_rfl
/-- The same of the reference. -/
def arT2 (d e g : Int) (neg : Bool) (Q P : Int) : Option (List D) :=
  br (uR (Q / 18446744073709551616) && uR (Q % 18446744073709551616) && uR (P / 18446744073709551616) && uR (P % 18446744073709551616))
    (some [.agg [.v (i64 (mkN neg (Q / 18446744073709551616 * 18446744073709551616 + Q % 18446744073709551616) (P / 18446744073709551616 * 18446744073709551616 + P % 18446744073709551616))), .v (i64 (mkD (Q / 18446744073709551616 * 18446744073709551616 + Q % 18446744073709551616) (P / 18446744073709551616 * 18446744073709551616 + P % 18446744073709551616)))], .v (i64 (mkE (Q / 18446744073709551616 * 18446744073709551616 + Q % 18446744073709551616) (P / 18446744073709551616 * 18446744073709551616 + P % 18446744073709551616)))]) none
def arT1 (d e g : Int) (neg : Bool) (hi lo h : Int) : Option (List D) :=
  br (uR hi && uR lo && (decide (0 < h) && decide (h < 9223372036854775808))) (br (decide (g = 0)) none (br (decide (h = 0)) none (br (uR (wu (d.tdiv g)) && uR (wu (e.tdiv h))) (arT2 d e g neg (wd hi lo / h) (wu (d.tdiv g) * wu (e.tdiv h))) none))) none
def arT0 (d e g : Int) (neg : Bool) (T : Int) : Option (List D) :=
  br (T / 18446744073709551616 == 0 && (T % 18446744073709551616 == 0 && true)) adZ
    (br (uR (T / 18446744073709551616) && uR (T % 18446744073709551616) && (decide (0 < g) && decide (g < 9223372036854775808)))
      (br (uR (wd (T / 18446744073709551616) (T % 18446744073709551616) % g) && uR g) (arT1 d e g neg (T / 18446744073709551616) (T % 18446744073709551616) (gcdI (wd (T / 18446744073709551616) (T % 18446744073709551616) % g) g)) none) none)
def arMain (n d m e g xh xl yh yl : Int) : Option (List D) :=
  br (uR xh && uR xl && uR yh && uR yl && decide (wd xh xl + wd yh yl < 340282366920938463463374607431768211456))
    (br (!decide (n < 0) == decide (m < 0))
      (br (uR xh && uR xl && uR yh && uR yl) (br (uR xh && uR xl && uR yh && uR yl) (br (decide (wd xh xl < wd yh yl))
        (br (uR yh && uR yl && uR xh && uR xl) (arT0 d e g (decide (m < 0)) ((wd yh yl - wd xh xl) % 340282366920938463463374607431768211456)) none)
        (arT0 d e g (decide (n < 0)) ((wd xh xl - wd yh yl) % 340282366920938463463374607431768211456))) none) none)
      (arT0 d e g (decide (n < 0)) (wd xh xl + wd yh yl))) none
def adR (n d m e : Int) : Option (List D) :=
  br (iR n && iR d && iR m && iR e) (br (chk2 n d m e != 0) (br (iR n && iR d && iR m && iR e) (some [.agg [.v (i64 0), .v (i64 0)], .v (i64 (chk2 n d m e))]) none)
    (adG n m (wu d) (wu e) (gcdI (wu d) (wu e)) fun x y => arMain n (wu d) m (wu e) (gcdI (wu d) (wu e)) (x / 18446744073709551616) (x % 18446744073709551616) (y / 18446744073709551616) (y % 18446744073709551616))) none
set_option maxRecDepth 100000 in
theorem taddr (n d m e : Int) : evF C12 6 32 [.agg [.v (i64 n), .v (i64 d)], .agg [.v (i64 m), .v (i64 e)]] = adR n d m e := by kernel_rfl
end Go.Proofs.YtofkkhdmjllcfaaDoor
namespace Go.Proofs.YtofkkhdmjllcfaaDoor
open Go.Ev
set_option linter.all false
theorem gcdI_emod (A g : Int) (hA : 0 ≤ A) (hg : 0 < g) : gcdI (A % g) g = gcdI A g := by
  obtain ⟨a, rfl⟩ := Int.eq_ofNat_of_zero_le hA
  obtain ⟨b, rfl⟩ := Int.eq_ofNat_of_zero_le (Int.le_of_lt hg)
  unfold gcdI
  rw [← Int.natCast_emod, Int.toNat_natCast, Int.toNat_natCast, Int.toNat_natCast, Nat.gcd_comm, Nat.gcd_comm a b, Nat.gcd_rec b a, Nat.gcd_comm]
theorem gcdI_le (a b : Int) (hb : 0 < b) : gcdI a b ≤ b := Int.le_of_dvd hb (gcdI_dvd2 a b (Int.le_of_lt hb))
def fin (neg : Bool) (A d e : Int) : Option (List D) := if A = 0 then adZ else some [.agg [.v (i64 (mkN neg (A / gcdI A (gcdI d e)) (d / gcdI d e * (e / gcdI A (gcdI d e))))), .v (i64 (mkD (A / gcdI A (gcdI d e)) (d / gcdI d e * (e / gcdI A (gcdI d e)))))], .v (i64 (mkE (A / gcdI A (gcdI d e)) (d / gcdI d e * (e / gcdI A (gcdI d e)))))]
theorem fin_bad {neg : Bool} {A d e : Int} (hA : A ≠ 0) (h : 1000000000000000000 < A / gcdI A (gcdI d e) ∨ 1000000000000000000 < d / gcdI d e * (e / gcdI A (gcdI d e))) : fin neg A d e = adE16 := by
  unfold fin
  obtain ⟨z1, z2, z3⟩ := mk_bad h neg
  rw [if_neg hA, z1, z2, z3]
  rfl
theorem wd_parts (A : Int) : wd (A / 18446744073709551616) (A % 18446744073709551616) = A := by unfold wd; omega
/-- Facts of the denominators. -/
theorem ad_facts {A d e : Int} (hA : 0 ≤ A) (hd : 1 ≤ d ∧ d ≤ 1000000000000000000) (he : 1 ≤ e ∧ e ≤ 1000000000000000000) :
    (0 < gcdI d e ∧ gcdI d e ≤ 1000000000000000000) ∧ (0 < gcdI A (gcdI d e) ∧ gcdI A (gcdI d e) ≤ 1000000000000000000) ∧ wu (d.tdiv (gcdI d e)) = d / gcdI d e ∧ wu (e.tdiv (gcdI d e)) = e / gcdI d e ∧ wu (e.tdiv (gcdI A (gcdI d e))) = e / gcdI A (gcdI d e) ∧
      (0 ≤ d / gcdI d e ∧ d / gcdI d e ≤ 1000000000000000000) ∧ (0 ≤ e / gcdI d e ∧ e / gcdI d e ≤ 1000000000000000000) ∧ (0 ≤ e / gcdI A (gcdI d e) ∧ e / gcdI A (gcdI d e) ≤ 1000000000000000000) ∧ gcdI (A % gcdI d e) (gcdI d e) = gcdI A (gcdI d e) := by
  have g1 := gcdI_pos d e (by omega) (by omega)
  have g2 := gcdI_le d e (by omega)
  have h1 := gcdI_pos A (gcdI d e) hA g1
  have h2 := gcdI_le A (gcdI d e) g1
  obtain ⟨p1, p2, p3, p4⟩ := quo d _ (by omega) (by omega) g1
  obtain ⟨q1, q2, q3, q4⟩ := quo e _ (by omega) (by omega) g1
  obtain ⟨r1, r2, r3, r4⟩ := quo e _ (by omega) (by omega) h1
  exact ⟨⟨g1, by omega⟩, ⟨h1, by omega⟩, p1, q1, r1, ⟨p2, by omega⟩, ⟨q2, by omega⟩, ⟨r2, by omega⟩, gcdI_emod A _ hA g1⟩
theorem adT1_eq {A d e : Int} (neg : Bool) (hA : 0 < A ∧ A < 340282366920938463463374607431768211456) (hd : 1 ≤ d ∧ d ≤ 1000000000000000000) (he : 1 ≤ e ∧ e ≤ 1000000000000000000) :
    adT1 d e (gcdI d e) neg (A / 18446744073709551616) (A % 18446744073709551616) = fin neg A d e := by
  obtain ⟨⟨g1, g2⟩, ⟨h1, h2⟩, p1, p2, p3, ⟨b1, b2⟩, _, ⟨c1, c2⟩, hh⟩ := ad_facts (A := A) (by omega) hd he
  unfold adT1
  have e1 := Int.emod_nonneg A (show gcdI d e ≠ 0 by omega)
  have e2 := Int.emod_lt_of_pos A g1
  rw [wd_parts, hh, show (uR (A / 18446744073709551616) && uR (A % 18446744073709551616) && uR (gcdI d e) && decide (0 < gcdI d e)) = true by simp only [Bool.and_eq_true, uR_iff, decide_eq_true_eq]; omega,
    show (uR (A % gcdI d e) && uR (gcdI d e)) = true by simp only [Bool.and_eq_true, uR_iff]; omega, br_true, br_true]
  unfold adT2
  rw [wd_parts, p1, p3]
  obtain ⟨x1, x2⟩ := mul_most b1 b2 c1 c2
  have hle : ∀ t, t ≤ A / gcdI A (gcdI d e) ↔ t * gcdI A (gcdI d e) ≤ A := fun t => Int.le_ediv_iff_mul_le h1
  have hlt : ∀ t, A / gcdI A (gcdI d e) < t ↔ A < t * gcdI A (gcdI d e) := fun t => Int.ediv_lt_iff_lt_mul h1
  by_cases hb : A / 18446744073709551616 ≥ gcdI A (gcdI d e)
  · rw [decide_eq_true hb, br_true, fin_bad (by omega) (.inl (by have := (hle 18446744073709551616).mpr (by omega); omega))]
  · have hN := (hlt 18446744073709551616).mpr (by omega)
    have hN0 := Int.ediv_nonneg (show 0 ≤ A by omega) (Int.le_of_lt h1)
    rw [decide_eq_false hb, br_false, show (uR (A / 18446744073709551616) && uR (A % 18446744073709551616) && uR (gcdI A (gcdI d e)) && decide (A / 18446744073709551616 < gcdI A (gcdI d e))) = true by simp only [Bool.and_eq_true, uR_iff, decide_eq_true_eq]; omega,
      br_true, decide_eq_false (show ¬ gcdI d e = 0 by omega), br_false, decide_eq_false (show ¬ gcdI A (gcdI d e) = 0 by omega), br_false, show (uR (d / gcdI d e) && uR (e / gcdI A (gcdI d e))) = true by simp only [Bool.and_eq_true, uR_iff]; omega, br_true]
    by_cases ho : d / gcdI d e * (e / gcdI A (gcdI d e)) / 18446744073709551616 > 0
    · rw [decide_eq_true ho, br_true, fin_bad (by omega) (.inr (by omega))]
    · rw [decide_eq_false ho, br_false, show d / gcdI d e * (e / gcdI A (gcdI d e)) % 18446744073709551616 = d / gcdI d e * (e / gcdI A (gcdI d e)) by omega]
      unfold adT3 fin
      rw [if_neg (by omega), show (uR (A / gcdI A (gcdI d e)) && uR (d / gcdI d e * (e / gcdI A (gcdI d e)))) = true by simp only [Bool.and_eq_true, uR_iff]; omega, br_true]
theorem adT0_eq {A d e : Int} (neg : Bool) (hA : 0 ≤ A ∧ A < 340282366920938463463374607431768211456) (hd : 1 ≤ d ∧ d ≤ 1000000000000000000) (he : 1 ≤ e ∧ e ≤ 1000000000000000000) :
    adT0 d e (gcdI d e) neg (A / 18446744073709551616) (A % 18446744073709551616) = fin neg A d e := by
  unfold adT0
  by_cases h0 : A = 0
  · subst h0
    unfold fin
    rw [if_pos rfl]
    rfl
  · rw [adT1_eq neg (by omega) hd he]
    by_cases h1 : A / 18446744073709551616 = 0
    · rw [show (A / 18446744073709551616 == 0) = true by simpa using h1, br_true, show (A % 18446744073709551616 == 0) = false from beq_eq_false_iff_ne.mpr (by omega), br_false]
    · rw [show (A / 18446744073709551616 == 0) = false by simpa using h1, br_false]
theorem arT0_eq {A d e : Int} (neg : Bool) (hA : 0 ≤ A ∧ A < 340282366920938463463374607431768211456) (hd : 1 ≤ d ∧ d ≤ 1000000000000000000) (he : 1 ≤ e ∧ e ≤ 1000000000000000000) :
    arT0 d e (gcdI d e) neg A = fin neg A d e := by
  unfold arT0
  by_cases h0 : A = 0
  · subst h0
    unfold fin
    rw [if_pos rfl]
    rfl
  · obtain ⟨⟨g1, g2⟩, ⟨h1, h2⟩, p1, p2, p3, ⟨b1, b2⟩, _, ⟨c1, c2⟩, hh⟩ := ad_facts (A := A) (by omega) hd he
    have e1 := Int.emod_nonneg A (show gcdI d e ≠ 0 by omega)
    have e2 := Int.emod_lt_of_pos A g1
    rw [show (A / 18446744073709551616 == 0 && (A % 18446744073709551616 == 0 && true)) = false by
        rw [Bool.and_true]
        cases hx : (A / 18446744073709551616 == 0) <;> cases hy : (A % 18446744073709551616 == 0) <;> simp_all <;> omega, br_false]
    rw [wd_parts, hh, show (uR (A / 18446744073709551616) && uR (A % 18446744073709551616) && (decide (0 < gcdI d e) && decide (gcdI d e < 9223372036854775808))) = true by simp only [Bool.and_eq_true, uR_iff, decide_eq_true_eq]; omega,
      show (uR (A % gcdI d e) && uR (gcdI d e)) = true by simp only [Bool.and_eq_true, uR_iff]; omega, br_true, br_true]
    unfold arT1
    rw [wd_parts, p1, p3, show (uR (A / 18446744073709551616) && uR (A % 18446744073709551616) && (decide (0 < gcdI A (gcdI d e)) && decide (gcdI A (gcdI d e) < 9223372036854775808))) = true by simp only [Bool.and_eq_true, uR_iff, decide_eq_true_eq]; omega,
      br_true, decide_eq_false (show ¬ gcdI d e = 0 by omega), br_false, decide_eq_false (show ¬ gcdI A (gcdI d e) = 0 by omega), br_false, show (uR (d / gcdI d e) && uR (e / gcdI A (gcdI d e))) = true by simp only [Bool.and_eq_true, uR_iff]; omega, br_true]
    obtain ⟨x1, x2⟩ := mul_most b1 b2 c1 c2
    have hN0 := Int.ediv_nonneg (show 0 ≤ A by omega) (Int.le_of_lt h1)
    have hN1 := Int.ediv_le_self (gcdI A (gcdI d e)) (show 0 ≤ A by omega)
    unfold fin
    rw [if_neg h0]
    generalize A / gcdI A (gcdI d e) = N at *
    generalize d / gcdI d e * (e / gcdI A (gcdI d e)) = M at *
    unfold arT2
    rw [show N / 18446744073709551616 * 18446744073709551616 + N % 18446744073709551616 = N by omega, show M / 18446744073709551616 * 18446744073709551616 + M % 18446744073709551616 = M by omega,
      show (uR (N / 18446744073709551616) && uR (N % 18446744073709551616) && uR (M / 18446744073709551616) && uR (M % 18446744073709551616)) = true by simp only [Bool.and_eq_true, uR_iff]; omega, br_true]
def adX (n d e : Int) : Int := absI n * (e / gcdI d e)
def adY (m d e : Int) : Int := absI m * (d / gcdI d e)
/-- The sum's numerator over the least common denominator: its size, and its sign. -/
def adA (n d m e : Int) : Int := if decide (n < 0) = decide (m < 0) then adX n d e + adY m d e else if adX n d e < adY m d e then adY m d e - adX n d e else adX n d e - adY m d e
def adNg (n d m e : Int) : Bool := if decide (n < 0) = decide (m < 0) then decide (n < 0) else if adX n d e < adY m d e then !decide (n < 0) else decide (n < 0)
def adN (n d m e : Int) : Int := if chk2 n d m e = 0 then (if adA n d m e = 0 then 0 else mkN (adNg n d m e) (adA n d m e / gcdI (adA n d m e) (gcdI d e)) (d / gcdI d e * (e / gcdI (adA n d m e) (gcdI d e)))) else 0
def adD (n d m e : Int) : Int := if chk2 n d m e = 0 then (if adA n d m e = 0 then 1 else mkD (adA n d m e / gcdI (adA n d m e) (gcdI d e)) (d / gcdI d e * (e / gcdI (adA n d m e) (gcdI d e)))) else 0
def adE (n d m e : Int) : Int := if chk2 n d m e = 0 then (if adA n d m e = 0 then 0 else mkE (adA n d m e / gcdI (adA n d m e) (gcdI d e)) (d / gcdI d e * (e / gcdI (adA n d m e) (gcdI d e)))) else chk2 n d m e
def Fadd : List D → Option (Bool × List D)
  | [.agg [.v (.int .i64 n), .v (.int .i64 d)], .agg [.v (.int .i64 m), .v (.int .i64 e)]] => some (iR n && iR d && iR m && iR e, [.agg [.v (i64 (adN n d m e)), .v (i64 (adD n d m e))], .v (i64 (adE n d m e))])
  | _ => none
theorem ad_fin {n d m e : Int} (hc : chk2 n d m e = 0) : fin (adNg n d m e) (adA n d m e) d e = some [.agg [.v (i64 (adN n d m e)), .v (i64 (adD n d m e))], .v (i64 (adE n d m e))] := by
  unfold fin adN adD adE
  rw [if_pos hc, if_pos hc, if_pos hc]
  by_cases h : adA n d m e = 0
  · rw [if_pos h, if_pos h, if_pos h, if_pos h]; rfl
  · rw [if_neg h, if_neg h, if_neg h, if_neg h]
theorem ad_err {n d m e : Int} (hc : chk2 n d m e ≠ 0) : (some [.agg [.v (i64 0), .v (i64 0)], .v (i64 (chk2 n d m e))] : Option (List D)) = some [.agg [.v (i64 (adN n d m e)), .v (i64 (adD n d m e))], .v (i64 (adE n d m e))] := by
  unfold adN adD adE
  rw [if_neg hc, if_neg hc, if_neg hc]
theorem ad_bounds {n d m e : Int} (hc : chk2 n d m e = 0) : (1 ≤ d ∧ d ≤ 1000000000000000000) ∧ (1 ≤ e ∧ e ≤ 1000000000000000000) ∧ (0 ≤ absI n ∧ absI n ≤ 1000000000000000000) ∧ (0 ≤ absI m ∧ absI m ≤ 1000000000000000000) ∧
    (0 ≤ adX n d e ∧ adX n d e ≤ 1000000000000000000000000000000000000) ∧ (0 ≤ adY m d e ∧ adY m d e ≤ 1000000000000000000000000000000000000) ∧ iR n = true ∧ iR m = true := by
  obtain ⟨⟨⟨d1, d2⟩, ⟨n1, n2⟩, _⟩, ⟨e1, e2⟩, ⟨m1, m2⟩, _⟩ := chk2_good hc
  have ⟨a1, a0⟩ := absI_or n
  have ⟨b1, b0⟩ := absI_or m
  obtain ⟨_, _, _, _, _, ⟨p1, p2⟩, ⟨q1, q2⟩, _, _⟩ := ad_facts (A := 0) (by omega) ⟨d1, d2⟩ ⟨e1, e2⟩
  exact ⟨⟨d1, d2⟩, ⟨e1, e2⟩, ⟨a1, by omega⟩, ⟨b1, by omega⟩, mul_most a1 (by omega) q1 q2, mul_most b1 (by omega) p1 p2, iR_iff.mpr (by omega), iR_iff.mpr (by omega)⟩
theorem adG_eq {n d m e : Int} (hc : chk2 n d m e = 0) (k : Int → Int → Option (List D)) : adG n m d e (gcdI d e) k = k (adX n d e) (adY m d e) := by
  obtain ⟨⟨d1, d2⟩, ⟨e1, e2⟩, ⟨n1, n2⟩, ⟨m1, m2⟩, _, _, h7, h8⟩ := ad_bounds hc
  obtain ⟨⟨g1, g2⟩, _, f1, f2, _, ⟨p1, p2⟩, ⟨q1, q2⟩, _, _⟩ := ad_facts (A := 0) (by omega) ⟨d1, d2⟩ ⟨e1, e2⟩
  unfold adG adX adY
  rw [f1, f2, show (uR d && uR e) = true by simp only [Bool.and_eq_true, uR_iff]; omega, br_true, h7, br_true, decide_eq_false (show ¬ gcdI d e = 0 by omega), br_false, show (uR (absI n) && uR (e / gcdI d e)) = true by simp only [Bool.and_eq_true, uR_iff]; omega, br_true,
    h8, br_true, br_false, show (uR (absI m) && uR (d / gcdI d e)) = true by simp only [Bool.and_eq_true, uR_iff]; omega, br_true]
theorem adSub_eq {A d e x y : Int} (neg : Bool) (hx : 0 ≤ x ∧ x ≤ 1000000000000000000000000000000000000) (hy : 0 ≤ y ∧ y ≤ x) (hd : 1 ≤ d ∧ d ≤ 1000000000000000000) (he : 1 ≤ e ∧ e ≤ 1000000000000000000) :
    adSub d e (gcdI d e) neg (x / 18446744073709551616) (x % 18446744073709551616) (y / 18446744073709551616) (y % 18446744073709551616) = fin neg (x - y) d e := by
  unfold adSub
  have hb : bor (x % 18446744073709551616) (y % 18446744073709551616 + 0) = 0 ∧ ¬ x % 18446744073709551616 < y % 18446744073709551616 ∨ bor (x % 18446744073709551616) (y % 18446744073709551616 + 0) = 1 ∧ x % 18446744073709551616 < y % 18446744073709551616 := by
    unfold bor
    split
    · exact .inr ⟨rfl, by omega⟩
    · exact .inl ⟨rfl, by omega⟩
  generalize bor (x % 18446744073709551616) (y % 18446744073709551616 + 0) = b at *
  rw [show (x / 18446744073709551616 - y / 18446744073709551616 - b) % 18446744073709551616 = (x - y) / 18446744073709551616 by omega, show (x % 18446744073709551616 - y % 18446744073709551616 - 0) % 18446744073709551616 = (x - y) % 18446744073709551616 by omega,
    adT0_eq neg (by omega) hd he, show (uR (x % 18446744073709551616) && uR (y % 18446744073709551616) && (decide ((0 : Int) ≤ 0) && decide ((0 : Int) ≤ 1))) = true by simp only [Bool.and_eq_true, uR_iff, decide_eq_true_eq]; omega, br_true,
    show (uR (x / 18446744073709551616) && uR (y / 18446744073709551616) && (decide (0 ≤ b) && decide (b ≤ 1))) = true by simp only [Bool.and_eq_true, uR_iff, decide_eq_true_eq]; omega, br_true]
theorem adMain_eq {n d m e : Int} (hc : chk2 n d m e = 0) : adMain n d m e (gcdI d e) (adX n d e / 18446744073709551616) (adX n d e % 18446744073709551616) (adY m d e / 18446744073709551616) (adY m d e % 18446744073709551616) = fin (adNg n d m e) (adA n d m e) d e := by
  obtain ⟨hd, he, _, _, hx, hy, _, _⟩ := ad_bounds hc
  unfold adMain adNg adA
  generalize adX n d e = x at *
  generalize adY m d e = y at *
  by_cases hs : decide (n < 0) = decide (m < 0)
  · rw [if_pos hs, if_pos hs, show (decide (n < 0) == decide (m < 0)) = true by simpa using hs, br_true, show (x / 18446744073709551616 + y / 18446744073709551616 + (x % 18446744073709551616 + y % 18446744073709551616 + 0) / 18446744073709551616) % 18446744073709551616 = (x + y) / 18446744073709551616 by omega,
      show (x % 18446744073709551616 + y % 18446744073709551616 + 0) % 18446744073709551616 = (x + y) % 18446744073709551616 by omega, adT0_eq _ (by omega) hd he,
      show (uR (x % 18446744073709551616) && uR (y % 18446744073709551616) && (decide ((0 : Int) ≤ 0) && decide ((0 : Int) ≤ 1))) = true by simp only [Bool.and_eq_true, uR_iff, decide_eq_true_eq]; omega, br_true,
      show (uR (x / 18446744073709551616) && uR (y / 18446744073709551616) && (decide (0 ≤ (x % 18446744073709551616 + y % 18446744073709551616 + 0) / 18446744073709551616) && decide ((x % 18446744073709551616 + y % 18446744073709551616 + 0) / 18446744073709551616 ≤ 1))) = true by simp only [Bool.and_eq_true, uR_iff, decide_eq_true_eq]; omega, br_true]
  · rw [if_neg hs, if_neg hs, show (decide (n < 0) == decide (m < 0)) = false by simpa using hs, br_false]
    by_cases hxy : x < y
    · rw [if_pos hxy, if_pos hxy, adSub_eq (A := 0) _ hy (by omega) hd he]
      refine br_splitP (fun _ => rfl) (fun h1 => br_split (fun h2 => br_splitP (fun _ => rfl) (fun h3 => ?_)) (fun h2 => ?_))
      · have h2 : x / 18446744073709551616 = y / 18446744073709551616 := by simpa using h2
        omega
      · have h2 : x / 18446744073709551616 ≠ y / 18446744073709551616 := by simpa using h2
        omega
    · rw [if_neg hxy, if_neg hxy, adSub_eq (A := 0) _ hx (by omega) hd he]
      refine br_splitP (fun h1 => ?_) (fun h1 => br_split (fun h2 => br_splitP (fun h3 => ?_) (fun h3 => rfl)) (fun h2 => rfl))
      · omega
      · have h2 : x / 18446744073709551616 = y / 18446744073709551616 := by simpa using h2
        omega
theorem arMain_eq {n d m e : Int} (hc : chk2 n d m e = 0) : arMain n d m e (gcdI d e) (adX n d e / 18446744073709551616) (adX n d e % 18446744073709551616) (adY m d e / 18446744073709551616) (adY m d e % 18446744073709551616) = fin (adNg n d m e) (adA n d m e) d e := by
  obtain ⟨hd, he, _, _, hx, hy, _, _⟩ := ad_bounds hc
  unfold arMain adNg adA
  generalize adX n d e = x at *
  generalize adY m d e = y at *
  rw [wd_parts, wd_parts, show (uR (x / 18446744073709551616) && uR (x % 18446744073709551616) && uR (y / 18446744073709551616) && uR (y % 18446744073709551616)) = true by simp only [Bool.and_eq_true, uR_iff]; omega,
    show (uR (y / 18446744073709551616) && uR (y % 18446744073709551616) && uR (x / 18446744073709551616) && uR (x % 18446744073709551616)) = true by simp only [Bool.and_eq_true, uR_iff]; omega,
    decide_eq_true (show x + y < 340282366920938463463374607431768211456 by omega), Bool.and_true, br_true, br_true, br_true, br_true, arT0_eq (A := x + y) _ (by omega) hd he]
  by_cases hs : decide (n < 0) = decide (m < 0)
  · rw [if_pos hs, if_pos hs, show (!decide (n < 0) == decide (m < 0)) = false by rw [hs]; cases decide (m < 0) <;> rfl, br_false]
  · rw [if_neg hs, if_neg hs, show (!decide (n < 0) == decide (m < 0)) = true by revert hs; cases decide (n < 0) <;> cases decide (m < 0) <;> simp, br_true]
    by_cases hxy : x < y
    · rw [if_pos hxy, if_pos hxy, decide_eq_true hxy, br_true, show (y - x) % 340282366920938463463374607431768211456 = y - x by omega, arT0_eq _ (by omega) hd he, show decide (m < 0) = !decide (n < 0) by revert hs; cases decide (n < 0) <;> cases decide (m < 0) <;> simp]
    · rw [if_neg hxy, if_neg hxy, decide_eq_false hxy, br_false, show (x - y) % 340282366920938463463374607431768211456 = x - y by omega, arT0_eq _ (by omega) hd he]
theorem den_addp : Den Tryd.prog 16 Fadd := evF_den C12_ok fun ds rs h => by
  unfold Fadd at h
  split at h
  · rename_i n d m e
    simp only [Option.some.injEq, Prod.mk.injEq] at h
    obtain ⟨h0, rfl⟩ := h
    refine (taddp n d m e).trans ?_
    unfold adP
    rw [h0, br_true]
    by_cases hc : chk2 n d m e = 0
    · obtain ⟨hd, he, _, _, _, _, _, _⟩ := ad_bounds hc
      rw [show (chk2 n d m e != 0) = false by simpa using hc, br_false, show wu d = d from wrapU_id (by omega) (by omega), show wu e = e from wrapU_id (by omega) (by omega), adG_eq hc, adMain_eq hc, ad_fin hc]
    · rw [show (chk2 n d m e != 0) = true by simpa using hc, br_true, ad_err hc]
  · cases h
theorem den_addr : Den Tryd.prog 32 Fadd := evF_den C12_ok fun ds rs h => by
  unfold Fadd at h
  split at h
  · rename_i n d m e
    simp only [Option.some.injEq, Prod.mk.injEq] at h
    obtain ⟨h0, rfl⟩ := h
    refine (taddr n d m e).trans ?_
    unfold adR
    rw [h0, br_true, br_true]
    by_cases hc : chk2 n d m e = 0
    · obtain ⟨hd, he, _, _, _, _, _, _⟩ := ad_bounds hc
      rw [show (chk2 n d m e != 0) = false by simpa using hc, br_false, show wu d = d from wrapU_id (by omega) (by omega), show wu e = e from wrapU_id (by omega) (by omega), adG_eq hc, arMain_eq hc, ad_fin hc]
    · rw [show (chk2 n d m e != 0) = true by simpa using hc, br_true, ad_err hc]
  · cases h
end Go.Proofs.YtofkkhdmjllcfaaDoor
namespace Go.Proofs.YtofkkhdmjllcfaaDoor
open Go.Ev
set_option linter.all false
def Fneg : List D → Option (Bool × List D)
  | [.agg [.v (.int .i64 a), .v (.int .i64 b)]] => some (true, [.agg [.v (i64 (IntKind.i64.wrap (0 - a))), .v (i64 b)]])
  | _ => none
/-- Less, of ratios whose denominators are numbers of a ratio. -/
def Flessr : List D → Option (Bool × List D)
  | [.agg [.v (.int .i64 n), .v (.int .i64 d)], .agg [.v (.int .i64 m), .v (.int .i64 e)]] => some (iR n && iR m && (inB d 1 1000000000000000000 && inB e 1 1000000000000000000), [.v (.bool (decide (n * e < m * d)))])
  | _ => none
theorem abs_mul (n e : Int) : absI n * e = if n < 0 then -(n * e) else n * e := by
  unfold absI
  split
  · rw [Int.neg_mul]
  · rfl
noncomputable def C13 : Cx := mkCx Tryd.prog fns [(34, Fboth), (33, Fboth), (16, Fadd), (32, Fadd)] []
theorem C13_ok : CxOk C13 := mkCx_ok enter mixed (fun p h => by
  simp only [List.mem_cons, List.not_mem_nil, or_false] at h
  rcases h with rfl | rfl | rfl | rfl
  · exact den_check
  · exact den_both
  · exact den_addp
  · exact den_addr) (fun l h => by cases h)
theorem tsubp (n d m e : Int) : evF C13 6 18 [.agg [.v (i64 n), .v (i64 d)], .agg [.v (i64 m), .v (i64 e)]] =
    br (iR n && iR d && iR m && iR e) (br (chk2 n d m e != 0) (some [.agg [.v (i64 (0)), .v (i64 (0))], .v (i64 (chk2 n d m e))]) (br (iR n && iR d && iR (IntKind.i64.wrap (0 - m)) && iR e) (some [.agg [.v (i64 (adN n d (IntKind.i64.wrap (0 - m)) e)), .v (i64 (adD n d (IntKind.i64.wrap (0 - m)) e))], .v (i64 (adE n d (IntKind.i64.wrap (0 - m)) e))]) (none))) (none) := by kernel_rfl
end Go.Proofs.YtofkkhdmjllcfaaDoor
namespace Go.Proofs.YtofkkhdmjllcfaaDoor
open Go.Ev
set_option linter.all false
def sbN (n d m e : Int) : Int := if chk2 n d m e = 0 then adN n d (-m) e else 0
def sbD (n d m e : Int) : Int := if chk2 n d m e = 0 then adD n d (-m) e else 0
def sbE (n d m e : Int) : Int := if chk2 n d m e = 0 then adE n d (-m) e else chk2 n d m e
def Fsub : List D → Option (Bool × List D)
  | [.agg [.v (.int .i64 n), .v (.int .i64 d)], .agg [.v (.int .i64 m), .v (.int .i64 e)]] => some (iR n && iR d && iR m && iR e, [.agg [.v (i64 (sbN n d m e)), .v (i64 (sbD n d m e))], .v (i64 (sbE n d m e))])
  | _ => none
def cpC (n d m e : Int) : Int := if chk2 n d m e = 0 then cmpI (n * e) (m * d) else 0
def Fcmp : List D → Option (Bool × List D)
  | [.agg [.v (.int .i64 n), .v (.int .i64 d)], .agg [.v (.int .i64 m), .v (.int .i64 e)]] => some (iR n && iR d && iR m && iR e, [.v (i64 (cpC n d m e)), .v (i64 (chk2 n d m e))])
  | _ => none
theorem den_subp : Den Tryd.prog 18 Fsub := evF_den C13_ok fun ds rs h => by
  unfold Fsub at h
  split at h
  · rename_i n d m e
    simp only [Option.some.injEq, Prod.mk.injEq] at h
    obtain ⟨h0, rfl⟩ := h
    refine (tsubp n d m e).trans ?_
    unfold sbN sbD sbE
    rw [h0, br_true]
    simp only [Bool.and_eq_true] at h0
    obtain ⟨⟨⟨h1, h2⟩, h3⟩, h4⟩ := h0
    by_cases hc : chk2 n d m e = 0
    · obtain ⟨_, _, ⟨m1, m2⟩, _⟩ := chk2_good hc
      rw [show (chk2 n d m e != 0) = false by simpa using hc, br_false, if_pos hc, if_pos hc, if_pos hc, wrapI_id (n := 0 - m) (by omega) (by omega), Int.zero_sub, show (iR n && iR d && iR (-m) && iR e) = true by
        simp only [Bool.and_eq_true]
        exact ⟨⟨⟨h1, h2⟩, iR_iff.mpr (by omega)⟩, h4⟩, br_true]
    · rw [show (chk2 n d m e != 0) = true by simpa using hc, br_true, if_neg hc, if_neg hc, if_neg hc]
  · cases h
theorem cmpI_lt {a b : Int} (h : a < b) : cmpI a b = -1 := if_pos h
theorem cmpI_gt {a b : Int} (h : b < a) : cmpI a b = 1 := by unfold cmpI; rw [if_neg (by omega), if_pos h]
theorem cmpI_eq {a b : Int} (h : a = b) : cmpI a b = 0 := by unfold cmpI; rw [if_neg (by omega), if_neg (by omega)]
theorem cmpI_wide (x y : Int) (hx : 0 ≤ x) (hy : 0 ≤ y) : cmpI x y = if cmpI (x / 18446744073709551616) (y / 18446744073709551616) ≠ 0 then cmpI (x / 18446744073709551616) (y / 18446744073709551616) else cmpI (x % 18446744073709551616) (y % 18446744073709551616) := by
  rcases Int.lt_trichotomy (x / 18446744073709551616) (y / 18446744073709551616) with h | h | h
  · rw [cmpI_lt h, if_pos (by decide), cmpI_lt (by omega)]
  · rw [cmpI_eq h, if_neg (by simp)]
    unfold cmpI
    repeat' split
    all_goals omega
  · rw [cmpI_gt h, if_pos (by decide), cmpI_gt (by omega)]
theorem cmpI_range (x y : Int) : cmpI x y = -1 ∨ cmpI x y = 0 ∨ cmpI x y = 1 := by
  rcases Int.lt_trichotomy x y with h | h | h
  · exact .inl (cmpI_lt h)
  · exact .inr (.inl (cmpI_eq h))
  · exact .inr (.inr (cmpI_gt h))
theorem cmpI_neg (x y : Int) : cmpI (-x) (-y) = -cmpI x y := by
  rcases Int.lt_trichotomy x y with h | h | h
  · rw [cmpI_lt h, cmpI_gt (by omega)]; rfl
  · rw [cmpI_eq h, cmpI_eq (by omega)]; rfl
  · rw [cmpI_gt h, cmpI_lt (by omega)]
theorem den_cmpp : Den Tryd.prog 20 Fcmp := evF_den C12_ok fun ds rs h => by
  unfold Fcmp at h
  split at h
  · rename_i n d m e
    simp only [Option.some.injEq, Prod.mk.injEq] at h
    obtain ⟨h0, rfl⟩ := h
    refine (tcmp n d m e).trans ?_
    unfold cpC
    rw [h0, br_true]
    simp only [Bool.and_eq_true] at h0
    obtain ⟨⟨⟨h1, h2⟩, h3⟩, h4⟩ := h0
    by_cases hc : chk2 n d m e = 0
    · obtain ⟨⟨⟨d1, d2⟩, _⟩, ⟨e1, e2⟩, _⟩ := chk2_good hc
      obtain ⟨_, _, ⟨a1, a2⟩, ⟨b1, b2⟩, _⟩ := ad_bounds hc
      rw [show (chk2 n d m e != 0) = false by simpa using hc, br_false, if_pos hc, h1, h3, wrapU_id (n := d) (by omega) (by omega), wrapU_id (n := e) (by omega) (by omega),
        show (uR (absI n) && uR e) = true by simp only [Bool.and_eq_true, uR_iff]; omega, show (uR (absI m) && uR d) = true by simp only [Bool.and_eq_true, uR_iff]; omega, br_true, br_true, br_true, br_true, hc]
      have hx := abs_mul n e
      have hy := abs_mul m d
      have x0 : 0 ≤ absI n * e := Int.mul_nonneg a1 (by omega)
      have y0 : 0 ≤ absI m * d := Int.mul_nonneg b1 (by omega)
      have sx : n < 0 → n * e < 0 := fun h => Int.mul_neg_of_neg_of_pos h (by omega)
      have sx' : 0 ≤ n → 0 ≤ n * e := fun h => Int.mul_nonneg h (by omega)
      have sy : m < 0 → m * d < 0 := fun h => Int.mul_neg_of_neg_of_pos h (by omega)
      have sy' : 0 ≤ m → 0 ≤ m * d := fun h => Int.mul_nonneg h (by omega)
      have hw := cmpI_wide _ _ x0 y0
      generalize absI n * e = x at *
      generalize absI m * d = y at *
      generalize n * e = u at *
      generalize m * d = v at *
      have r1 := cmpI_range (x / 18446744073709551616) (y / 18446744073709551616)
      have r2 := cmpI_range (x % 18446744073709551616) (y % 18446744073709551616)
      generalize hp : cmpI (x / 18446744073709551616) (y / 18446744073709551616) = p at *
      generalize hq : cmpI (x % 18446744073709551616) (y % 18446744073709551616) = q at *
      rw [show (((Row.zeros 2).setI 0 0 p).setI 1 0 q).I 0 0 = p from rfl, show (((Row.zeros 2).setI 0 0 p).setI 1 0 q).I 1 0 = q from rfl, wrapI_id (n := 0 - p) (by omega) (by omega), wrapI_id (n := 0 - q) (by omega) (by omega), Int.zero_sub, Int.zero_sub]
      by_cases hs : decide (n < 0) = decide (m < 0)
      · rw [show (!decide (n < 0) == decide (m < 0)) = false by rw [hs]; cases decide (m < 0) <;> rfl, br_false]
        have hcmp : cmpI u v = if n < 0 then -cmpI x y else cmpI x y := by
          by_cases hn : n < 0
          · have hm : m < 0 := by rw [decide_eq_true hn] at hs; exact of_decide_eq_true hs.symm
            rw [if_pos hn] at hx ⊢
            rw [if_pos hm] at hy
            rw [hx, hy, cmpI_neg, Int.neg_neg]
          · have hm : ¬ m < 0 := by rw [decide_eq_false hn] at hs; exact of_decide_eq_false hs.symm
            rw [if_neg hn] at hx ⊢
            rw [if_neg hm] at hy
            rw [hx, hy]
        rw [hcmp]
        by_cases hp0 : p = 0
        · rw [show (p != 0) = false by simpa using hp0, br_false]
          rw [if_neg (fun h => h hp0)] at hw
          rw [hw]
          by_cases hq0 : q = 0
          · rw [show (q != 0) = false by simpa using hq0, br_false, hq0]
            by_cases hn : n < 0
            · rw [decide_eq_true hn, if_pos hn]; rfl
            · rw [decide_eq_false hn, if_neg hn]; rfl
          · rw [show (q != 0) = true by simpa using hq0, br_true]
            by_cases hn : n < 0
            · rw [decide_eq_true hn, if_pos hn]; rfl
            · rw [decide_eq_false hn, if_neg hn]; rfl
        · rw [show (p != 0) = true by simpa using hp0, br_true]
          rw [if_pos hp0] at hw
          rw [hw]
          by_cases hn : n < 0
          · rw [decide_eq_true hn, if_pos hn]; rfl
          · rw [decide_eq_false hn, if_neg hn]; rfl
      · rw [show (!decide (n < 0) == decide (m < 0)) = true by revert hs; cases decide (n < 0) <;> cases decide (m < 0) <;> simp, br_true]
        have hnm : (n < 0 ∧ 0 ≤ m) ∨ (0 ≤ n ∧ m < 0) := by
          by_cases hn : n < 0
          · refine .inl ⟨hn, ?_⟩
            rcases Int.lt_or_le m 0 with h | h
            · exact absurd ((decide_eq_true hn).trans (decide_eq_true h).symm) hs
            · exact h
          · refine .inr ⟨by omega, ?_⟩
            rcases Int.lt_or_le m 0 with h | h
            · exact h
            · exact absurd ((decide_eq_false hn).trans (decide_eq_false (show ¬ m < 0 by omega)).symm) hs
        rcases hnm with ⟨g1, g2⟩ | ⟨g1, g2⟩
        · have := sx g1
          have := sy' g2
          rw [cmpI_lt (show n < m by omega), cmpI_lt (show u < v by omega)]
        · have := sx' g1
          have := sy g2
          rw [cmpI_gt (show m < n by omega), cmpI_gt (show v < u by omega)]
    · rw [show (chk2 n d m e != 0) = true by simpa using hc, br_true, if_neg hc]
  · cases h
end Go.Proofs.YtofkkhdmjllcfaaDoor

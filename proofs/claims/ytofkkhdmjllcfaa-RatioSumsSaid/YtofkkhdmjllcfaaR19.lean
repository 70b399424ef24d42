/- Sums: contracts of both sides. No conditions. -/
import Derived.Test.YtofkkhdmjllcfaaR18
namespace Go.Proofs.Ytofkkhdmjllcfaa
open Go.Ev
set_option linter.all false
theorem gcdI_emod (A g : Int) (hA : 0 ≤ A) (hg : 0 < g) : gcdI (A % g) g = gcdI A g := by
  obtain ⟨a, rfl⟩ := Int.eq_ofNat_of_zero_le hA
  obtain ⟨b, rfl⟩ := Int.eq_ofNat_of_zero_le (Int.le_of_lt hg)
  unfold gcdI
  rw [← Int.natCast_emod, Int.toNat_natCast, Int.toNat_natCast, Int.toNat_natCast, Nat.gcd_comm, Nat.gcd_comm a b, Nat.gcd_rec b a, Nat.gcd_comm]
theorem gcdI_le (a b : Int) (hb : 0 < b) : gcdI a b ≤ b := Int.le_of_dvd hb (gcdI_dvd2 a b (Int.le_of_lt hb))
def fin (neg : Bool) (A d e : Int) : Option (List D) := if A = 0 then adZ else some [.agg [.v (i64 (mkN neg (A / gcdI A (gcdI d e)) (d / gcdI d e * (e / gcdI A (gcdI d e))))), .v (i64 (mkD (A / gcdI A (gcdI d e)) (d / gcdI d e * (e / gcdI A (gcdI d e)))))], .v (i64 (mkE (A / gcdI A (gcdI d e)) (d / gcdI d e * (e / gcdI A (gcdI d e)))))]
theorem fin_bad {neg : Bool} {A d e : Int} (hA : A ≠ 0) (h : 1000000000000000000 < A / gcdI A (gcdI d e) ∨ 1000000000000000000 < d / gcdI d e * (e / gcdI A (gcdI d e))) : fin neg A d e = adE16 := by
  unfold fin
  obtain ⟨z1, z2, z3⟩ := mk_bad h neg
  rw [if_neg hA, z1, z2, z3]
  rfl
theorem wd_parts (A : Int) : wd (A / 18446744073709551616) (A % 18446744073709551616) = A := by unfold wd; omega
/-- Facts of the denominators. -/
theorem ad_facts {A d e : Int} (hA : 0 ≤ A) (hd : 1 ≤ d ∧ d ≤ 1000000000000000000) (he : 1 ≤ e ∧ e ≤ 1000000000000000000) :
    (0 < gcdI d e ∧ gcdI d e ≤ 1000000000000000000) ∧ (0 < gcdI A (gcdI d e) ∧ gcdI A (gcdI d e) ≤ 1000000000000000000) ∧ wu (d.tdiv (gcdI d e)) = d / gcdI d e ∧ wu (e.tdiv (gcdI d e)) = e / gcdI d e ∧ wu (e.tdiv (gcdI A (gcdI d e))) = e / gcdI A (gcdI d e) ∧
      (0 ≤ d / gcdI d e ∧ d / gcdI d e ≤ 1000000000000000000) ∧ (0 ≤ e / gcdI d e ∧ e / gcdI d e ≤ 1000000000000000000) ∧ (0 ≤ e / gcdI A (gcdI d e) ∧ e / gcdI A (gcdI d e) ≤ 1000000000000000000) ∧ gcdI (A % gcdI d e) (gcdI d e) = gcdI A (gcdI d e) := by
  have g1 := gcdI_pos d e (by omega) (by omega)
  have g2 := gcdI_le d e (by omega)
  have h1 := gcdI_pos A (gcdI d e) hA g1
  have h2 := gcdI_le A (gcdI d e) g1
  obtain ⟨p1, p2, p3, p4⟩ := quo d _ (by omega) (by omega) g1
  obtain ⟨q1, q2, q3, q4⟩ := quo e _ (by omega) (by omega) g1
  obtain ⟨r1, r2, r3, r4⟩ := quo e _ (by omega) (by omega) h1
  exact ⟨⟨g1, by omega⟩, ⟨h1, by omega⟩, p1, q1, r1, ⟨p2, by omega⟩, ⟨q2, by omega⟩, ⟨r2, by omega⟩, gcdI_emod A _ hA g1⟩
theorem adT1_eq {A d e : Int} (neg : Bool) (hA : 0 < A ∧ A < 340282366920938463463374607431768211456) (hd : 1 ≤ d ∧ d ≤ 1000000000000000000) (he : 1 ≤ e ∧ e ≤ 1000000000000000000) :
    adT1 d e (gcdI d e) neg (A / 18446744073709551616) (A % 18446744073709551616) = fin neg A d e := by
  obtain ⟨⟨g1, g2⟩, ⟨h1, h2⟩, p1, p2, p3, ⟨b1, b2⟩, _, ⟨c1, c2⟩, hh⟩ := ad_facts (A := A) (by omega) hd he
  unfold adT1
  have e1 := Int.emod_nonneg A (show gcdI d e ≠ 0 by omega)
  have e2 := Int.emod_lt_of_pos A g1
  rw [wd_parts, hh, show (uR (A / 18446744073709551616) && uR (A % 18446744073709551616) && uR (gcdI d e) && decide (0 < gcdI d e)) = true by simp only [Bool.and_eq_true, uR_iff, decide_eq_true_eq]; omega,
    show (uR (A % gcdI d e) && uR (gcdI d e)) = true by simp only [Bool.and_eq_true, uR_iff]; omega, br_true, br_true]
  unfold adT2
  rw [wd_parts, p1, p3]
  obtain ⟨x1, x2⟩ := mul_most b1 b2 c1 c2
  have hle : ∀ t, t ≤ A / gcdI A (gcdI d e) ↔ t * gcdI A (gcdI d e) ≤ A := fun t => Int.le_ediv_iff_mul_le h1
  have hlt : ∀ t, A / gcdI A (gcdI d e) < t ↔ A < t * gcdI A (gcdI d e) := fun t => Int.ediv_lt_iff_lt_mul h1
  by_cases hb : A / 18446744073709551616 ≥ gcdI A (gcdI d e)
  · rw [decide_eq_true hb, br_true, fin_bad (by omega) (.inl (by have := (hle 18446744073709551616).mpr (by omega); omega))]
  · have hN := (hlt 18446744073709551616).mpr (by omega)
    have hN0 := Int.ediv_nonneg (show 0 ≤ A by omega) (Int.le_of_lt h1)
    rw [decide_eq_false hb, br_false, show (uR (A / 18446744073709551616) && uR (A % 18446744073709551616) && uR (gcdI A (gcdI d e)) && decide (A / 18446744073709551616 < gcdI A (gcdI d e))) = true by simp only [Bool.and_eq_true, uR_iff, decide_eq_true_eq]; omega,
      br_true, decide_eq_false (show ¬ gcdI d e = 0 by omega), br_false, decide_eq_false (show ¬ gcdI A (gcdI d e) = 0 by omega), br_false, show (uR (d / gcdI d e) && uR (e / gcdI A (gcdI d e))) = true by simp only [Bool.and_eq_true, uR_iff]; omega, br_true]
    by_cases ho : d / gcdI d e * (e / gcdI A (gcdI d e)) / 18446744073709551616 > 0
    · rw [decide_eq_true ho, br_true, fin_bad (by omega) (.inr (by omega))]
    · rw [decide_eq_false ho, br_false, show d / gcdI d e * (e / gcdI A (gcdI d e)) % 18446744073709551616 = d / gcdI d e * (e / gcdI A (gcdI d e)) by omega]
      unfold adT3 fin
      rw [if_neg (by omega), show (uR (A / gcdI A (gcdI d e)) && uR (d / gcdI d e * (e / gcdI A (gcdI d e)))) = true by simp only [Bool.and_eq_true, uR_iff]; omega, br_true]
theorem adT0_eq {A d e : Int} (neg : Bool) (hA : 0 ≤ A ∧ A < 340282366920938463463374607431768211456) (hd : 1 ≤ d ∧ d ≤ 1000000000000000000) (he : 1 ≤ e ∧ e ≤ 1000000000000000000) :
    adT0 d e (gcdI d e) neg (A / 18446744073709551616) (A % 18446744073709551616) = fin neg A d e := by
  unfold adT0
  by_cases h0 : A = 0
  · subst h0
    unfold fin
    rw [if_pos rfl]
    rfl
  · rw [adT1_eq neg (by omega) hd he]
    by_cases h1 : A / 18446744073709551616 = 0
    · rw [show (A / 18446744073709551616 == 0) = true by simpa using h1, br_true, show (A % 18446744073709551616 == 0) = false from beq_eq_false_iff_ne.mpr (by omega), br_false]
    · rw [show (A / 18446744073709551616 == 0) = false by simpa using h1, br_false]
theorem arT0_eq {A d e : Int} (neg : Bool) (hA : 0 ≤ A ∧ A < 340282366920938463463374607431768211456) (hd : 1 ≤ d ∧ d ≤ 1000000000000000000) (he : 1 ≤ e ∧ e ≤ 1000000000000000000) :
    arT0 d e (gcdI d e) neg A = fin neg A d e := by
  unfold arT0
  by_cases h0 : A = 0
  · subst h0
    unfold fin
    rw [if_pos rfl]
    rfl
  · obtain ⟨⟨g1, g2⟩, ⟨h1, h2⟩, p1, p2, p3, ⟨b1, b2⟩, _, ⟨c1, c2⟩, hh⟩ := ad_facts (A := A) (by omega) hd he
    have e1 := Int.emod_nonneg A (show gcdI d e ≠ 0 by omega)
    have e2 := Int.emod_lt_of_pos A g1
    rw [show (A / 18446744073709551616 == 0 && (A % 18446744073709551616 == 0 && true)) = false by
        rw [Bool.and_true]
        cases hx : (A / 18446744073709551616 == 0) <;> cases hy : (A % 18446744073709551616 == 0) <;> simp_all <;> omega, br_false]
    rw [wd_parts, hh, show (uR (A / 18446744073709551616) && uR (A % 18446744073709551616) && (decide (0 < gcdI d e) && decide (gcdI d e < 9223372036854775808))) = true by simp only [Bool.and_eq_true, uR_iff, decide_eq_true_eq]; omega,
      show (uR (A % gcdI d e) && uR (gcdI d e)) = true by simp only [Bool.and_eq_true, uR_iff]; omega, br_true, br_true]
    unfold arT1
    rw [wd_parts, p1, p3, show (uR (A / 18446744073709551616) && uR (A % 18446744073709551616) && (decide (0 < gcdI A (gcdI d e)) && decide (gcdI A (gcdI d e) < 9223372036854775808))) = true by simp only [Bool.and_eq_true, uR_iff, decide_eq_true_eq]; omega,
      br_true, decide_eq_false (show ¬ gcdI d e = 0 by omega), br_false, decide_eq_false (show ¬ gcdI A (gcdI d e) = 0 by omega), br_false, show (uR (d / gcdI d e) && uR (e / gcdI A (gcdI d e))) = true by simp only [Bool.and_eq_true, uR_iff]; omega, br_true]
    obtain ⟨x1, x2⟩ := mul_most b1 b2 c1 c2
    have hN0 := Int.ediv_nonneg (show 0 ≤ A by omega) (Int.le_of_lt h1)
    have hN1 := Int.ediv_le_self (gcdI A (gcdI d e)) (show 0 ≤ A by omega)
    unfold fin
    rw [if_neg h0]
    generalize A / gcdI A (gcdI d e) = N at *
    generalize d / gcdI d e * (e / gcdI A (gcdI d e)) = M at *
    unfold arT2
    rw [show N / 18446744073709551616 * 18446744073709551616 + N % 18446744073709551616 = N by omega, show M / 18446744073709551616 * 18446744073709551616 + M % 18446744073709551616 = M by omega,
      show (uR (N / 18446744073709551616) && uR (N % 18446744073709551616) && uR (M / 18446744073709551616) && uR (M % 18446744073709551616)) = true by simp only [Bool.and_eq_true, uR_iff]; omega, br_true]
def adX (n d e : Int) : Int := absI n * (e / gcdI d e)
def adY (m d e : Int) : Int := absI m * (d / gcdI d e)
/-- The sum's numerator over the least common denominator: its size, and its sign. -/
def adA (n d m e : Int) : Int := if decide (n < 0) = decide (m < 0) then adX n d e + adY m d e else if adX n d e < adY m d e then adY m d e - adX n d e else adX n d e - adY m d e
def adNg (n d m e : Int) : Bool := if decide (n < 0) = decide (m < 0) then decide (n < 0) else if adX n d e < adY m d e then !decide (n < 0) else decide (n < 0)
def adN (n d m e : Int) : Int := if chk2 n d m e = 0 then (if adA n d m e = 0 then 0 else mkN (adNg n d m e) (adA n d m e / gcdI (adA n d m e) (gcdI d e)) (d / gcdI d e * (e / gcdI (adA n d m e) (gcdI d e)))) else 0
def adD (n d m e : Int) : Int := if chk2 n d m e = 0 then (if adA n d m e = 0 then 1 else mkD (adA n d m e / gcdI (adA n d m e) (gcdI d e)) (d / gcdI d e * (e / gcdI (adA n d m e) (gcdI d e)))) else 0
def adE (n d m e : Int) : Int := if chk2 n d m e = 0 then (if adA n d m e = 0 then 0 else mkE (adA n d m e / gcdI (adA n d m e) (gcdI d e)) (d / gcdI d e * (e / gcdI (adA n d m e) (gcdI d e)))) else chk2 n d m e
def Fadd : List D → Option (Bool × List D)
  | [.agg [.v (.int .i64 n), .v (.int .i64 d)], .agg [.v (.int .i64 m), .v (.int .i64 e)]] => some (iR n && iR d && iR m && iR e, [.agg [.v (i64 (adN n d m e)), .v (i64 (adD n d m e))], .v (i64 (adE n d m e))])
  | _ => none
theorem ad_fin {n d m e : Int} (hc : chk2 n d m e = 0) : fin (adNg n d m e) (adA n d m e) d e = some [.agg [.v (i64 (adN n d m e)), .v (i64 (adD n d m e))], .v (i64 (adE n d m e))] := by
  unfold fin adN adD adE
  rw [if_pos hc, if_pos hc, if_pos hc]
  by_cases h : adA n d m e = 0
  · rw [if_pos h, if_pos h, if_pos h, if_pos h]; rfl
  · rw [if_neg h, if_neg h, if_neg h, if_neg h]
theorem ad_err {n d m e : Int} (hc : chk2 n d m e ≠ 0) : (some [.agg [.v (i64 0), .v (i64 0)], .v (i64 (chk2 n d m e))] : Option (List D)) = some [.agg [.v (i64 (adN n d m e)), .v (i64 (adD n d m e))], .v (i64 (adE n d m e))] := by
  unfold adN adD adE
  rw [if_neg hc, if_neg hc, if_neg hc]
theorem ad_bounds {n d m e : Int} (hc : chk2 n d m e = 0) : (1 ≤ d ∧ d ≤ 1000000000000000000) ∧ (1 ≤ e ∧ e ≤ 1000000000000000000) ∧ (0 ≤ absI n ∧ absI n ≤ 1000000000000000000) ∧ (0 ≤ absI m ∧ absI m ≤ 1000000000000000000) ∧
    (0 ≤ adX n d e ∧ adX n d e ≤ 1000000000000000000000000000000000000) ∧ (0 ≤ adY m d e ∧ adY m d e ≤ 1000000000000000000000000000000000000) ∧ iR n = true ∧ iR m = true := by
  obtain ⟨⟨⟨d1, d2⟩, ⟨n1, n2⟩, _⟩, ⟨e1, e2⟩, ⟨m1, m2⟩, _⟩ := chk2_good hc
  have ⟨a1, a0⟩ := absI_or n
  have ⟨b1, b0⟩ := absI_or m
  obtain ⟨_, _, _, _, _, ⟨p1, p2⟩, ⟨q1, q2⟩, _, _⟩ := ad_facts (A := 0) (by omega) ⟨d1, d2⟩ ⟨e1, e2⟩
  exact ⟨⟨d1, d2⟩, ⟨e1, e2⟩, ⟨a1, by omega⟩, ⟨b1, by omega⟩, mul_most a1 (by omega) q1 q2, mul_most b1 (by omega) p1 p2, iR_iff.mpr (by omega), iR_iff.mpr (by omega)⟩
theorem adG_eq {n d m e : Int} (hc : chk2 n d m e = 0) (k : Int → Int → Option (List D)) : adG n m d e (gcdI d e) k = k (adX n d e) (adY m d e) := by
  obtain ⟨⟨d1, d2⟩, ⟨e1, e2⟩, ⟨n1, n2⟩, ⟨m1, m2⟩, _, _, h7, h8⟩ := ad_bounds hc
  obtain ⟨⟨g1, g2⟩, _, f1, f2, _, ⟨p1, p2⟩, ⟨q1, q2⟩, _, _⟩ := ad_facts (A := 0) (by omega) ⟨d1, d2⟩ ⟨e1, e2⟩
  unfold adG adX adY
  rw [f1, f2, show (uR d && uR e) = true by simp only [Bool.and_eq_true, uR_iff]; omega, br_true, h7, br_true, decide_eq_false (show ¬ gcdI d e = 0 by omega), br_false, show (uR (absI n) && uR (e / gcdI d e)) = true by simp only [Bool.and_eq_true, uR_iff]; omega, br_true,
    h8, br_true, br_false, show (uR (absI m) && uR (d / gcdI d e)) = true by simp only [Bool.and_eq_true, uR_iff]; omega, br_true]
theorem adSub_eq {A d e x y : Int} (neg : Bool) (hx : 0 ≤ x ∧ x ≤ 1000000000000000000000000000000000000) (hy : 0 ≤ y ∧ y ≤ x) (hd : 1 ≤ d ∧ d ≤ 1000000000000000000) (he : 1 ≤ e ∧ e ≤ 1000000000000000000) :
    adSub d e (gcdI d e) neg (x / 18446744073709551616) (x % 18446744073709551616) (y / 18446744073709551616) (y % 18446744073709551616) = fin neg (x - y) d e := by
  unfold adSub
  have hb : bor (x % 18446744073709551616) (y % 18446744073709551616 + 0) = 0 ∧ ¬ x % 18446744073709551616 < y % 18446744073709551616 ∨ bor (x % 18446744073709551616) (y % 18446744073709551616 + 0) = 1 ∧ x % 18446744073709551616 < y % 18446744073709551616 := by
    unfold bor
    split
    · exact .inr ⟨rfl, by omega⟩
    · exact .inl ⟨rfl, by omega⟩
  generalize bor (x % 18446744073709551616) (y % 18446744073709551616 + 0) = b at *
  rw [show (x / 18446744073709551616 - y / 18446744073709551616 - b) % 18446744073709551616 = (x - y) / 18446744073709551616 by omega, show (x % 18446744073709551616 - y % 18446744073709551616 - 0) % 18446744073709551616 = (x - y) % 18446744073709551616 by omega,
    adT0_eq neg (by omega) hd he, show (uR (x % 18446744073709551616) && uR (y % 18446744073709551616) && (decide ((0 : Int) ≤ 0) && decide ((0 : Int) ≤ 1))) = true by simp only [Bool.and_eq_true, uR_iff, decide_eq_true_eq]; omega, br_true,
    show (uR (x / 18446744073709551616) && uR (y / 18446744073709551616) && (decide (0 ≤ b) && decide (b ≤ 1))) = true by simp only [Bool.and_eq_true, uR_iff, decide_eq_true_eq]; omega, br_true]
theorem adMain_eq {n d m e : Int} (hc : chk2 n d m e = 0) : adMain n d m e (gcdI d e) (adX n d e / 18446744073709551616) (adX n d e % 18446744073709551616) (adY m d e / 18446744073709551616) (adY m d e % 18446744073709551616) = fin (adNg n d m e) (adA n d m e) d e := by
  obtain ⟨hd, he, _, _, hx, hy, _, _⟩ := ad_bounds hc
  unfold adMain adNg adA
  generalize adX n d e = x at *
  generalize adY m d e = y at *
  by_cases hs : decide (n < 0) = decide (m < 0)
  · rw [if_pos hs, if_pos hs, show (decide (n < 0) == decide (m < 0)) = true by simpa using hs, br_true, show (x / 18446744073709551616 + y / 18446744073709551616 + (x % 18446744073709551616 + y % 18446744073709551616 + 0) / 18446744073709551616) % 18446744073709551616 = (x + y) / 18446744073709551616 by omega,
      show (x % 18446744073709551616 + y % 18446744073709551616 + 0) % 18446744073709551616 = (x + y) % 18446744073709551616 by omega, adT0_eq _ (by omega) hd he,
      show (uR (x % 18446744073709551616) && uR (y % 18446744073709551616) && (decide ((0 : Int) ≤ 0) && decide ((0 : Int) ≤ 1))) = true by simp only [Bool.and_eq_true, uR_iff, decide_eq_true_eq]; omega, br_true,
      show (uR (x / 18446744073709551616) && uR (y / 18446744073709551616) && (decide (0 ≤ (x % 18446744073709551616 + y % 18446744073709551616 + 0) / 18446744073709551616) && decide ((x % 18446744073709551616 + y % 18446744073709551616 + 0) / 18446744073709551616 ≤ 1))) = true by simp only [Bool.and_eq_true, uR_iff, decide_eq_true_eq]; omega, br_true]
  · rw [if_neg hs, if_neg hs, show (decide (n < 0) == decide (m < 0)) = false by simpa using hs, br_false]
    by_cases hxy : x < y
    · rw [if_pos hxy, if_pos hxy, adSub_eq (A := 0) _ hy (by omega) hd he]
      refine br_splitP (fun _ => rfl) (fun h1 => br_split (fun h2 => br_splitP (fun _ => rfl) (fun h3 => ?_)) (fun h2 => ?_))
      · have h2 : x / 18446744073709551616 = y / 18446744073709551616 := by simpa using h2
        omega
      · have h2 : x / 18446744073709551616 ≠ y / 18446744073709551616 := by simpa using h2
        omega
    · rw [if_neg hxy, if_neg hxy, adSub_eq (A := 0) _ hx (by omega) hd he]
      refine br_splitP (fun h1 => ?_) (fun h1 => br_split (fun h2 => br_splitP (fun h3 => ?_) (fun h3 => rfl)) (fun h2 => rfl))
      · omega
      · have h2 : x / 18446744073709551616 = y / 18446744073709551616 := by simpa using h2
        omega
theorem arMain_eq {n d m e : Int} (hc : chk2 n d m e = 0) : arMain n d m e (gcdI d e) (adX n d e / 18446744073709551616) (adX n d e % 18446744073709551616) (adY m d e / 18446744073709551616) (adY m d e % 18446744073709551616) = fin (adNg n d m e) (adA n d m e) d e := by
  obtain ⟨hd, he, _, _, hx, hy, _, _⟩ := ad_bounds hc
  unfold arMain adNg adA
  generalize adX n d e = x at *
  generalize adY m d e = y at *
  rw [wd_parts, wd_parts, show (uR (x / 18446744073709551616) && uR (x % 18446744073709551616) && uR (y / 18446744073709551616) && uR (y % 18446744073709551616)) = true by simp only [Bool.and_eq_true, uR_iff]; omega,
    show (uR (y / 18446744073709551616) && uR (y % 18446744073709551616) && uR (x / 18446744073709551616) && uR (x % 18446744073709551616)) = true by simp only [Bool.and_eq_true, uR_iff]; omega,
    decide_eq_true (show x + y < 340282366920938463463374607431768211456 by omega), Bool.and_true, br_true, br_true, br_true, br_true, arT0_eq (A := x + y) _ (by omega) hd he]
  by_cases hs : decide (n < 0) = decide (m < 0)
  · rw [if_pos hs, if_pos hs, show (!decide (n < 0) == decide (m < 0)) = false by rw [hs]; cases decide (m < 0) <;> rfl, br_false]
  · rw [if_neg hs, if_neg hs, show (!decide (n < 0) == decide (m < 0)) = true by revert hs; cases decide (n < 0) <;> cases decide (m < 0) <;> simp, br_true]
    by_cases hxy : x < y
    · rw [if_pos hxy, if_pos hxy, decide_eq_true hxy, br_true, show (y - x) % 340282366920938463463374607431768211456 = y - x by omega, arT0_eq _ (by omega) hd he, show decide (m < 0) = !decide (n < 0) by revert hs; cases decide (n < 0) <;> cases decide (m < 0) <;> simp]
    · rw [if_neg hxy, if_neg hxy, decide_eq_false hxy, br_false, show (x - y) % 340282366920938463463374607431768211456 = x - y by omega, arT0_eq _ (by omega) hd he]
theorem den_addp : Den Try.prog 13 Fadd := evF_den C12_ok fun ds rs h => by
  unfold Fadd at h
  split at h
  · rename_i n d m e
    simp only [Option.some.injEq, Prod.mk.injEq] at h
    obtain ⟨h0, rfl⟩ := h
    refine (taddp n d m e).trans ?_
    unfold adP
    rw [h0, br_true]
    by_cases hc : chk2 n d m e = 0
    · obtain ⟨hd, he, _, _, _, _, _, _⟩ := ad_bounds hc
      rw [show (chk2 n d m e != 0) = false by simpa using hc, br_false, show wu d = d from wrapU_id (by omega) (by omega), show wu e = e from wrapU_id (by omega) (by omega), adG_eq hc, adMain_eq hc, ad_fin hc]
    · rw [show (chk2 n d m e != 0) = true by simpa using hc, br_true, ad_err hc]
  · cases h
theorem den_addr : Den Try.prog 14 Fadd := evF_den C12_ok fun ds rs h => by
  unfold Fadd at h
  split at h
  · rename_i n d m e
    simp only [Option.some.injEq, Prod.mk.injEq] at h
    obtain ⟨h0, rfl⟩ := h
    refine (taddr n d m e).trans ?_
    unfold adR
    rw [h0, br_true, br_true]
    by_cases hc : chk2 n d m e = 0
    · obtain ⟨hd, he, _, _, _, _, _, _⟩ := ad_bounds hc
      rw [show (chk2 n d m e != 0) = false by simpa using hc, br_false, show wu d = d from wrapU_id (by omega) (by omega), show wu e = e from wrapU_id (by omega) (by omega), adG_eq hc, arMain_eq hc, ad_fin hc]
    · rw [show (chk2 n d m e != 0) = true by simpa using hc, br_true, ad_err hc]
  · cases h
end Go.Proofs.Ytofkkhdmjllcfaa

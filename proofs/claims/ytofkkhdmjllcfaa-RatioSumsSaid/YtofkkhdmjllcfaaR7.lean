/- The program's Mul: contract. No conditions. -/
import Derived.Test.YtofkkhdmjllcfaaR6
namespace Go.Proofs.Ytofkkhdmjllcfaa
open Go.Ev
set_option linter.all false
def pN (n d m e : Int) : Int := (absI n / gcdI (absI n) e) * (absI m / gcdI (absI m) d)
def pD (n d m e : Int) : Int := (d / gcdI (absI m) d) * (e / gcdI (absI n) e)
def sgn (n m : Int) : Bool := !decide (n < 0) == decide (m < 0)
def prN (n d m e : Int) : Int := if chk2 n d m e = 0 then mkN (decide (pN n d m e > 0) && sgn n m) (pN n d m e) (pD n d m e) else 0
def prD (n d m e : Int) : Int := if chk2 n d m e = 0 then mkD (pN n d m e) (pD n d m e) else 0
def prE (n d m e : Int) : Int := if chk2 n d m e = 0 then mkE (pN n d m e) (pD n d m e) else chk2 n d m e
def Fpr : List D → Option (Bool × List D)
  | [.agg [.v (.int .i64 n), .v (.int .i64 d)], .agg [.v (.int .i64 m), .v (.int .i64 e)]] => some (iR n && iR d && iR m && iR e, [.agg [.v (i64 (prN n d m e)), .v (i64 (prD n d m e))], .v (i64 (prE n d m e))])
  | _ => none
theorem chk2_good {n d m e : Int} (h : chk2 n d m e = 0) : goodR n d ∧ goodR m e := by
  unfold chk2 at h
  split at h
  · rename_i h1
    exact ⟨chk_good h1, chk_good h⟩
  · contradiction
theorem mul_most {x y : Int} (h0 : 0 ≤ x) (h1 : x ≤ 1000000000000000000) (h2 : 0 ≤ y) (h3 : y ≤ 1000000000000000000) : 0 ≤ x * y ∧ x * y ≤ 1000000000000000000000000000000000000 := ⟨Int.mul_nonneg h0 h2, by
  have := Int.mul_le_mul h1 h3 h2 (by decide)
  omega⟩
theorem den_mulp : Den Try.prog 7 Fpr := evF_den C3_ok fun ds rs h => by
  unfold Fpr at h
  split at h
  · rename_i n d m e
    simp only [Option.some.injEq, Prod.mk.injEq] at h
    obtain ⟨h0, rfl⟩ := h
    refine (tmulp n d m e).trans ?_
    rw [h0, br_true]
    simp only [Bool.and_eq_true] at h0
    obtain ⟨⟨⟨h1, h2⟩, h3⟩, h4⟩ := h0
    unfold prN prD prE
    by_cases hc : chk2 n d m e = 0
    · obtain ⟨⟨⟨d1, d2⟩, ⟨n1, n2⟩, _⟩, ⟨e1, e2⟩, ⟨m1, m2⟩, _⟩ := chk2_good hc
      have ⟨a1, a0⟩ := absI_or n
      have ⟨b1, b0⟩ := absI_or m
      have hg := gcdI_pos (absI n) e a1 (by omega)
      have hh := gcdI_pos (absI m) d b1 (by omega)
      obtain ⟨p1, p2, p3, p4⟩ := quo (absI n) _ a1 (by omega) hg
      obtain ⟨r1, r2, r3, r4⟩ := quo (absI m) _ b1 (by omega) hh
      obtain ⟨q1, q2, q3, q4⟩ := quo d _ (by omega) (by omega) hh
      obtain ⟨s1, s2, s3, s4⟩ := quo e _ (by omega) (by omega) hg
      rw [show (chk2 n d m e != 0) = false by simpa using hc, if_pos hc, if_pos hc, if_pos hc, h1, h3, wrapU_id (n := d) (by omega) (by omega), wrapU_id (n := e) (by omega) (by omega), p1, r1, q1, s1, p4, r4, q4, s4,
        show (uR (absI n) && uR e) = true by simp only [Bool.and_eq_true, uR_iff]; omega, show (uR (absI m) && uR d) = true by simp only [Bool.and_eq_true, uR_iff]; omega,
        decide_eq_false (show ¬ gcdI (absI n) e = 0 by omega), decide_eq_false (show ¬ gcdI (absI m) d = 0 by omega)]
      obtain ⟨x1, x2⟩ := mul_most p2 (by omega) r2 (by omega)
      obtain ⟨y1, y2⟩ := mul_most q2 (by omega) s2 (by omega)
      rw [show absI n / gcdI (absI n) e * (absI m / gcdI (absI m) d) = pN n d m e from rfl, show d / gcdI (absI m) d * (e / gcdI (absI n) e) = pD n d m e from rfl]
      rw [show absI n / gcdI (absI n) e * (absI m / gcdI (absI m) d) = pN n d m e from rfl] at x1 x2
      rw [show d / gcdI (absI m) d * (e / gcdI (absI n) e) = pD n d m e from rfl] at y1 y2
      generalize pN n d m e = N at *
      generalize pD n d m e = M at *
      rw [wrapU_id (n := N / 18446744073709551616 + M / 18446744073709551616) (by omega) (by omega)]
      simp only [Bool.and_self, br_true, br_false]
      by_cases ho : N / 18446744073709551616 + M / 18446744073709551616 > 0
      · obtain ⟨z1, z2, z3⟩ := mk_bad (N := N) (d := M) (by omega) (decide (N > 0) && sgn n m)
        rw [decide_eq_true ho, z1, z2, z3]; rfl
      · rw [decide_eq_false ho, br_false, show N % 18446744073709551616 = N by omega, show M % 18446744073709551616 = M by omega, show (uR N && uR M) = true by simp only [Bool.and_eq_true, uR_iff]; omega]
        cases hz : decide (N > 0) <;> simp only [br_true, br_false, Bool.true_and, Bool.false_and] <;> rfl
    · rw [show (chk2 n d m e != 0) = true by simpa using hc, if_neg hc, if_neg hc, if_neg hc]; rfl
  · cases h
end Go.Proofs.Ytofkkhdmjllcfaa

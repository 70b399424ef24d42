/- Package ratio: both checks, Make, Floor, Mul, Div. No conditions. -/
import Derived.Test.YtofkkhdmjllcfaaDoorQ1
namespace Go.Proofs.YtofkkhdmjllcfaaDoor
open Go.Ev
set_option linter.all false
def chk2 (n d m e : Int) : Int := if chkE n d = 0 then chkE m e else chkE n d
def Fboth : List D → Option (Bool × List D)
  | [.agg [.v (.int .i64 n), .v (.int .i64 d)], .agg [.v (.int .i64 m), .v (.int .i64 e)]] => some (iR n && iR d && iR m && iR e, [.v (i64 (chk2 n d m e))])
  | _ => none
theorem den_both : Den Tryd.prog 33 Fboth := evF_den C2_ok fun ds rs h => by
  unfold Fboth at h
  split at h
  · rename_i n d m e
    simp only [Option.some.injEq, Prod.mk.injEq, Bool.and_eq_true] at h
    obtain ⟨⟨⟨⟨h1, h2⟩, h3⟩, h4⟩, rfl⟩ := h
    refine (tboth n d m e).trans ?_
    rw [h1, h2, h3, h4]
    unfold chk2
    by_cases hc : chkE n d = 0
    · rw [show (chkE n d != 0) = false by simpa using hc, if_pos hc]; rfl
    · rw [show (chkE n d != 0) = true by simpa using hc, if_neg hc]; rfl
  · cases h
theorem den_check : Den Tryd.prog 34 Fboth := evF_den C2_ok fun ds rs h => by
  unfold Fboth at h
  split at h
  · rename_i n d m e
    simp only [Option.some.injEq, Prod.mk.injEq, Bool.and_eq_true] at h
    obtain ⟨⟨⟨⟨h1, h2⟩, h3⟩, h4⟩, rfl⟩ := h
    refine (tcheck n d m e).trans ?_
    rw [h1, h2, h3, h4, show (((Row.zeros 2).setI 0 0 (chkE n d)).setI 1 0 (chkE m e)).I 0 0 = chkE n d from rfl, show (((Row.zeros 2).setI 0 0 (chkE n d)).setI 1 0 (chkE m e)).I 1 0 = chkE m e from rfl]
    unfold chk2
    by_cases hc : chkE n d = 0
    · rw [show (chkE n d != 0) = false by simpa using hc, if_pos hc]
      by_cases hk : chkE m e = 0
      · rw [hk]; rfl
      · rw [show (chkE m e != 0) = true by simpa using hk]; rfl
    · rw [show (chkE n d != 0) = true by simpa using hc, if_neg hc]; rfl
  · cases h
theorem quo (a g : Int) (h0 : 0 ≤ a) (h1 : a < 18446744073709551616) (hg : 0 < g) : IntKind.u64.wrap (a.tdiv g) = a / g ∧ 0 ≤ a / g ∧ a / g ≤ a ∧ uR (a / g) = true := by
  have e1 := Int.ediv_nonneg h0 (Int.le_of_lt hg)
  have e2 := Int.ediv_le_self g h0
  rw [Int.tdiv_eq_ediv_of_nonneg h0]
  exact ⟨wrapU_id e1 (by omega), e1, e2, uR_iff.mpr ⟨e1, by omega⟩⟩
def mN (n d : Int) : Int := absI n / gcdI (absI n) (absI d)
def mD (n d : Int) : Int := absI d / gcdI (absI n) (absI d)
def makeN (n d : Int) : Int := if d = 0 then 0 else mkN (!decide (n < 0) == decide (d < 0)) (mN n d) (mD n d)
def makeD (n d : Int) : Int := if d = 0 then 0 else mkD (mN n d) (mD n d)
def makeE (n d : Int) : Int := if d = 0 then 18 else mkE (mN n d) (mD n d)
def Fmake : List D → Option (Bool × List D)
  | [.v (.int .i64 n), .v (.int .i64 d)] => some (iR n && iR d, [.agg [.v (i64 (makeN n d)), .v (i64 (makeD n d))], .v (i64 (makeE n d))])
  | _ => none
theorem make_facts (n d : Int) (h1 : iR n = true) (h2 : iR d = true) (hd : ¬ d = 0) : (uR (absI n) && uR (absI d)) = true ∧ decide (gcdI (absI n) (absI d) = 0) = false ∧
    IntKind.u64.wrap ((absI n).tdiv (gcdI (absI n) (absI d))) = mN n d ∧ IntKind.u64.wrap ((absI d).tdiv (gcdI (absI n) (absI d))) = mD n d ∧ uR (mN n d) = true ∧ uR (mD n d) = true := by
  have ⟨h3, h4⟩ := iR_iff.mp h1
  have ⟨h5, h6⟩ := iR_iff.mp h2
  have ⟨a1, a0⟩ := absI_or n
  have ⟨b1, b0⟩ := absI_or d
  have hp := gcdI_pos (absI n) (absI d) a1 (by omega)
  obtain ⟨q1, q2, q3, q4⟩ := quo (absI n) _ a1 (by omega) hp
  obtain ⟨r1, r2, r3, r4⟩ := quo (absI d) _ b1 (by omega) hp
  exact ⟨by simp only [Bool.and_eq_true, uR_iff]; omega, decide_eq_false (by omega), q1, r1, q4, r4⟩
theorem den_make : Den Tryd.prog 22 Fmake := evF_den C2_ok fun ds rs h => by
  unfold Fmake at h
  split at h
  · rename_i n d
    simp only [Option.some.injEq, Prod.mk.injEq, Bool.and_eq_true] at h
    obtain ⟨⟨h1, h2⟩, rfl⟩ := h
    refine (tmake n d).trans ?_
    unfold makeN makeD makeE
    by_cases hd : d = 0
    · rw [show (d == 0) = true by simpa using hd, if_pos hd, if_pos hd, if_pos hd]; rfl
    · obtain ⟨f1, f2, f3, f4, f5, f6⟩ := make_facts n d h1 h2 hd
      rw [show (d == 0) = false by simpa using hd, h1, h2, f1, f2, f3, f4, f5, f6, if_neg hd, if_neg hd, if_neg hd]; rfl
  · cases h
def floN (n d : Int) : Int := if chkE n d = 0 then (if n.tmod d < 0 then n.tdiv d - 1 else n.tdiv d) else 0
def Ffloor : List D → Option (Bool × List D)
  | [.agg [.v (.int .i64 n), .v (.int .i64 d)]] => some (iR n && iR d, [.v (i64 (floN n d)), .v (i64 (chkE n d))])
  | _ => none
theorem chk_good {n d : Int} (h : chkE n d = 0) : goodR n d := by
  unfold chkE at h
  split at h
  · assumption
  · omega
theorem floor_facts (n d : Int) (h : goodR n d) : n.tdiv d * d = n - n.tmod d ∧ n.tmod d < d ∧ -d < n.tmod d ∧ -1000000000000000000 ≤ n.tdiv d ∧ n.tdiv d ≤ 1000000000000000000 := by
  obtain ⟨⟨d1, d2⟩, ⟨n1, n2⟩, _⟩ := h
  have e1 := Int.tmod_def n d
  rw [Int.mul_comm] at e1
  have e2 := Int.natAbs_tdiv_le_natAbs n d
  exact ⟨by omega, Int.tmod_lt_of_pos n (by omega), Int.lt_tmod_of_pos n (by omega), by omega, by omega⟩
theorem den_floor : Den Tryd.prog 21 Ffloor := evF_den C2_ok fun ds rs h => by
  unfold Ffloor at h
  split at h
  · rename_i n d
    simp only [Option.some.injEq, Prod.mk.injEq, Bool.and_eq_true] at h
    obtain ⟨⟨h1, h2⟩, rfl⟩ := h
    refine (tfloor n d).trans ?_
    unfold floN
    rw [h1, h2]
    by_cases hc : chkE n d = 0
    · have hg := chk_good hc
      obtain ⟨f1, f2, f3, f4, f5⟩ := floor_facts n d hg
      have hd := hg.1.1
      rw [show (chkE n d != 0) = false by simpa using hc, if_pos hc, decide_eq_false (show ¬ d = 0 by omega), wrapI_id (n := n.tdiv d) (by omega) (by omega), wrapI_id (n := n.tdiv d - 1) (by omega) (by omega), hc]
      by_cases ht : n.tmod d < 0
      · rw [decide_eq_true ht, if_pos ht]; rfl
      · rw [decide_eq_false ht, if_neg ht]; rfl
    · rw [show (chkE n d != 0) = true by simpa using hc, if_neg hc]; rfl
  · cases h
noncomputable def C3 : Cx := mkCx Tryd.prog fns [(35, Fgcd), (47, Fgcd), (37, Fsize), (48, Fsize), (34, Fboth), (33, Fboth), (42, Fsigned), (57, Fmade), (36, Fmul), (52, Ftimes)] []
theorem C3_ok : CxOk C3 := mkCx_ok enter mixed (fun p h => by
  simp only [List.mem_cons, List.not_mem_nil, or_false] at h
  rcases h with rfl | rfl | rfl | rfl | rfl | rfl | rfl | rfl | rfl | rfl
  · exact den_gcd
  · exact den_gcdr
  · exact den_size
  · exact den_abs
  · exact den_check
  · exact den_both
  · exact den_signed
  · exact den_made
  · exact den_mul
  · exact den_times) (fun l h => by cases h)
theorem tmulp (n d m e : Int) : evF C3 6 17 [.agg [.v (i64 n), .v (i64 d)], .agg [.v (i64 m), .v (i64 e)]] =
    br (iR n && iR d && iR m && iR e) (br (chk2 n d m e != 0) (some [.agg [.v (i64 (0)), .v (i64 (0))], .v (i64 (chk2 n d m e))]) (br (iR n) (br (iR m) (br (uR (absI n) && uR (IntKind.u64.wrap e)) (br (uR (absI m) && uR (IntKind.u64.wrap d)) (br (decide (gcdI (absI n) (IntKind.u64.wrap e) = 0)) (none) (br (decide (gcdI (absI m) (IntKind.u64.wrap d) = 0)) (none) (br (uR (IntKind.u64.wrap ((absI n).tdiv (gcdI (absI n) (IntKind.u64.wrap e)))) && uR (IntKind.u64.wrap ((absI m).tdiv (gcdI (absI m) (IntKind.u64.wrap d))))) (br (decide (gcdI (absI m) (IntKind.u64.wrap d) = 0)) (none) (br (decide (gcdI (absI n) (IntKind.u64.wrap e) = 0)) (none) (br (uR (IntKind.u64.wrap ((IntKind.u64.wrap d).tdiv (gcdI (absI m) (IntKind.u64.wrap d)))) && uR (IntKind.u64.wrap ((IntKind.u64.wrap e).tdiv (gcdI (absI n) (IntKind.u64.wrap e))))) (br (decide (IntKind.u64.wrap (IntKind.u64.wrap ((absI n).tdiv (gcdI (absI n) (IntKind.u64.wrap e))) * IntKind.u64.wrap ((absI m).tdiv (gcdI (absI m) (IntKind.u64.wrap d))) / 18446744073709551616 + IntKind.u64.wrap ((IntKind.u64.wrap d).tdiv (gcdI (absI m) (IntKind.u64.wrap d))) * IntKind.u64.wrap ((IntKind.u64.wrap e).tdiv (gcdI (absI n) (IntKind.u64.wrap e))) / 18446744073709551616) > 0)) (some [.agg [.v (i64 (0)), .v (i64 (0))], .v (i64 (16))]) (br (decide (IntKind.u64.wrap ((absI n).tdiv (gcdI (absI n) (IntKind.u64.wrap e))) * IntKind.u64.wrap ((absI m).tdiv (gcdI (absI m) (IntKind.u64.wrap d))) % 18446744073709551616 > 0)) (br (uR (IntKind.u64.wrap ((absI n).tdiv (gcdI (absI n) (IntKind.u64.wrap e))) * IntKind.u64.wrap ((absI m).tdiv (gcdI (absI m) (IntKind.u64.wrap d))) % 18446744073709551616) && uR (IntKind.u64.wrap ((IntKind.u64.wrap d).tdiv (gcdI (absI m) (IntKind.u64.wrap d))) * IntKind.u64.wrap ((IntKind.u64.wrap e).tdiv (gcdI (absI n) (IntKind.u64.wrap e))) % 18446744073709551616)) (some [.agg [.v (i64 (mkN (!decide (n < 0) == decide (m < 0)) (IntKind.u64.wrap ((absI n).tdiv (gcdI (absI n) (IntKind.u64.wrap e))) * IntKind.u64.wrap ((absI m).tdiv (gcdI (absI m) (IntKind.u64.wrap d))) % 18446744073709551616) (IntKind.u64.wrap ((IntKind.u64.wrap d).tdiv (gcdI (absI m) (IntKind.u64.wrap d))) * IntKind.u64.wrap ((IntKind.u64.wrap e).tdiv (gcdI (absI n) (IntKind.u64.wrap e))) % 18446744073709551616))), .v (i64 (mkD (IntKind.u64.wrap ((absI n).tdiv (gcdI (absI n) (IntKind.u64.wrap e))) * IntKind.u64.wrap ((absI m).tdiv (gcdI (absI m) (IntKind.u64.wrap d))) % 18446744073709551616) (IntKind.u64.wrap ((IntKind.u64.wrap d).tdiv (gcdI (absI m) (IntKind.u64.wrap d))) * IntKind.u64.wrap ((IntKind.u64.wrap e).tdiv (gcdI (absI n) (IntKind.u64.wrap e))) % 18446744073709551616)))], .v (i64 (mkE (IntKind.u64.wrap ((absI n).tdiv (gcdI (absI n) (IntKind.u64.wrap e))) * IntKind.u64.wrap ((absI m).tdiv (gcdI (absI m) (IntKind.u64.wrap d))) % 18446744073709551616) (IntKind.u64.wrap ((IntKind.u64.wrap d).tdiv (gcdI (absI m) (IntKind.u64.wrap d))) * IntKind.u64.wrap ((IntKind.u64.wrap e).tdiv (gcdI (absI n) (IntKind.u64.wrap e))) % 18446744073709551616)))]) (none)) (br (uR (IntKind.u64.wrap ((absI n).tdiv (gcdI (absI n) (IntKind.u64.wrap e))) * IntKind.u64.wrap ((absI m).tdiv (gcdI (absI m) (IntKind.u64.wrap d))) % 18446744073709551616) && uR (IntKind.u64.wrap ((IntKind.u64.wrap d).tdiv (gcdI (absI m) (IntKind.u64.wrap d))) * IntKind.u64.wrap ((IntKind.u64.wrap e).tdiv (gcdI (absI n) (IntKind.u64.wrap e))) % 18446744073709551616)) (some [.agg [.v (i64 (mkN false (IntKind.u64.wrap ((absI n).tdiv (gcdI (absI n) (IntKind.u64.wrap e))) * IntKind.u64.wrap ((absI m).tdiv (gcdI (absI m) (IntKind.u64.wrap d))) % 18446744073709551616) (IntKind.u64.wrap ((IntKind.u64.wrap d).tdiv (gcdI (absI m) (IntKind.u64.wrap d))) * IntKind.u64.wrap ((IntKind.u64.wrap e).tdiv (gcdI (absI n) (IntKind.u64.wrap e))) % 18446744073709551616))), .v (i64 (mkD (IntKind.u64.wrap ((absI n).tdiv (gcdI (absI n) (IntKind.u64.wrap e))) * IntKind.u64.wrap ((absI m).tdiv (gcdI (absI m) (IntKind.u64.wrap d))) % 18446744073709551616) (IntKind.u64.wrap ((IntKind.u64.wrap d).tdiv (gcdI (absI m) (IntKind.u64.wrap d))) * IntKind.u64.wrap ((IntKind.u64.wrap e).tdiv (gcdI (absI n) (IntKind.u64.wrap e))) % 18446744073709551616)))], .v (i64 (mkE (IntKind.u64.wrap ((absI n).tdiv (gcdI (absI n) (IntKind.u64.wrap e))) * IntKind.u64.wrap ((absI m).tdiv (gcdI (absI m) (IntKind.u64.wrap d))) % 18446744073709551616) (IntKind.u64.wrap ((IntKind.u64.wrap d).tdiv (gcdI (absI m) (IntKind.u64.wrap d))) * IntKind.u64.wrap ((IntKind.u64.wrap e).tdiv (gcdI (absI n) (IntKind.u64.wrap e))) % 18446744073709551616)))]) (none)))) (none)))) (none)))) (none)) (none)) (none)) (none))) (none) := by kernel_rfl
end Go.Proofs.YtofkkhdmjllcfaaDoor
namespace Go.Proofs.YtofkkhdmjllcfaaDoor
open Go.Ev
set_option linter.all false
def pN (n d m e : Int) : Int := (absI n / gcdI (absI n) e) * (absI m / gcdI (absI m) d)
def pD (n d m e : Int) : Int := (d / gcdI (absI m) d) * (e / gcdI (absI n) e)
def sgn (n m : Int) : Bool := !decide (n < 0) == decide (m < 0)
def prN (n d m e : Int) : Int := if chk2 n d m e = 0 then mkN (decide (pN n d m e > 0) && sgn n m) (pN n d m e) (pD n d m e) else 0
def prD (n d m e : Int) : Int := if chk2 n d m e = 0 then mkD (pN n d m e) (pD n d m e) else 0
def prE (n d m e : Int) : Int := if chk2 n d m e = 0 then mkE (pN n d m e) (pD n d m e) else chk2 n d m e
def Fpr : List D → Option (Bool × List D)
  | [.agg [.v (.int .i64 n), .v (.int .i64 d)], .agg [.v (.int .i64 m), .v (.int .i64 e)]] => some (iR n && iR d && iR m && iR e, [.agg [.v (i64 (prN n d m e)), .v (i64 (prD n d m e))], .v (i64 (prE n d m e))])
  | _ => none
theorem chk2_good {n d m e : Int} (h : chk2 n d m e = 0) : goodR n d ∧ goodR m e := by
  unfold chk2 at h
  split at h
  · rename_i h1
    exact ⟨chk_good h1, chk_good h⟩
  · contradiction
theorem mul_most {x y : Int} (h0 : 0 ≤ x) (h1 : x ≤ 1000000000000000000) (h2 : 0 ≤ y) (h3 : y ≤ 1000000000000000000) : 0 ≤ x * y ∧ x * y ≤ 1000000000000000000000000000000000000 := ⟨Int.mul_nonneg h0 h2, by
  have := Int.mul_le_mul h1 h3 h2 (by decide)
  omega⟩
theorem den_mulp : Den Tryd.prog 17 Fpr := evF_den C3_ok fun ds rs h => by
  unfold Fpr at h
  split at h
  · rename_i n d m e
    simp only [Option.some.injEq, Prod.mk.injEq] at h
    obtain ⟨h0, rfl⟩ := h
    refine (tmulp n d m e).trans ?_
    rw [h0, br_true]
    simp only [Bool.and_eq_true] at h0
    obtain ⟨⟨⟨h1, h2⟩, h3⟩, h4⟩ := h0
    unfold prN prD prE
    by_cases hc : chk2 n d m e = 0
    · obtain ⟨⟨⟨d1, d2⟩, ⟨n1, n2⟩, _⟩, ⟨e1, e2⟩, ⟨m1, m2⟩, _⟩ := chk2_good hc
      have ⟨a1, a0⟩ := absI_or n
      have ⟨b1, b0⟩ := absI_or m
      have hg := gcdI_pos (absI n) e a1 (by omega)
      have hh := gcdI_pos (absI m) d b1 (by omega)
      obtain ⟨p1, p2, p3, p4⟩ := quo (absI n) _ a1 (by omega) hg
      obtain ⟨r1, r2, r3, r4⟩ := quo (absI m) _ b1 (by omega) hh
      obtain ⟨q1, q2, q3, q4⟩ := quo d _ (by omega) (by omega) hh
      obtain ⟨s1, s2, s3, s4⟩ := quo e _ (by omega) (by omega) hg
      rw [show (chk2 n d m e != 0) = false by simpa using hc, if_pos hc, if_pos hc, if_pos hc, h1, h3, wrapU_id (n := d) (by omega) (by omega), wrapU_id (n := e) (by omega) (by omega), p1, r1, q1, s1, p4, r4, q4, s4,
        show (uR (absI n) && uR e) = true by simp only [Bool.and_eq_true, uR_iff]; omega, show (uR (absI m) && uR d) = true by simp only [Bool.and_eq_true, uR_iff]; omega,
        decide_eq_false (show ¬ gcdI (absI n) e = 0 by omega), decide_eq_false (show ¬ gcdI (absI m) d = 0 by omega)]
      obtain ⟨x1, x2⟩ := mul_most p2 (by omega) r2 (by omega)
      obtain ⟨y1, y2⟩ := mul_most q2 (by omega) s2 (by omega)
      rw [show absI n / gcdI (absI n) e * (absI m / gcdI (absI m) d) = pN n d m e from rfl, show d / gcdI (absI m) d * (e / gcdI (absI n) e) = pD n d m e from rfl]
      rw [show absI n / gcdI (absI n) e * (absI m / gcdI (absI m) d) = pN n d m e from rfl] at x1 x2
      rw [show d / gcdI (absI m) d * (e / gcdI (absI n) e) = pD n d m e from rfl] at y1 y2
      generalize pN n d m e = N at *
      generalize pD n d m e = M at *
      rw [wrapU_id (n := N / 18446744073709551616 + M / 18446744073709551616) (by omega) (by omega)]
      simp only [Bool.and_self, br_true, br_false]
      by_cases ho : N / 18446744073709551616 + M / 18446744073709551616 > 0
      · obtain ⟨z1, z2, z3⟩ := mk_bad (N := N) (d := M) (by omega) (decide (N > 0) && sgn n m)
        rw [decide_eq_true ho, z1, z2, z3]; rfl
      · rw [decide_eq_false ho, br_false, show N % 18446744073709551616 = N by omega, show M % 18446744073709551616 = M by omega, show (uR N && uR M) = true by simp only [Bool.and_eq_true, uR_iff]; omega]
        cases hz : decide (N > 0) <;> simp only [br_true, br_false, Bool.true_and, Bool.false_and] <;> rfl
    · rw [show (chk2 n d m e != 0) = true by simpa using hc, if_neg hc, if_neg hc, if_neg hc]; rfl
  · cases h
end Go.Proofs.YtofkkhdmjllcfaaDoor
namespace Go.Proofs.YtofkkhdmjllcfaaDoor
open Go.Ev
set_option linter.all false
def diN (n d m e : Int) : Int := if chk2 n d m e = 0 then (if m = 0 then 0 else if m < 0 then prN n d (-e) (-m) else prN n d e m) else 0
def diD (n d m e : Int) : Int := if chk2 n d m e = 0 then (if m = 0 then 0 else if m < 0 then prD n d (-e) (-m) else prD n d e m) else 0
def diE (n d m e : Int) : Int := if chk2 n d m e = 0 then (if m = 0 then 18 else if m < 0 then prE n d (-e) (-m) else prE n d e m) else chk2 n d m e
def Fdi : List D → Option (Bool × List D)
  | [.agg [.v (.int .i64 n), .v (.int .i64 d)], .agg [.v (.int .i64 m), .v (.int .i64 e)]] => some (iR n && iR d && iR m && iR e, [.agg [.v (i64 (diN n d m e)), .v (i64 (diD n d m e))], .v (i64 (diE n d m e))])
  | _ => none
noncomputable def C4 : Cx := mkCx Tryd.prog fns [(34, Fboth), (33, Fboth), (17, Fpr), (22, Fmake), (21, Ffloor)] []
theorem C4_ok : CxOk C4 := mkCx_ok enter mixed (fun p h => by
  simp only [List.mem_cons, List.not_mem_nil, or_false] at h
  rcases h with rfl | rfl | rfl | rfl | rfl
  · exact den_check
  · exact den_both
  · exact den_mulp
  · exact den_make
  · exact den_floor) (fun l h => by cases h)
theorem tdiv (n d m e : Int) : evF C4 6 19 [.agg [.v (i64 n), .v (i64 d)], .agg [.v (i64 m), .v (i64 e)]] =
    br (iR n && iR d && iR m && iR e) (br (chk2 n d m e != 0) (some [.agg [.v (i64 (0)), .v (i64 (0))], .v (i64 (chk2 n d m e))]) (br (m == 0) (some [.agg [.v (i64 (0)), .v (i64 (0))], .v (i64 (18))]) (br (decide (m < 0)) (br (iR n && iR d && iR (IntKind.i64.wrap (0 - e)) && iR (IntKind.i64.wrap (0 - m))) (some [.agg [.v (i64 (prN n d (IntKind.i64.wrap (0 - e)) (IntKind.i64.wrap (0 - m)))), .v (i64 (prD n d (IntKind.i64.wrap (0 - e)) (IntKind.i64.wrap (0 - m))))], .v (i64 (prE n d (IntKind.i64.wrap (0 - e)) (IntKind.i64.wrap (0 - m))))]) (none)) (br (iR n && iR d && iR e && iR m) (some [.agg [.v (i64 (prN n d e m)), .v (i64 (prD n d e m))], .v (i64 (prE n d e m))]) (none))))) (none) := by kernel_rfl
theorem den_div : Den Tryd.prog 19 Fdi := evF_den C4_ok fun ds rs h => by
  unfold Fdi at h
  split at h
  · rename_i n d m e
    simp only [Option.some.injEq, Prod.mk.injEq] at h
    obtain ⟨h0, rfl⟩ := h
    refine (tdiv n d m e).trans ?_
    rw [h0, br_true]
    simp only [Bool.and_eq_true] at h0
    obtain ⟨⟨⟨h1, h2⟩, h3⟩, h4⟩ := h0
    unfold diN diD diE
    by_cases hc : chk2 n d m e = 0
    · obtain ⟨_, ⟨e1, e2⟩, ⟨m1, m2⟩, _⟩ := chk2_good hc
      rw [show (chk2 n d m e != 0) = false by simpa using hc, if_pos hc, if_pos hc, if_pos hc, wrapI_id (n := 0 - e) (by omega) (by omega), wrapI_id (n := 0 - m) (by omega) (by omega), Int.zero_sub, Int.zero_sub,
        show (iR n && iR d && iR (-e) && iR (-m)) = true by
          simp only [Bool.and_eq_true]
          exact ⟨⟨⟨h1, h2⟩, iR_iff.mpr (by omega)⟩, iR_iff.mpr (by omega)⟩,
        show (iR n && iR d && iR e && iR m) = true by
          simp only [Bool.and_eq_true]
          exact ⟨⟨⟨h1, h2⟩, h4⟩, h3⟩]
      by_cases hm : m = 0
      · rw [show (m == 0) = true by simpa using hm, if_pos hm, if_pos hm, if_pos hm]; rfl
      · rw [show (m == 0) = false by simpa using hm, if_neg hm, if_neg hm, if_neg hm]
        by_cases hn : m < 0
        · rw [decide_eq_true hn, if_pos hn, if_pos hn, if_pos hn]; rfl
        · rw [decide_eq_false hn, if_neg hn, if_neg hn, if_neg hn]; rfl
    · rw [show (chk2 n d m e != 0) = true by simpa using hc, if_neg hc, if_neg hc, if_neg hc]; rfl
  · cases h
end Go.Proofs.YtofkkhdmjllcfaaDoor
namespace Go.Proofs.YtofkkhdmjllcfaaDoor
open Go.Ev
set_option linter.all false
theorem gcdI_dvd (a b : Int) (ha : 0 ≤ a) : gcdI a b ∣ a := by
  have h := Nat.gcd_dvd_left a.toNat b.toNat
  have h2 : ((Nat.gcd a.toNat b.toNat : Nat) : Int) ∣ ((a.toNat : Nat) : Int) := Int.natCast_dvd_natCast.mpr h
  rwa [Int.toNat_of_nonneg ha] at h2
theorem gcdI_dvd2 (a b : Int) (hb : 0 ≤ b) : gcdI a b ∣ b := by
  have h := Nat.gcd_dvd_right a.toNat b.toNat
  have h2 : ((Nat.gcd a.toNat b.toNat : Nat) : Int) ∣ ((b.toNat : Nat) : Int) := Int.natCast_dvd_natCast.mpr h
  rwa [Int.toNat_of_nonneg hb] at h2
theorem quo_pos (a b : Int) (ha : 0 ≤ a) (hb : 0 < b) : 0 < a / gcdI a b ↔ 0 < a := by
  have hg := gcdI_pos a b ha hb
  obtain ⟨c, hc⟩ := gcdI_dvd a b ha
  generalize gcdI a b = g at *
  rw [hc, Int.mul_ediv_cancel_left _ (by omega)]
  constructor
  · intro h; exact Int.mul_pos hg h
  · intro h; exact Int.pos_of_mul_pos_right h hg
theorem pN_pos (n d m e : Int) (hd : 0 < d) (he : 0 < e) : pN n d m e > 0 ↔ n ≠ 0 ∧ m ≠ 0 := by
  have ⟨a1, a0⟩ := absI_or n
  have ⟨b1, b0⟩ := absI_or m
  have h1 := quo_pos (absI n) e a1 he
  have h2 := quo_pos (absI m) d b1 hd
  have p1 := Int.ediv_nonneg a1 (gcdI_nonneg (absI n) e)
  have p2 := Int.ediv_nonneg b1 (gcdI_nonneg (absI m) d)
  unfold pN
  generalize absI n / gcdI (absI n) e = x at *
  generalize absI m / gcdI (absI m) d = y at *
  constructor
  · intro h
    have hx : x ≠ 0 := fun h0 => by rw [h0, Int.zero_mul] at h; omega
    have hy : y ≠ 0 := fun h0 => by rw [h0, Int.mul_zero] at h; omega
    omega
  · intro h
    exact Int.mul_pos (by omega) (by omega)
end Go.Proofs.YtofkkhdmjllcfaaDoor
namespace Go.Proofs.YtofkkhdmjllcfaaDoor
open Go.Ev
set_option linter.all false
theorem iR_wf {n : Int} (h : (Lit.int .i64 n).wf = true) : iR n = true := iR_iff.mpr (by have := wf64.1 h; omega)
end Go.Proofs.YtofkkhdmjllcfaaDoor

/- The reference's products; checks; what is made of numerator and denominator. No conditions. -/
import Derived.Test.YtofkkhdmjllcfaaR3
namespace Go.Proofs.Ytofkkhdmjllcfaa
open Go.Ev
set_option linter.all false
theorem den_times : Den Try.prog 30 Ftimes := evF_den C0_ok fun ds rs h => by
  unfold Ftimes at h
  split at h
  · rename_i x y
    simp only [Option.some.injEq, Prod.mk.injEq, Bool.and_eq_true, uR_iff] at h
    obtain ⟨⟨⟨x0, x1⟩, y0, y1⟩, rfl⟩ := h
    refine (ttimes x y).trans ?_
    rw [andM x x0 x1, andM y y0 y1, shrM x x0, shrM y y0]
    obtain ⟨p00, p01, p10, p11, h00, h01, h10, h11, b00, b01, b10, b11, hxy⟩ := mul_parts x y x0 x1 y0 y1
    rw [← h00, ← h01, ← h10, ← h11, hxy]
    clear h00 h01 h10 h11 hxy
    rw [wrapU_id (n := p00) (by omega) (by omega), wrapU_id (n := p01) (by omega) (by omega), wrapU_id (n := p10) (by omega) (by omega), wrapU_id (n := p11) (by omega) (by omega), shrM p00 (by omega), shrM p10 (by omega),
      andM p10 (by omega) (by omega), andM p00 (by omega) (by omega), wrapU_id (n := p10 % 4294967296 + p01) (by omega) (by omega), wrapU_id (n := p10 % 4294967296 + p01 + p00 / 4294967296) (by omega) (by omega),
      shrM (p10 % 4294967296 + p01 + p00 / 4294967296) (by omega)]
    rw [wrapU ((p10 % 4294967296 + p01 + p00 / 4294967296) * 2 ^ 32), show ((2 : Int) ^ 32) = 4294967296 from rfl, orM _ _ (by omega) (by omega) (by omega) (by omega) (by omega), wrapU, wrapU]
    refine congrArg some ?_
    refine congrArg (fun x => [x]) ?_
    refine congrArg D.agg ?_
    congr 1
    · refine congrArg (fun n => D.v (u64 n)) ?_
      omega
    · refine congrArg (fun n => [D.v (u64 n)]) ?_
      omega
  · cases h
/-- A valid ratio. -/
def goodR (n d : Int) : Prop := (1 ≤ d ∧ d ≤ 1000000000000000000) ∧ (-1000000000000000000 ≤ n ∧ n ≤ 1000000000000000000) ∧ gcdI (absI n) d = 1
instance {n d : Int} : Decidable (goodR n d) := by unfold goodR; infer_instance
def chkE (n d : Int) : Int := if goodR n d then 0 else 8
def mkE (N D : Int) : Int := if 1000000000000000000 < N ∨ 1000000000000000000 < D then 16 else 0
def mkN (neg : Bool) (N D : Int) : Int := if mkE N D = 0 then (if neg = true then -N else N) else 0
def mkD (N D : Int) : Int := if mkE N D = 0 then D else 0
theorem absI_nonneg (n : Int) : 0 ≤ absI n := by unfold absI; split <;> omega
theorem gcdI_nonneg (a b : Int) : 0 ≤ gcdI a b := Int.natCast_nonneg _
theorem gcdI_pos (a b : Int) (ha : 0 ≤ a) (hb : 0 < b) : 0 < gcdI a b := by
  unfold gcdI
  have : 0 < Nat.gcd a.toNat b.toNat := Nat.gcd_pos_of_pos_right _ (by omega)
  omega
def Fchk : List D → Option (Bool × List D)
  | [.agg [.v (.int .i64 n), .v (.int .i64 d)]] => some (iR n && iR d, [.v (i64 (chkE n d))])
  | _ => none
noncomputable def C1 : Cx := mkCx Try.prog fns [(22, Fgcd), (25, Fgcd), (21, Fsize), (24, Fsize)] []
theorem C1_ok : CxOk C1 := mkCx_ok enter mixed (fun p h => by
  simp only [List.mem_cons, List.not_mem_nil, or_false] at h
  rcases h with rfl | rfl | rfl | rfl
  · exact den_gcd
  · exact den_gcdr
  · exact den_size
  · exact den_abs) (fun l h => by cases h)
theorem tchk (n d : Int) : evF C1 6 19 [.agg [.v (i64 n), .v (i64 d)]] =
    br (decide (d < 1)) (some [.v (i64 (8))]) (br (iR n) (br (decide ((if IntKind.u64.wrap d > absI n then IntKind.u64.wrap d else absI n) > 1000000000000000000)) (some [.v (i64 (8))]) (br (iR n) (br (uR (absI n) && uR (IntKind.u64.wrap d)) (br (decide (gcdI (absI n) (IntKind.u64.wrap d) > 1)) (some [.v (i64 (8))]) (some [.v (i64 (0))])) (none)) (none))) (none)) := by kernel_rfl
theorem tchkr (n d : Int) : evF C1 6 20 [.agg [.v (i64 n), .v (i64 d)]] =
    br (decide (d < 1)) (some [.v (i64 (8))]) (br (decide (d > 1000000000000000000)) (some [.v (i64 (8))]) (br (decide (n < -1000000000000000000)) (some [.v (i64 (8))]) (br (decide (n > 1000000000000000000)) (some [.v (i64 (8))]) (br (iR n) (br (uR (absI n) && uR (IntKind.u64.wrap d)) (br (gcdI (absI n) (IntKind.u64.wrap d) != 1) (some [.v (i64 (8))]) (some [.v (i64 (0))])) (none)) (none))))) := by kernel_rfl
theorem tsigned (m : Bool) (N D : Int) : evF C1 6 23 [.v (.bool m), .v (u64 N), .v (u64 D)] =
    br (decide ((if D > N then D else N) > 1000000000000000000)) (some [.agg [.v (i64 (0)), .v (i64 (0))], .v (i64 (16))]) (br (m) (some [.agg [.v (i64 (IntKind.i64.wrap (0 - IntKind.i64.wrap N))), .v (i64 (IntKind.i64.wrap D))], .v (i64 (0))]) (some [.agg [.v (i64 (IntKind.i64.wrap N)), .v (i64 (IntKind.i64.wrap D))], .v (i64 (0))])) := by kernel_rfl
theorem tmade (m : Bool) (h1 N h2 D : Int) : evF C1 6 26 [.v (.bool m), .agg [.v (u64 h1), .v (u64 N)], .agg [.v (u64 h2), .v (u64 D)]] =
    br (decide (h1 > 0)) (some [.agg [.v (i64 (0)), .v (i64 (0))], .v (i64 (16))]) (br (decide (h2 > 0)) (some [.agg [.v (i64 (0)), .v (i64 (0))], .v (i64 (16))]) (br (decide (N > 1000000000000000000)) (some [.agg [.v (i64 (0)), .v (i64 (0))], .v (i64 (16))]) (br (decide (D > 1000000000000000000)) (some [.agg [.v (i64 (0)), .v (i64 (0))], .v (i64 (16))]) (br (m) (some [.agg [.v (i64 (IntKind.i64.wrap (0 - IntKind.i64.wrap N))), .v (i64 (IntKind.i64.wrap D))], .v (i64 (0))]) (some [.agg [.v (i64 (IntKind.i64.wrap N)), .v (i64 (IntKind.i64.wrap D))], .v (i64 (0))]))))) := by kernel_rfl
end Go.Proofs.Ytofkkhdmjllcfaa

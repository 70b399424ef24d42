/- Sums and comparisons: trees. No conditions. -/
import Derived.Test.YtofkkhdmjllcfaaR17
namespace Go.Proofs.Ytofkkhdmjllcfaa
open Go.Ev
set_option linter.all false
noncomputable def C12 : Cx := mkCx Try.prog fns [(22, Fgcd), (25, Fgcd), (21, Fsize), (24, Fsize), (27, Fboth), (29, Fboth), (23, Fsigned), (26, Fmade), (28, Fmul), (30, Ftimes), (34, Fdv), (33, Frem), (35, Fplus), (36, Fminus), (37, Fless), (38, Fsplit), (40, Fcmpi), (42, Fcmpu)] [] [(31, Xadd), (32, Xsub)]
theorem C12_ok : CxOk C12 := fun wb => mkCx_okX (W := fun _ => True) enter mixed (fun p h => by
  simp only [List.mem_cons, List.not_mem_nil, or_false] at h
  rcases h with rfl | rfl | rfl | rfl | rfl | rfl | rfl | rfl | rfl | rfl | rfl | rfl | rfl | rfl | rfl | rfl | rfl | rfl
  · exact den_gcd.at _
  · exact den_gcdr.at _
  · exact den_size.at _
  · exact den_abs.at _
  · exact den_check.at _
  · exact den_both.at _
  · exact den_signed.at _
  · exact den_made.at _
  · exact den_mul.at _
  · exact den_times.at _
  · exact den_div64.at _
  · exact den_rem.at _
  · exact den_plus.at _
  · exact den_minus.at _
  · exact den_less.at _
  · exact den_split.at _
  · exact den_cmpi.at _
  · exact den_cmpu.at _) (fun l h => by cases h) (fun p h => by
  simp only [List.mem_cons, List.not_mem_nil, or_false] at h
  rcases h with rfl | rfl
  · exact ext_add
  · exact ext_sub) wb trivial
theorem tcmp (n d m e : Int) : evF C12 6 17 [.agg [.v (i64 n), .v (i64 d)], .agg [.v (i64 m), .v (i64 e)]] =
    br (iR n && iR d && iR m && iR e) (br (chk2 n d m e != 0) (some [.v (i64 (0)), .v (i64 (chk2 n d m e))]) (br (!decide (n < 0) == decide (m < 0)) (some [.v (i64 (cmpI n m)), .v (i64 (0))]) (br (iR n) (br (uR (absI n) && uR (IntKind.u64.wrap e)) (br (iR m) (br (uR (absI m) && uR (IntKind.u64.wrap d)) (br ((((Row.zeros 2).setI 0 0 (cmpI (absI n * IntKind.u64.wrap e / 18446744073709551616) (absI m * IntKind.u64.wrap d / 18446744073709551616))).setI 1 0 (cmpI (absI n * IntKind.u64.wrap e % 18446744073709551616) (absI m * IntKind.u64.wrap d % 18446744073709551616))).I 0 0 != 0) (br (decide (n < 0)) (some [.v (i64 (IntKind.i64.wrap (0 - (((Row.zeros 2).setI 0 0 (cmpI (absI n * IntKind.u64.wrap e / 18446744073709551616) (absI m * IntKind.u64.wrap d / 18446744073709551616))).setI 1 0 (cmpI (absI n * IntKind.u64.wrap e % 18446744073709551616) (absI m * IntKind.u64.wrap d % 18446744073709551616))).I 0 0))), .v (i64 (0))]) (some [.v (i64 ((((Row.zeros 2).setI 0 0 (cmpI (absI n * IntKind.u64.wrap e / 18446744073709551616) (absI m * IntKind.u64.wrap d / 18446744073709551616))).setI 1 0 (cmpI (absI n * IntKind.u64.wrap e % 18446744073709551616) (absI m * IntKind.u64.wrap d % 18446744073709551616))).I 0 0)), .v (i64 (0))])) (br ((((Row.zeros 2).setI 0 0 (cmpI (absI n * IntKind.u64.wrap e / 18446744073709551616) (absI m * IntKind.u64.wrap d / 18446744073709551616))).setI 1 0 (cmpI (absI n * IntKind.u64.wrap e % 18446744073709551616) (absI m * IntKind.u64.wrap d % 18446744073709551616))).I 1 0 != 0) (br (decide (n < 0)) (some [.v (i64 (IntKind.i64.wrap (0 - (((Row.zeros 2).setI 0 0 (cmpI (absI n * IntKind.u64.wrap e / 18446744073709551616) (absI m * IntKind.u64.wrap d / 18446744073709551616))).setI 1 0 (cmpI (absI n * IntKind.u64.wrap e % 18446744073709551616) (absI m * IntKind.u64.wrap d % 18446744073709551616))).I 1 0))), .v (i64 (0))]) (some [.v (i64 ((((Row.zeros 2).setI 0 0 (cmpI (absI n * IntKind.u64.wrap e / 18446744073709551616) (absI m * IntKind.u64.wrap d / 18446744073709551616))).setI 1 0 (cmpI (absI n * IntKind.u64.wrap e % 18446744073709551616) (absI m * IntKind.u64.wrap d % 18446744073709551616))).I 1 0)), .v (i64 (0))])) (br (decide (n < 0)) (some [.v (i64 (0)), .v (i64 (0))]) (some [.v (i64 (0)), .v (i64 (0))])))) (none)) (none)) (none)) (none)))) (none) := by kernel_rfl
theorem tlessr (n d m e : Int) : evF C12 6 43 [.agg [.v (i64 n), .v (i64 d)], .agg [.v (i64 m), .v (i64 e)]] =
    br (!decide (n < 0) == decide (m < 0)) (some [.v (.bool (decide (n < 0)))]) (br (iR n) (br (uR (absI n) && uR (IntKind.u64.wrap e)) (br (iR m) (br (uR (absI m) && uR (IntKind.u64.wrap d)) (br (decide (n < 0)) (br (uR (absI m * IntKind.u64.wrap d / 18446744073709551616) && uR (absI m * IntKind.u64.wrap d % 18446744073709551616) && uR (absI n * IntKind.u64.wrap e / 18446744073709551616) && uR (absI n * IntKind.u64.wrap e % 18446744073709551616)) (some [.v (.bool (decide (wd (absI m * IntKind.u64.wrap d / 18446744073709551616) (absI m * IntKind.u64.wrap d % 18446744073709551616) < wd (absI n * IntKind.u64.wrap e / 18446744073709551616) (absI n * IntKind.u64.wrap e % 18446744073709551616))))]) (none)) (br (uR (absI n * IntKind.u64.wrap e / 18446744073709551616) && uR (absI n * IntKind.u64.wrap e % 18446744073709551616) && uR (absI m * IntKind.u64.wrap d / 18446744073709551616) && uR (absI m * IntKind.u64.wrap d % 18446744073709551616)) (some [.v (.bool (decide (wd (absI n * IntKind.u64.wrap e / 18446744073709551616) (absI n * IntKind.u64.wrap e % 18446744073709551616) < wd (absI m * IntKind.u64.wrap d / 18446744073709551616) (absI m * IntKind.u64.wrap d % 18446744073709551616))))]) (none))) (none)) (none)) (none)) (none)) := by kernel_rfl
def adE16 : Option (List D) := some [.agg [.v (i64 0), .v (i64 0)], .v (i64 16)]
def adZ : Option (List D) := some [.agg [.v (i64 0), .v (i64 1)], .v (i64 0)]
/-- What is left to do behind the sum (program): d, e are the denominators, g what they have in common. -/
def adT3 (neg : Bool) (N M : Int) : Option (List D) := br (uR N && uR M) (some [.agg [.v (i64 (mkN neg N M)), .v (i64 (mkD N M))], .v (i64 (mkE N M))]) none
def adT2 (d e g : Int) (neg : Bool) (hi lo h : Int) : Option (List D) :=
  br (decide (hi ≥ h)) adE16 (br (uR hi && uR lo && uR h && decide (hi < h)) (br (decide (g = 0)) none (br (decide (h = 0)) none
    (br (uR (wu (d.tdiv g)) && uR (wu (e.tdiv h))) (br (decide (wu (d.tdiv g) * wu (e.tdiv h) / 18446744073709551616 > 0)) adE16 (adT3 neg (wd hi lo / h) (wu (d.tdiv g) * wu (e.tdiv h) % 18446744073709551616))) none))) none)
def adT1 (d e g : Int) (neg : Bool) (hi lo : Int) : Option (List D) :=
  br (uR hi && uR lo && uR g && decide (0 < g)) (br (uR (wd hi lo % g) && uR g) (adT2 d e g neg hi lo (gcdI (wd hi lo % g) g)) none) none
def adT0 (d e g : Int) (neg : Bool) (hi lo : Int) : Option (List D) := br (hi == 0) (br (lo == 0) adZ (adT1 d e g neg hi lo)) (adT1 d e g neg hi lo)
def adSub (d e g : Int) (neg : Bool) (xh xl yh yl : Int) : Option (List D) :=
  br (uR xl && uR yl && (decide ((0 : Int) ≤ 0) && decide ((0 : Int) ≤ 1))) (br (uR xh && uR yh && (decide (0 ≤ bor xl (yl + 0)) && decide (bor xl (yl + 0) ≤ 1)))
    (adT0 d e g neg ((xh - yh - bor xl (yl + 0)) % 18446744073709551616) ((xl - yl - 0) % 18446744073709551616)) none) none
def adMain (n d m e g xh xl yh yl : Int) : Option (List D) :=
  br (decide (n < 0) == decide (m < 0))
    (br (uR xl && uR yl && (decide ((0 : Int) ≤ 0) && decide ((0 : Int) ≤ 1))) (br (uR xh && uR yh && (decide (0 ≤ (xl + yl + 0) / 18446744073709551616) && decide ((xl + yl + 0) / 18446744073709551616 ≤ 1)))
      (adT0 d e g (decide (n < 0)) ((xh + yh + (xl + yl + 0) / 18446744073709551616) % 18446744073709551616) ((xl + yl + 0) % 18446744073709551616)) none) none)
    (br (decide (xh < yh)) (adSub d e g (!decide (n < 0)) yh yl xh xl) (br (xh == yh) (br (decide (xl < yl)) (adSub d e g (!decide (n < 0)) yh yl xh xl) (adSub d e g (decide (n < 0)) xh xl yh yl)) (adSub d e g (decide (n < 0)) xh xl yh yl)))
def adG (n m d e g : Int) (k : Int → Int → Option (List D)) : Option (List D) :=
  br (uR d && uR e) (br (iR n) (br (decide (g = 0)) none (br (uR (absI n) && uR (wu (e.tdiv g))) (br (iR m) (br (decide (g = 0)) none (br (uR (absI m) && uR (wu (d.tdiv g))) (k (absI n * wu (e.tdiv g)) (absI m * wu (d.tdiv g))) none)) none) none)) none) none
def adP (n d m e : Int) : Option (List D) :=
  br (iR n && iR d && iR m && iR e) (br (chk2 n d m e != 0) (some [.agg [.v (i64 0), .v (i64 0)], .v (i64 (chk2 n d m e))])
    (adG n m (wu d) (wu e) (gcdI (wu d) (wu e)) fun x y => adMain n (wu d) m (wu e) (gcdI (wu d) (wu e)) (x / 18446744073709551616) (x % 18446744073709551616) (y / 18446744073709551616) (y % 18446744073709551616))) none
set_option maxRecDepth 100000 in
theorem taddp (n d m e : Int) : evF C12 6 13 [.agg [.v (i64 n), .v (i64 d)], .agg [.v (i64 m), .v (i64 e)]] = adP n d m e := by kernel_rfl
/-- The same of the reference. -/
def arT2 (d e g : Int) (neg : Bool) (Q P : Int) : Option (List D) :=
  br (uR (Q / 18446744073709551616) && uR (Q % 18446744073709551616) && uR (P / 18446744073709551616) && uR (P % 18446744073709551616))
    (some [.agg [.v (i64 (mkN neg (Q / 18446744073709551616 * 18446744073709551616 + Q % 18446744073709551616) (P / 18446744073709551616 * 18446744073709551616 + P % 18446744073709551616))), .v (i64 (mkD (Q / 18446744073709551616 * 18446744073709551616 + Q % 18446744073709551616) (P / 18446744073709551616 * 18446744073709551616 + P % 18446744073709551616)))], .v (i64 (mkE (Q / 18446744073709551616 * 18446744073709551616 + Q % 18446744073709551616) (P / 18446744073709551616 * 18446744073709551616 + P % 18446744073709551616)))]) none
def arT1 (d e g : Int) (neg : Bool) (hi lo h : Int) : Option (List D) :=
  br (uR hi && uR lo && (decide (0 < h) && decide (h < 9223372036854775808))) (br (decide (g = 0)) none (br (decide (h = 0)) none (br (uR (wu (d.tdiv g)) && uR (wu (e.tdiv h))) (arT2 d e g neg (wd hi lo / h) (wu (d.tdiv g) * wu (e.tdiv h))) none))) none
def arT0 (d e g : Int) (neg : Bool) (T : Int) : Option (List D) :=
  br (T / 18446744073709551616 == 0 && (T % 18446744073709551616 == 0 && true)) adZ
    (br (uR (T / 18446744073709551616) && uR (T % 18446744073709551616) && (decide (0 < g) && decide (g < 9223372036854775808)))
      (br (uR (wd (T / 18446744073709551616) (T % 18446744073709551616) % g) && uR g) (arT1 d e g neg (T / 18446744073709551616) (T % 18446744073709551616) (gcdI (wd (T / 18446744073709551616) (T % 18446744073709551616) % g) g)) none) none)
def arMain (n d m e g xh xl yh yl : Int) : Option (List D) :=
  br (uR xh && uR xl && uR yh && uR yl && decide (wd xh xl + wd yh yl < 340282366920938463463374607431768211456))
    (br (!decide (n < 0) == decide (m < 0))
      (br (uR xh && uR xl && uR yh && uR yl) (br (uR xh && uR xl && uR yh && uR yl) (br (decide (wd xh xl < wd yh yl))
        (br (uR yh && uR yl && uR xh && uR xl) (arT0 d e g (decide (m < 0)) ((wd yh yl - wd xh xl) % 340282366920938463463374607431768211456)) none)
        (arT0 d e g (decide (n < 0)) ((wd xh xl - wd yh yl) % 340282366920938463463374607431768211456))) none) none)
      (arT0 d e g (decide (n < 0)) (wd xh xl + wd yh yl))) none
def adR (n d m e : Int) : Option (List D) :=
  br (iR n && iR d && iR m && iR e) (br (chk2 n d m e != 0) (br (iR n && iR d && iR m && iR e) (some [.agg [.v (i64 0), .v (i64 0)], .v (i64 (chk2 n d m e))]) none)
    (adG n m (wu d) (wu e) (gcdI (wu d) (wu e)) fun x y => arMain n (wu d) m (wu e) (gcdI (wu d) (wu e)) (x / 18446744073709551616) (x % 18446744073709551616) (y / 18446744073709551616) (y % 18446744073709551616))) none
set_option maxRecDepth 100000 in
theorem taddr (n d m e : Int) : evF C12 6 14 [.agg [.v (i64 n), .v (i64 d)], .agg [.v (i64 m), .v (i64 e)]] = adR n d m e := by kernel_rfl
end Go.Proofs.Ytofkkhdmjllcfaa

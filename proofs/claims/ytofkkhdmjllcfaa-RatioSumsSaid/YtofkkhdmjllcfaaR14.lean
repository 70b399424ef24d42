/- Division of 128 bits by 64: contracts. No conditions. -/
import Derived.Test.YtofkkhdmjllcfaaR13
namespace Go.Proofs.Ytofkkhdmjllcfaa
open Go.Ev
set_option linter.all false
def wu (n : Int) : Int := IntKind.u64.wrap n
def dv3 (y s d q1 v q0 : Int) : Option (List D) := br (decide (s < 0)) none (some [.v (.int .u64 (wu (wu (q1 * 4294967296) + q0))), .v (.int .u64 ((wu (wu (wu (v * 4294967296) + d) - wu (q0 * y))).fdiv (2 ^ min s.toNat 64)))])
def dv2 (cd : Int → Int → Int → Int → Int → Int → Int → Bool) (y s a b d q1 v : Int) : Option (List D) := br (decide (a = 0)) none (br (cd y a b v d (wu (v.tdiv a)) (wu (v - wu (wu (v.tdiv a) * a)))) (dv3 y s d q1 v ((v * 4294967296 + d) / y)) none)
def dv1 (cd : Int → Int → Int → Int → Int → Int → Int → Bool) (y s a b u c d : Int) : Option (List D) := br (decide (a = 0)) none (br (cd y a b u c (wu (u.tdiv a)) (wu (u - wu (wu (u.tdiv a) * a)))) (dv2 cd y s a b d ((u * 4294967296 + c) / y) (wu (wu (wu (u * 4294967296) + c) - wu ((u * 4294967296 + c) / y * y)))) none)
def sh (x s : Int) : Int := wu (x * 2 ^ min s.toNat 64)
def sr (x s : Int) : Int := x.fdiv (2 ^ min s.toNat 64)
def hiW (x : Int) : Int := x.fdiv (2 ^ 32)
def loW (x : Int) : Int := wu ((BitVec.ofInt 64 x &&& BitVec.ofInt 64 4294967295).toNat : Int)
def dv0 (cd : Int → Int → Int → Int → Int → Int → Int → Bool) (h l y s : Int) : Option (List D) :=
  br (decide (s < 0)) none (br (decide (s < 0)) none (br (decide (wu (64 - s) < 0)) none (br (decide (s < 0)) none
    (dv1 cd (sh y s) s (hiW (sh y s)) (loW (sh y s)) (wu ((BitVec.ofInt 64 (sh h s) ||| BitVec.ofInt 64 (sr l (wu (64 - s)))).toNat : Int)) (hiW (sh l s)) (loW (sh l s))))))
def dvT (cd : Int → Int → Int → Int → Int → Int → Int → Bool) (h l y : Int) : Option (List D) :=
  br (y == 0) none (br (decide (y ≤ h)) none (br (h == 0) (br (decide (y = 0)) none (br (decide (y = 0)) none (some [.v (.int .u64 (wu (l.tdiv y))), .v (.int .u64 (l.tmod y))])))
    (br (uR y && decide (0 < y)) (dv0 cd h l y (wu (lzI y))) none)))
set_option maxRecDepth 100000 in
theorem tdv (cd : Int → Int → Int → Int → Int → Int → Int → Bool) (h l y : Int) : evF (C8g cd) 6 34 [.v (u64 h), .v (u64 l), .v (u64 y)] = dvT cd h l y := by kernel_rfl
end Go.Proofs.Ytofkkhdmjllcfaa

/- Package ledger: the most groups of a set of parties: the loop over the sets within a set. No conditions. -/
import Derived.Test.YtpblmkephkhlkaaDoorE2
namespace Go.Proofs.YtpblmkephkhlkaaDoor
open Go.Ev
set_option linter.all false
def sl (i n : Nat) : Value := .slice (some ⟨i, 0, some 0⟩) n 0
def Rb (own : Bool) (r : Row) : Option Blk := some (.row [.int .i64] own r)
def wi (n : Int) : Int := IntKind.i64.wrap n
def bAnd (a b : Int) : Int := IntKind.i64.wrap ((BitVec.ofInt 64 a &&& BitVec.ofInt 64 b).toNat : Int)
def bXor (a b : Int) : Int := IntKind.i64.wrap ((BitVec.ofInt 64 a ^^^ BitVec.ofInt 64 b).toNat : Int)
def bOr (a b : Int) : Int := IntKind.i64.wrap ((BitVec.ofInt 64 a ||| BitVec.ofInt 64 b).toNat : Int)
def bShr (a b : Int) : Int := a.fdiv (2 ^ min b.toNat 64)
theorem ofI (a : Nat) (h : a < 18446744073709551616) : (BitVec.ofInt 64 (a : Int)).toNat = a := by
  rw [BitVec.ofInt_natCast, BitVec.toNat_ofNat]
  exact Nat.mod_eq_of_lt h
theorem wiN {n : Int} (h1 : -9223372036854775808 ≤ n) (h2 : n ≤ 9223372036854775807) : wi n = n := wrap64 h1 h2
theorem bAndN (a b : Nat) (ha : a < 9223372036854775808) (hb : b < 18446744073709551616) : bAnd (a : Int) (b : Int) = ((a &&& b : Nat) : Int) := by
  unfold bAnd
  have h : a &&& b ≤ a := Nat.and_le_left
  rw [BitVec.toNat_and, ofI a (by omega), ofI b hb]
  exact wrap64 (by omega) (by omega)
theorem bXorN (a b : Nat) (ha : a < 9223372036854775808) (hb : b < 9223372036854775808) : bXor (a : Int) (b : Int) = ((a ^^^ b : Nat) : Int) := by
  unfold bXor
  have h : a ^^^ b < 2 ^ 63 := Nat.xor_lt_two_pow (by omega) (by omega)
  rw [BitVec.toNat_xor, ofI a (by omega), ofI b (by omega)]
  exact wrap64 (by omega) (by omega)
theorem bOrN (a b : Nat) (ha : a < 9223372036854775808) (hb : b < 9223372036854775808) : bOr (a : Int) (b : Int) = ((a ||| b : Nat) : Int) := by
  unfold bOr
  have h : a ||| b < 2 ^ 63 := Nat.or_lt_two_pow (by omega) (by omega)
  rw [BitVec.toNat_or, ofI a (by omega), ofI b (by omega)]
  exact wrap64 (by omega) (by omega)
theorem bShrN (a l : Nat) (hl : l ≤ 64) : bShr (a : Int) (l : Int) = ((a >>> l : Nat) : Int) := by
  unfold bShr
  rw [Int.toNat_natCast, Nat.min_eq_left hl, Int.fdiv_eq_ediv_of_nonneg _ (Int.le_of_lt (Int.pow_pos (by decide))), Nat.shiftRight_eq_div_pow, Int.natCast_ediv, Int.natCast_pow]
  rfl
/-- Whether a set has a party. -/
theorem bit_iff (a l : Nat) (ha : a < 9223372036854775808) (hl : l ≤ 64) : (bAnd (bShr (a : Int) (l : Int)) 1 == 1) = a.testBit l := by
  have h1 : a >>> l ≤ a := by rw [Nat.shiftRight_eq_div_pow]; exact Nat.div_le_self _ _
  have h2 := bAndN (a >>> l) 1 (by omega) (by omega)
  rw [bShrN a l hl, show ((1 : Int)) = ((1 : Nat) : Int) from rfl, h2, Nat.and_one_is_mod]
  unfold Nat.testBit
  rw [Nat.and_comm, Nat.and_one_is_mod]
  rcases Nat.mod_two_eq_zero_or_one (a >>> l) with h | h <;> rw [h] <;> rfl
/-- One set within s: the row of the most groups goes on. -/
def inU (sm : Row) (s low g : Nat) (ou : Row) : Row :=
  if g.testBit low = true ∧ g ≠ s ∧ sm.I g 0 = 0 then ou.setI s 0 (if wi (1 + ou.I (s ^^^ g) 0) > ou.I s 0 then wi (1 + ou.I (s ^^^ g) 0) else ou.I s 0) else ou
def innR (sm : Row) (s low : Nat) : Nat → Nat → Row → Row
  | 0, _, ou => ou
  | n + 1, g, ou => if g = 0 then ou else innR sm s low n ((g - 1) &&& s) (inU sm s low g ou)
def S11 (nb N M : Nat) (s low g : Int) (b sm ou : Row) : St := ⟨[sl 0 nb] ++ us 2 ++ [sl 1 N, sl 2 M, i64 s, i64 low, i64 g] ++ us 83, [[]], [Rb false b, Rb true sm, Rb true ou]⟩
def S11x (nb N M : Nat) (s : Int) (b sm ou : Row) : St := ⟨[sl 0 nb] ++ us 2 ++ [sl 1 N, sl 2 M, i64 s] ++ us 85, [[]], [Rb false b, Rb true sm, Rb true ou]⟩
def G11 (cd : Nat → Nat → Nat → Int → Int → Int → Bool) : List It → (X → St → Option (List D)) → Option (List D)
  | [.n nb, .n N, .n M, .i s, .i low, .i g, .r b, .r sm, .r ou], k => br (cd nb N M s low g) (k (.exit 2) (S11x nb N M s b sm (innR sm s.toNat low.toNat (g.toNat + 1) g.toNat ou))) none
  | _, _ => none
def l11 (cd : Nat → Nat → Nat → Int → Int → Int → Bool) : LoopC where
  f := 29
  id := 11
  lv := [0, 3, 4, 5, 6, 7]
  lx := [0, 2, 3, 4, 5]
  p := { τ := [.v (.sl 0)] ++ pu 2 ++ [.v (.sl 1), .v (.sl 2), .v (.int .i64), .v (.int .i64), .v (.int .i64)] ++ pu 83, saved := [[]], mem := [.row ks1 false, .row ks1 true, .row ks1 true] }
  G := G11 cd
/-- The party that comes first in a set. -/
def ctzN (s : Nat) : Nat := Lib.ctz 64 s
def smU (b : Row) (s : Nat) (sm : Row) : Row := sm.setI s 0 (wi (sm.I (s &&& (s - 1)) 0 + b.I (ctzN s) 0))
def ouU (b : Row) (s : Nat) (sm ou : Row) : Row :=
  if (smU b s sm).I s 0 ≠ 0 then ou.setI s 0 (-1) else innR (smU b s sm) s (ctzN s) (s + 1) s ((ou.setI s 0 (-1)).setI s 0 1)
def mstR (b : Row) : Nat → Nat → Row → Row → Row
  | 0, _, _, ou => ou
  | m + 1, s, sm, ou => mstR b m (s + 1) (smU b s sm) (ouU b s sm ou)
def S3 (nb N M : Nat) (s : Int) (b sm ou : Row) : St := ⟨[sl 0 nb] ++ us 2 ++ [sl 1 N, sl 2 M, i64 s] ++ us 85, [[]], [Rb false b, Rb true sm, Rb true ou]⟩
def S3x (M : Nat) (ou : Row) : St := ⟨us 4 ++ [sl 0 M] ++ us 86, [[]], [Rb true ou]⟩
def G3 (cd : Nat → Nat → Nat → Bool) : List It → (X → St → Option (List D)) → Option (List D)
  | [.n nb, .n N, .n M, .r b, .r sm, .r ou], k => br (cd nb N M) (k (.exit 0) (S3x M (mstR b (N - 1) 1 sm ou))) none
  | _, _ => none
def l3 (cd : Nat → Nat → Nat → Bool) : LoopC where
  f := 29
  id := 3
  lv := [0, 3, 4, 5]
  lx := [2, 4]
  p := { τ := [.v (.sl 0)] ++ pu 2 ++ [.v (.sl 1), .v (.sl 2), .v (.c (i64 1))] ++ pu 85, saved := [[]], mem := [.row ks1 false, .row ks1 true, .row ks1 true] }
  G := G3 cd
noncomputable def C1g (c1 : Nat → Nat → Nat → Int → Int → Int → Bool) (c2 : Nat → Nat → Nat → Bool) : Cx := mkCx Tryd.prog fns [(43, Ftz)] [l11 c1, l3 c2]
theorem round11 (c1 : Nat → Nat → Nat → Int → Int → Int → Bool) (c2 : Nat → Nat → Nat → Bool) (R : St → Option (List D)) (K : X → St → Option (List D)) (p : Nat) (nb N M : Nat) (s low g : Int) (b sm ou : Row) : evCode (C1g c1 c2) 29 true (inl (C1g c1 c2) (p + 4)) (lbody (C1g c1 c2).P 29 11) (S11 nb N M s low g b sm ou) (rnd [0, 3, 4, 5, 6, 7] (some [0, 2, 3, 4, 5]) R K) =
    br (decide (g > 0)) (br (decide (low < 0)) none (br (bAnd (bShr g low) 1 == 1) (br (g != s) (br (decide (0 ≤ g) && decide (g < (N : Int))) (br (sm.I (0 + g.toNat) 0 == 0) (br (decide (0 ≤ s) && decide (s < (M : Int))) (br (decide (0 ≤ bXor s g) && decide (bXor s g < (M : Int))) (br (decide (0 ≤ s) && decide (s < (M : Int)))
      (R (S11 nb N M s low (bAnd (wi (g - 1)) s) b sm (ou.setI (0 + s.toNat) 0 (if wi (1 + ou.I (0 + (bXor s g).toNat) 0) > ou.I (0 + s.toNat) 0 then wi (1 + ou.I (0 + (bXor s g).toNat) 0) else ou.I (0 + s.toNat) 0)))) none) none) none)
      (R (S11 nb N M s low (bAnd (wi (g - 1)) s) b sm ou))) none) (R (S11 nb N M s low (bAnd (wi (g - 1)) s) b sm ou))) (R (S11 nb N M s low (bAnd (wi (g - 1)) s) b sm ou)))) (K (.exit 2) (S11x nb N M s b sm ou)) := by kernel_rfl
def tzU (s : Int) : Int := ctzI (IntKind.u64.wrap s)
set_option maxRecDepth 100000 in
theorem round3 (c1 : Nat → Nat → Nat → Int → Int → Int → Bool) (c2 : Nat → Nat → Nat → Bool) (R : St → Option (List D)) (K : X → St → Option (List D)) (p : Nat) (nb N M : Nat) (s : Int) (b sm ou : Row) : evCode (C1g c1 c2) 29 true (inl (C1g c1 c2) (p + 4)) (lbody (C1g c1 c2).P 29 3) (S3 nb N M s b sm ou) (rnd [0, 3, 4, 5] (some [2, 4]) R K) =
    br (decide (s < (M : Int))) (br (decide (0 < IntKind.u64.wrap s) && decide (IntKind.u64.wrap s < 18446744073709551616)) (br (decide (0 ≤ bAnd s (wi (s - 1))) && decide (bAnd s (wi (s - 1)) < (N : Int))) (br (decide (0 ≤ tzU s) && decide (tzU s < (nb : Int))) (br (decide (0 ≤ s) && decide (s < (N : Int))) (br (decide (0 ≤ s) && decide (s < (M : Int))) (br (decide (0 ≤ s) && decide (s < (N : Int)))
      (br ((sm.setI (0 + s.toNat) 0 (wi (sm.I (0 + (bAnd s (wi (s - 1))).toNat) 0 + b.I (0 + (tzU s).toNat) 0))).I (0 + s.toNat) 0 != 0)
        (R (S3 nb N M (wi (s + 1)) b (sm.setI (0 + s.toNat) 0 (wi (sm.I (0 + (bAnd s (wi (s - 1))).toNat) 0 + b.I (0 + (tzU s).toNat) 0))) (ou.setI (0 + s.toNat) 0 (-1))))
        (br (decide (0 ≤ s) && decide (s < (M : Int))) (br (c1 nb N M s (tzU s) s)
          (R (S3 nb N M (wi (s + 1)) b (sm.setI (0 + s.toNat) 0 (wi (sm.I (0 + (bAnd s (wi (s - 1))).toNat) 0 + b.I (0 + (tzU s).toNat) 0))) (innR (sm.setI (0 + s.toNat) 0 (wi (sm.I (0 + (bAnd s (wi (s - 1))).toNat) 0 + b.I (0 + (tzU s).toNat) 0))) s.toNat (tzU s).toNat (s.toNat + 1) s.toNat ((ou.setI (0 + s.toNat) 0 (-1)).setI (0 + s.toNat) 0 1)))) none) none)) none) none) none) none) none) none) (K (.exit 0) (S3x M ou)) := by kernel_rfl
end Go.Proofs.YtpblmkephkhlkaaDoor

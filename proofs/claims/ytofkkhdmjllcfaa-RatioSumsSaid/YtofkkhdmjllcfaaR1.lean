/- Package ratio and its reference: plain words, and numbers of 64 bits. No conditions. -/
import Derived.Test.YtofkkhdmjllcfaaEvZ
import Derived.Test.YtofkkhdmjllcfaaRows
namespace Go.Proofs.Ytofkkhdmjllcfaa
open Go.Ev
set_option linter.all false
def u64 (n : Int) : Value := .int .u64 n
/-- In the range of numbers without a sign. -/
def uR (n : Int) : Bool := decide (0 ≤ n) && decide (n < 18446744073709551616)
theorem uR_iff {n : Int} : uR n = true ↔ 0 ≤ n ∧ n < 18446744073709551616 := by simp [uR]
/-- In the range of numbers with a sign. -/
def iR (n : Int) : Bool := decide (-9223372036854775808 ≤ n) && decide (n < 9223372036854775808)
theorem iR_iff {n : Int} : iR n = true ↔ -9223372036854775808 ≤ n ∧ n < 9223372036854775808 := by simp [iR]
theorem wrapU (n : Int) : IntKind.u64.wrap n = n % 18446744073709551616 := by
  simp [IntKind.wrap, IntKind.signed, IntKind.bits]
theorem wrapI (n : Int) : IntKind.i64.wrap n = (n + 9223372036854775808) % 18446744073709551616 - 9223372036854775808 := by
  simp only [IntKind.wrap, IntKind.signed, IntKind.bits]
  first | omega | (simp; omega)
theorem wrapU_id {n : Int} (h0 : 0 ≤ n) (h1 : n < 18446744073709551616) : IntKind.u64.wrap n = n := by rw [wrapU]; omega
theorem andM (a : Int) (h0 : 0 ≤ a) (h1 : a < 18446744073709551616) : IntKind.u64.wrap ((BitVec.ofInt 64 a &&& BitVec.ofInt 64 4294967295).toNat : Int) = a % 4294967296 := by
  obtain ⟨n, rfl⟩ : ∃ n : Nat, a = n := ⟨a.toNat, by omega⟩
  have hn : n < 2 ^ 64 := by omega
  rw [BitVec.toNat_and, BitVec.ofInt_natCast, BitVec.toNat_ofNat, Nat.mod_eq_of_lt hn, show (BitVec.ofInt 64 4294967295).toNat = 2 ^ 32 - 1 from rfl, Nat.and_two_pow_sub_one_eq_mod]
  rw [wrapU_id (by omega) (by omega)]
  omega
theorem shrM (a : Int) (h0 : 0 ≤ a) : a.fdiv (2 ^ 32) = a / 4294967296 := by
  rw [Int.fdiv_eq_ediv_of_nonneg _ (by decide)]
  rfl
theorem orN (k m : Nat) (hm : m < 4294967296) : k * 4294967296 ||| m = k * 4294967296 + m := by
  have p : (2 : Nat) ^ 32 = 4294967296 := by decide
  have e : k * 4294967296 = k <<< 32 := by rw [Nat.shiftLeft_eq, p]
  rw [e, ← Nat.shiftLeft_add_eq_or_of_lt (by rw [p]; exact hm)]
theorem orM (a b : Int) (h0 : 0 ≤ a) (h1 : a < 18446744073709551616) (h2 : a % 4294967296 = 0) (h3 : 0 ≤ b) (h4 : b < 4294967296) : IntKind.u64.wrap ((BitVec.ofInt 64 a ||| BitVec.ofInt 64 b).toNat : Int) = a + b := by
  obtain ⟨k, rfl⟩ : ∃ k : Nat, a = ((k * 4294967296 : Nat) : Int) := ⟨(a / 4294967296).toNat, by omega⟩
  obtain ⟨m, rfl⟩ : ∃ m : Nat, b = m := ⟨b.toNat, by omega⟩
  have ea : (BitVec.ofInt 64 ((k * 4294967296 : Nat) : Int)).toNat = k * 4294967296 := by
    rw [BitVec.ofInt_natCast, BitVec.toNat_ofNat]
    exact Nat.mod_eq_of_lt (by omega)
  have eb : (BitVec.ofInt 64 (m : Int)).toNat = m := by
    rw [BitVec.ofInt_natCast, BitVec.toNat_ofNat]
    exact Nat.mod_eq_of_lt (by omega)
  have hm : m < 4294967296 := by omega
  rw [BitVec.toNat_or, ea, eb, orN k m hm]
  clear ea eb
  generalize hw : k * 4294967296 = w at *
  rw [wrapU_id (n := ((w + m : Nat) : Int)) (Int.natCast_nonneg _) (by omega)]
  exact Int.natCast_add _ _
/-- What two numbers have in common. -/
def gcdI (a b : Int) : Int := (Nat.gcd a.toNat b.toNat : Nat)
theorem gcdI_zero (a : Int) (h : 0 ≤ a) : gcdI a 0 = a := by
  unfold gcdI
  rw [show (0 : Int).toNat = 0 from rfl, Nat.gcd_zero_right]
  omega
theorem gcdI_step (a b : Int) (ha : 0 ≤ a) (hb : 0 < b) : gcdI a b = gcdI b (a.tmod b) := by
  unfold gcdI
  have e : (a.tmod b).toNat = a.toNat % b.toNat := by
    rw [Int.tmod_eq_emod_of_nonneg ha]
    obtain ⟨n, rfl⟩ : ∃ n : Nat, a = n := ⟨a.toNat, by omega⟩
    obtain ⟨m, rfl⟩ : ∃ m : Nat, b = m := ⟨b.toNat, by omega⟩
    rw [← Int.natCast_emod]
    rfl
  rw [e, Nat.gcd_comm b.toNat, Nat.gcd_comm a.toNat, Nat.gcd_rec]
def absI (n : Int) : Int := if n < 0 then -n else n
/-- The whole product: its upper and its lower half. -/
theorem mul_parts (x y : Int) (hx : 0 ≤ x) (hx1 : x < 18446744073709551616) (hy : 0 ≤ y) (hy1 : y < 18446744073709551616) :
    ∃ p00 p01 p10 p11 : Int, p00 = (x % 4294967296) * (y % 4294967296) ∧ p01 = (x % 4294967296) * (y / 4294967296) ∧ p10 = (x / 4294967296) * (y % 4294967296) ∧ p11 = (x / 4294967296) * (y / 4294967296) ∧
      (0 ≤ p00 ∧ p00 ≤ 18446744065119617025) ∧ (0 ≤ p01 ∧ p01 ≤ 18446744065119617025) ∧ (0 ≤ p10 ∧ p10 ≤ 18446744065119617025) ∧ (0 ≤ p11 ∧ p11 ≤ 18446744065119617025) ∧ x * y = p11 * 18446744073709551616 + (p10 + p01) * 4294967296 + p00 := by
  have b : ∀ u v : Int, 0 ≤ u → u ≤ 4294967295 → 0 ≤ v → v ≤ 4294967295 → 0 ≤ u * v ∧ u * v ≤ 18446744065119617025 := fun u v h1 h2 h3 h4 => ⟨Int.mul_nonneg h1 h3, by
    have := Int.mul_le_mul h2 h4 h3 (by decide)
    omega⟩
  refine ⟨_, _, _, _, rfl, rfl, rfl, rfl, b _ _ (by omega) (by omega) (by omega) (by omega), b _ _ (by omega) (by omega) (by omega) (by omega), b _ _ (by omega) (by omega) (by omega) (by omega), b _ _ (by omega) (by omega) (by omega) (by omega), ?_⟩
  have ex : x = (x / 4294967296) * 4294967296 + x % 4294967296 := by omega
  have ey : y = (y / 4294967296) * 4294967296 + y % 4294967296 := by omega
  generalize x / 4294967296 = x1 at *
  generalize x % 4294967296 = x0 at *
  generalize y / 4294967296 = y1 at *
  generalize y % 4294967296 = y0 at *
  rw [ex, ey, Int.add_mul, Int.mul_add, Int.mul_add]
  have h1 : x1 * 4294967296 * (y1 * 4294967296) = x1 * y1 * 18446744073709551616 := by
    rw [Int.mul_assoc, Int.mul_comm 4294967296, Int.mul_assoc y1, ← Int.mul_assoc]
    rfl
  have h2 : x1 * 4294967296 * y0 = x1 * y0 * 4294967296 := by rw [Int.mul_assoc, Int.mul_comm 4294967296, ← Int.mul_assoc]
  have h3 : x0 * (y1 * 4294967296) = x0 * y1 * 4294967296 := by rw [← Int.mul_assoc]
  rw [h1, h2, h3, Int.add_mul]
  omega
end Go.Proofs.Ytofkkhdmjllcfaa

/- Sums and differences with a carry, leading zeros, numbers of 128 bits: contracts. No conditions. -/
import Derived.Test.YtofkkhdmjllcfaaR11
import Derived.Shelf.Spec.BitsCarry
namespace Go.Proofs.Ytofkkhdmjllcfaa
open Go.Ev
set_option linter.all false
def bor (x y : Int) : Int := if x < y then 1 else 0
def Xadd : List Value → Option (Bool × List Value)
  | [.int .u64 x, .int .u64 y, .int .u64 c] => some (uR x && uR y && (decide (0 ≤ c) && decide (c ≤ 1)), [u64 ((x + y + c) % 18446744073709551616), u64 ((x + y + c) / 18446744073709551616)])
  | _ => none
def Xsub : List Value → Option (Bool × List Value)
  | [.int .u64 x, .int .u64 y, .int .u64 c] => some (uR x && uR y && (decide (0 ≤ c) && decide (c ≤ 1)), [u64 ((x - y - c) % 18446744073709551616), u64 (bor x (y + c))])
  | _ => none
theorem ext_add : ExtOk Try.prog 31 Xadd := fun args vs h => by
  unfold Xadd at h
  split at h
  · rename_i x y c
    simp only [Option.some.injEq, Prod.mk.injEq, Bool.and_eq_true, uR_iff, decide_eq_true_eq] at h
    obtain ⟨⟨⟨⟨h1, h2⟩, h3, h4⟩, h5, h6⟩, rfl⟩ := h
    refine ⟨fun v hv => ?_, fun v hv => ?_, fun w => ?_⟩
    · simp only [List.mem_cons, List.not_mem_nil, or_false] at hv
      rcases hv with rfl | rfl | rfl <;> rfl
    · simp only [List.mem_cons, List.not_mem_nil, or_false] at hv
      rcases hv with rfl | rfl <;> rfl
    · rw [run_callFunc_extern Try.func31 (by kernel_rfl) (by kernel_rfl) (by kernel_rfl) (e := add64Entry) (by kernel_rfl), run_add64 x y c h1 h3 h5 h6]
      rfl
  · cases h
theorem ext_sub : ExtOk Try.prog 32 Xsub := fun args vs h => by
  unfold Xsub at h
  split at h
  · rename_i x y c
    simp only [Option.some.injEq, Prod.mk.injEq, Bool.and_eq_true, uR_iff, decide_eq_true_eq] at h
    obtain ⟨⟨⟨⟨h1, h2⟩, h3, h4⟩, h5, h6⟩, rfl⟩ := h
    refine ⟨fun v hv => ?_, fun v hv => ?_, fun w => ?_⟩
    · simp only [List.mem_cons, List.not_mem_nil, or_false] at hv
      rcases hv with rfl | rfl | rfl <;> rfl
    · simp only [List.mem_cons, List.not_mem_nil, or_false] at hv
      rcases hv with rfl | rfl <;> rfl
    · obtain ⟨x, rfl⟩ := Int.eq_ofNat_of_zero_le h1
      obtain ⟨y, rfl⟩ := Int.eq_ofNat_of_zero_le h3
      obtain ⟨c, rfl⟩ := Int.eq_ofNat_of_zero_le h5
      have e1 : (((x + 18446744073709551616 - y - c) % 18446744073709551616 : Nat) : Int) = ((x : Int) - y - c) % 18446744073709551616 := by omega
      have e2 : ((if x < y + c then 1 else 0 : Nat) : Int) = bor x (y + c) := by unfold bor; split <;> split <;> omega
      rw [← e1, ← e2, run_callFunc_extern Try.func32 (by kernel_rfl) (by kernel_rfl) (by kernel_rfl) (e := sub64Entry) (by kernel_rfl), run_sub64 x y c (by omega)]
      rfl
  · cases h
theorem tplus (a b c d : Int) : evF C0 6 35 [.agg [.v (u64 a), .v (u64 b)], .agg [.v (u64 c), .v (u64 d)]] =
    br (decide (IntKind.u64.wrap (b + d) < b)) (some [.agg [.v (.int .u64 (IntKind.u64.wrap (IntKind.u64.wrap (a + c) + 1))), .v (.int .u64 (IntKind.u64.wrap (b + d)))]]) (some [.agg [.v (.int .u64 (IntKind.u64.wrap (a + c))), .v (.int .u64 (IntKind.u64.wrap (b + d)))]]) := by kernel_rfl
theorem tminus (a b c d : Int) : evF C0 6 36 [.agg [.v (u64 a), .v (u64 b)], .agg [.v (u64 c), .v (u64 d)]] =
    br (decide (b < d)) (some [.agg [.v (.int .u64 (IntKind.u64.wrap (IntKind.u64.wrap (a - c) - 1))), .v (.int .u64 (IntKind.u64.wrap (b - d)))]]) (some [.agg [.v (.int .u64 (IntKind.u64.wrap (a - c))), .v (.int .u64 (IntKind.u64.wrap (b - d)))]]) := by kernel_rfl
theorem tless (a b c d : Int) : evF C0 6 37 [.agg [.v (u64 a), .v (u64 b)], .agg [.v (u64 c), .v (u64 d)]] =
    br (decide (a < c)) (some [.v (.bool (true))]) (br (a == c) (some [.v (.bool (decide (b < d)))]) (some [.v (.bool (false))])) := by kernel_rfl
/-- A number of 128 bits. -/
def wd (a b : Int) : Int := a * 18446744073709551616 + b
def wdA (n : Int) : D := .agg [.v (u64 (n / 18446744073709551616)), .v (u64 (n % 18446744073709551616))]
def Fplus : List D → Option (Bool × List D)
  | [.agg [.v (.int .u64 a), .v (.int .u64 b)], .agg [.v (.int .u64 c), .v (.int .u64 d)]] => some (uR a && uR b && uR c && uR d && decide (wd a b + wd c d < 340282366920938463463374607431768211456), [wdA (wd a b + wd c d)])
  | _ => none
def Fminus : List D → Option (Bool × List D)
  | [.agg [.v (.int .u64 a), .v (.int .u64 b)], .agg [.v (.int .u64 c), .v (.int .u64 d)]] => some (uR a && uR b && uR c && uR d, [wdA ((wd a b - wd c d) % 340282366920938463463374607431768211456)])
  | _ => none
def Fless : List D → Option (Bool × List D)
  | [.agg [.v (.int .u64 a), .v (.int .u64 b)], .agg [.v (.int .u64 c), .v (.int .u64 d)]] => some (uR a && uR b && uR c && uR d, [.v (.bool (decide (wd a b < wd c d)))])
  | _ => none
theorem den_plus : Den Try.prog 35 Fplus := evF_den C0_ok fun ds rs h => by
  unfold Fplus at h
  split at h
  · rename_i a b c d
    simp only [Option.some.injEq, Prod.mk.injEq, Bool.and_eq_true, uR_iff, decide_eq_true_eq] at h
    obtain ⟨⟨⟨⟨⟨h1, h2⟩, h3⟩, h4⟩, h5⟩, rfl⟩ := h
    refine (tplus a b c d).trans ?_
    unfold wdA wd at *
    simp only [wrapU]
    refine br_splitP (fun h => ?_) (fun h => ?_)
    · rw [show (a * 18446744073709551616 + b + (c * 18446744073709551616 + d)) / 18446744073709551616 = ((a + c) % 18446744073709551616 + 1) % 18446744073709551616 by omega,
        show (a * 18446744073709551616 + b + (c * 18446744073709551616 + d)) % 18446744073709551616 = (b + d) % 18446744073709551616 by omega]; rfl
    · rw [show (a * 18446744073709551616 + b + (c * 18446744073709551616 + d)) / 18446744073709551616 = (a + c) % 18446744073709551616 by omega,
        show (a * 18446744073709551616 + b + (c * 18446744073709551616 + d)) % 18446744073709551616 = (b + d) % 18446744073709551616 by omega]; rfl
  · cases h
theorem den_minus : Den Try.prog 36 Fminus := evF_den C0_ok fun ds rs h => by
  unfold Fminus at h
  split at h
  · rename_i a b c d
    simp only [Option.some.injEq, Prod.mk.injEq, Bool.and_eq_true, uR_iff, decide_eq_true_eq] at h
    obtain ⟨⟨⟨⟨h1, h2⟩, h3⟩, h4⟩, rfl⟩ := h
    refine (tminus a b c d).trans ?_
    unfold wdA wd at *
    simp only [wrapU]
    refine br_splitP (fun h => ?_) (fun h => ?_)
    · rw [show ((a * 18446744073709551616 + b - (c * 18446744073709551616 + d)) % 340282366920938463463374607431768211456) / 18446744073709551616 = ((a - c) % 18446744073709551616 - 1) % 18446744073709551616 by omega,
        show ((a * 18446744073709551616 + b - (c * 18446744073709551616 + d)) % 340282366920938463463374607431768211456) % 18446744073709551616 = (b - d) % 18446744073709551616 by omega]; rfl
    · rw [show ((a * 18446744073709551616 + b - (c * 18446744073709551616 + d)) % 340282366920938463463374607431768211456) / 18446744073709551616 = (a - c) % 18446744073709551616 by omega,
        show ((a * 18446744073709551616 + b - (c * 18446744073709551616 + d)) % 340282366920938463463374607431768211456) % 18446744073709551616 = (b - d) % 18446744073709551616 by omega]; rfl
  · cases h
theorem den_less : Den Try.prog 37 Fless := evF_den C0_ok fun ds rs h => by
  unfold Fless at h
  split at h
  · rename_i a b c d
    simp only [Option.some.injEq, Prod.mk.injEq, Bool.and_eq_true, uR_iff, decide_eq_true_eq] at h
    obtain ⟨⟨⟨⟨h1, h2⟩, h3⟩, h4⟩, rfl⟩ := h
    refine (tless a b c d).trans ?_
    unfold wd
    refine br_splitP (fun h => ?_) (fun h => br_split (fun h' => ?_) (fun h' => ?_))
    · rw [decide_eq_true (show a * 18446744073709551616 + b < c * 18446744073709551616 + d by omega)]
    · have : a = c := by simpa using h'
      rw [show decide (a * 18446744073709551616 + b < c * 18446744073709551616 + d) = decide (b < d) from decide_eq_decide.mpr (by omega)]
    · have : a ≠ c := by simpa using h'
      rw [decide_eq_false (show ¬ a * 18446744073709551616 + b < c * 18446744073709551616 + d by omega)]
  · cases h
/-! Leading zeros. -/
def tabL : List UInt8 := 0 :: 1 :: (List.replicate 2 2 ++ (List.replicate 4 3 ++ (List.replicate 8 4 ++ (List.replicate 16 5 ++ (List.replicate 32 6 ++ (List.replicate 64 7 ++ List.replicate 128 8))))))
def tabB : ByteArray := ⟨⟨tabL⟩⟩
def lf (n x : Int) : Option (List D) := br (decide (0 ≤ IntKind.u8.wrap x) && decide (IntKind.u8.wrap x < (tabB.size : Int))) (some [.v (i64 (IntKind.i64.wrap (64 - IntKind.i64.wrap (n + IntKind.i64.wrap ((tabB.data.getD (IntKind.u8.wrap x).toNat 0).toNat : Int)))))]) none
def l8 (n x : Int) : Option (List D) := br (decide (x ≥ 256)) (lf (IntKind.i64.wrap (n + 8)) (x.fdiv (2 ^ 8))) (lf n x)
def l16 (n x : Int) : Option (List D) := br (decide (x ≥ 65536)) (l8 (IntKind.i64.wrap (n + 16)) (x.fdiv (2 ^ 16))) (l8 n x)
def l32 (x : Int) : Option (List D) := br (decide (x ≥ 4294967296)) (l16 32 (x.fdiv (2 ^ 32))) (l16 0 x)
set_option maxRecDepth 100000 in
theorem tlz (x : Int) : evF C0 6 45 [.v (u64 x)] = l32 x := by kernel_rfl
theorem tab_log : ∀ k, k < 256 → 0 < k → (tabB.data.getD k 0).toNat = Nat.log2 k + 1 := by decide +kernel
def lzI (x : Int) : Int := 63 - (Nat.log2 x.toNat : Int)
set_option maxRecDepth 100000 in
theorem lf_eq (n : Int) (m : Nat) (h0 : 0 ≤ n) (h1 : n ≤ 56) (h2 : 0 < m) (h3 : m < 256) : lf n (m : Int) = some [.v (i64 (63 - n - (Nat.log2 m : Int)))] := by
  have hw : IntKind.u8.wrap (m : Int) = m := wrap_id (by simp only [Lit.wf, Bool.and_eq_true, decide_eq_true_eq, IntKind.min, IntKind.max, IntKind.signed, IntKind.bits]; simp; omega)
  have ht := tab_log m h3 h2
  have hl : Nat.log2 m < 8 := by rw [Nat.log2_lt (by omega)]; exact h3
  unfold lf
  rw [hw, Int.toNat_natCast, ht, wrapI_id (n := ((Nat.log2 m + 1 : Nat) : Int)) (by omega) (by omega), wrapI_id (n := n + ((Nat.log2 m + 1 : Nat) : Int)) (by omega) (by omega), wrapI_id (n := 64 - (n + ((Nat.log2 m + 1 : Nat) : Int))) (by omega) (by omega),
    decide_eq_true (show (0 : Int) ≤ (m : Int) by omega), show decide ((m : Int) < (tabB.size : Int)) = true from decide_eq_true (by rw [show tabB.size = 256 from rfl]; omega)]
  rw [show (64 : Int) - (n + ((Nat.log2 m + 1 : Nat) : Int)) = 63 - n - (Nat.log2 m : Int) by omega]
  rfl
theorem log2_div (m k : Nat) (h : m / 2 ^ k ≠ 0) : Nat.log2 m = Nat.log2 (m / 2 ^ k) + k := by
  have hm : m ≠ 0 := fun h0 => h (by rw [h0, Nat.zero_div])
  rw [Nat.log2_eq_iff hm]
  have ⟨a, b⟩ := (Nat.log2_eq_iff h).mp rfl
  generalize Nat.log2 (m / 2 ^ k) = j at *
  rw [Nat.le_div_iff_mul_le (Nat.two_pow_pos k)] at a
  rw [Nat.div_lt_iff_lt_mul (Nat.two_pow_pos k)] at b
  rw [Nat.pow_add, show j + k + 1 = (j + 1) + k by omega, Nat.pow_add]
  exact ⟨a, b⟩
theorem fdivN (m k : Nat) : ((m : Nat) : Int).fdiv (2 ^ k) = ((m / 2 ^ k : Nat) : Int) := by
  rw [Int.fdiv_eq_ediv_of_nonneg _ (Int.le_of_lt (Int.pow_pos (by decide))), Int.natCast_ediv, Int.natCast_pow]
  rfl
theorem l8_eq (n : Int) (m : Nat) (h0 : 0 ≤ n) (h1 : n ≤ 48) (h2 : 0 < m) (h3 : m < 65536) : l8 n (m : Int) = some [.v (i64 (63 - n - (Nat.log2 m : Int)))] := by
  unfold l8
  by_cases h : m < 256
  · rw [decide_eq_false (by omega), br_false, lf_eq n m h0 (by omega) h2 h]
  · have hd : m / 2 ^ 8 ≠ 0 := by omega
    rw [decide_eq_true (by omega), br_true, wrapI_id (n := n + 8) (by omega) (by omega), fdivN, lf_eq (n + 8) (m / 2 ^ 8) (by omega) (by omega) (by omega) (by omega), log2_div m 8 hd, show (63 : Int) - (n + 8) - (Nat.log2 (m / 2 ^ 8) : Int) = 63 - n - ((Nat.log2 (m / 2 ^ 8) + 8 : Nat) : Int) by omega]
theorem l16_eq (n : Int) (m : Nat) (h0 : 0 ≤ n) (h1 : n ≤ 32) (h2 : 0 < m) (h3 : m < 4294967296) : l16 n (m : Int) = some [.v (i64 (63 - n - (Nat.log2 m : Int)))] := by
  unfold l16
  by_cases h : m < 65536
  · rw [decide_eq_false (by omega), br_false, l8_eq n m h0 (by omega) h2 h]
  · have hd : m / 2 ^ 16 ≠ 0 := by omega
    rw [decide_eq_true (by omega), br_true, wrapI_id (n := n + 16) (by omega) (by omega), fdivN, l8_eq (n + 16) (m / 2 ^ 16) (by omega) (by omega) (by omega) (by omega), log2_div m 16 hd, show (63 : Int) - (n + 16) - (Nat.log2 (m / 2 ^ 16) : Int) = 63 - n - ((Nat.log2 (m / 2 ^ 16) + 16 : Nat) : Int) by omega]
theorem l32_eq (m : Nat) (h2 : 0 < m) (h3 : m < 18446744073709551616) : l32 (m : Int) = some [.v (i64 (63 - (Nat.log2 m : Int)))] := by
  unfold l32
  by_cases h : m < 4294967296
  · rw [decide_eq_false (by omega), br_false, l16_eq 0 m (by omega) (by omega) h2 h, Int.sub_zero]
  · have hd : m / 2 ^ 32 ≠ 0 := by omega
    rw [decide_eq_true (by omega), br_true, fdivN, l16_eq 32 (m / 2 ^ 32) (by omega) (by omega) (by omega) (by omega), log2_div m 32 hd, show (63 : Int) - 32 - (Nat.log2 (m / 2 ^ 32) : Int) = 63 - ((Nat.log2 (m / 2 ^ 32) + 32 : Nat) : Int) by omega]
def Flz : List D → Option (Bool × List D)
  | [.v (.int .u64 x)] => some (uR x && decide (0 < x), [.v (i64 (lzI x))])
  | _ => none
theorem den_lz : Den Try.prog 45 Flz := evF_den C0_ok fun ds rs h => by
  unfold Flz at h
  split at h
  · rename_i x
    simp only [Option.some.injEq, Prod.mk.injEq, Bool.and_eq_true, uR_iff, decide_eq_true_eq] at h
    obtain ⟨⟨⟨h1, h2⟩, h3⟩, rfl⟩ := h
    refine (tlz x).trans ?_
    obtain ⟨m, rfl⟩ := Int.eq_ofNat_of_zero_le h1
    rw [l32_eq m (by omega) (by omega)]
    unfold lzI
    rw [Int.toNat_natCast]
  · cases h
/-- What a number comes to when it is moved up by its leading zeros. -/
theorem lz_spec (x : Int) (h0 : 0 < x) (h1 : x < 18446744073709551616) : ∃ s : Nat, lzI x = s ∧ s ≤ 63 ∧ 9223372036854775808 ≤ x * 2 ^ s ∧ x * 2 ^ s < 18446744073709551616 := by
  obtain ⟨m, rfl⟩ := Int.eq_ofNat_of_zero_le (Int.le_of_lt h0)
  have hm : m ≠ 0 := by omega
  have hl : Nat.log2 m < 64 := by rw [Nat.log2_lt hm]; omega
  have ⟨a, b⟩ := (Nat.log2_eq_iff hm).mp rfl
  refine ⟨63 - Nat.log2 m, ?_, by omega, ?_, ?_⟩
  · unfold lzI; rw [Int.toNat_natCast]; omega
  · have e : (2 : Nat) ^ Nat.log2 m * 2 ^ (63 - Nat.log2 m) = 9223372036854775808 := by rw [← Nat.pow_add, show Nat.log2 m + (63 - Nat.log2 m) = 63 by omega]
    have := Nat.mul_le_mul_right (2 ^ (63 - Nat.log2 m)) a
    rw [e] at this
    have h2 : ((m * 2 ^ (63 - Nat.log2 m) : Nat) : Int) = (m : Int) * 2 ^ (63 - Nat.log2 m) := by rw [Int.natCast_mul, Int.natCast_pow]; rfl
    rw [← h2]
    omega
  · have e : (2 : Nat) ^ (Nat.log2 m + 1) * 2 ^ (63 - Nat.log2 m) = 18446744073709551616 := by rw [← Nat.pow_add, show Nat.log2 m + 1 + (63 - Nat.log2 m) = 64 by omega]
    have := Nat.mul_lt_mul_of_pos_right b (Nat.two_pow_pos (63 - Nat.log2 m))
    rw [e] at this
    have h2 : ((m * 2 ^ (63 - Nat.log2 m) : Nat) : Int) = (m : Int) * 2 ^ (63 - Nat.log2 m) := by rw [Int.natCast_mul, Int.natCast_pow]; rfl
    rw [← h2]
    omega
end Go.Proofs.Ytofkkhdmjllcfaa

/- Numbers of 128 bits: contracts. No conditions. -/
import Derived.Test.YtofkkhdmjllcfaaDoorQ2
import Derived.Shelf.Spec.BitsCarry
namespace Go.Proofs.YtofkkhdmjllcfaaDoor
open Go.Ev
set_option linter.all false
def bor (x y : Int) : Int := if x < y then 1 else 0
def Xadd : List Value → Option (Bool × List Value)
  | [.int .u64 x, .int .u64 y, .int .u64 c] => some (uR x && uR y && (decide (0 ≤ c) && decide (c ≤ 1)), [u64 ((x + y + c) % 18446744073709551616), u64 ((x + y + c) / 18446744073709551616)])
  | _ => none
def Xsub : List Value → Option (Bool × List Value)
  | [.int .u64 x, .int .u64 y, .int .u64 c] => some (uR x && uR y && (decide (0 ≤ c) && decide (c ≤ 1)), [u64 ((x - y - c) % 18446744073709551616), u64 (bor x (y + c))])
  | _ => none
theorem ext_add : ExtOk Tryd.prog 38 Xadd := fun args vs h => by
  unfold Xadd at h
  split at h
  · rename_i x y c
    simp only [Option.some.injEq, Prod.mk.injEq, Bool.and_eq_true, uR_iff, decide_eq_true_eq] at h
    obtain ⟨⟨⟨⟨h1, h2⟩, h3, h4⟩, h5, h6⟩, rfl⟩ := h
    refine ⟨fun v hv => ?_, fun v hv => ?_, fun w => ?_⟩
    · simp only [List.mem_cons, List.not_mem_nil, or_false] at hv
      rcases hv with rfl | rfl | rfl <;> rfl
    · simp only [List.mem_cons, List.not_mem_nil, or_false] at hv
      rcases hv with rfl | rfl <;> rfl
    · rw [run_callFunc_extern Tryd.func38 (by kernel_rfl) (by kernel_rfl) (by kernel_rfl) (e := add64Entry) (by kernel_rfl), run_add64 x y c h1 h3 h5 h6]
      rfl
  · cases h
theorem ext_sub : ExtOk Tryd.prog 39 Xsub := fun args vs h => by
  unfold Xsub at h
  split at h
  · rename_i x y c
    simp only [Option.some.injEq, Prod.mk.injEq, Bool.and_eq_true, uR_iff, decide_eq_true_eq] at h
    obtain ⟨⟨⟨⟨h1, h2⟩, h3, h4⟩, h5, h6⟩, rfl⟩ := h
    refine ⟨fun v hv => ?_, fun v hv => ?_, fun w => ?_⟩
    · simp only [List.mem_cons, List.not_mem_nil, or_false] at hv
      rcases hv with rfl | rfl | rfl <;> rfl
    · simp only [List.mem_cons, List.not_mem_nil, or_false] at hv
      rcases hv with rfl | rfl <;> rfl
    · obtain ⟨x, rfl⟩ := Int.eq_ofNat_of_zero_le h1
      obtain ⟨y, rfl⟩ := Int.eq_ofNat_of_zero_le h3
      obtain ⟨c, rfl⟩ := Int.eq_ofNat_of_zero_le h5
      have e1 : (((x + 18446744073709551616 - y - c) % 18446744073709551616 : Nat) : Int) = ((x : Int) - y - c) % 18446744073709551616 := by omega
      have e2 : ((if x < y + c then 1 else 0 : Nat) : Int) = bor x (y + c) := by unfold bor; split <;> split <;> omega
      rw [← e1, ← e2, run_callFunc_extern Tryd.func39 (by kernel_rfl) (by kernel_rfl) (by kernel_rfl) (e := sub64Entry) (by kernel_rfl), run_sub64 x y c (by omega)]
      rfl
  · cases h
theorem tplus (a b c d : Int) : evF C0 6 53 [.agg [.v (u64 a), .v (u64 b)], .agg [.v (u64 c), .v (u64 d)]] =
    br (decide (IntKind.u64.wrap (b + d) < b)) (some [.agg [.v (.int .u64 (IntKind.u64.wrap (IntKind.u64.wrap (a + c) + 1))), .v (.int .u64 (IntKind.u64.wrap (b + d)))]]) (some [.agg [.v (.int .u64 (IntKind.u64.wrap (a + c))), .v (.int .u64 (IntKind.u64.wrap (b + d)))]]) := by kernel_rfl
theorem tminus (a b c d : Int) : evF C0 6 54 [.agg [.v (u64 a), .v (u64 b)], .agg [.v (u64 c), .v (u64 d)]] =
    br (decide (b < d)) (some [.agg [.v (.int .u64 (IntKind.u64.wrap (IntKind.u64.wrap (a - c) - 1))), .v (.int .u64 (IntKind.u64.wrap (b - d)))]]) (some [.agg [.v (.int .u64 (IntKind.u64.wrap (a - c))), .v (.int .u64 (IntKind.u64.wrap (b - d)))]]) := by kernel_rfl
theorem tless (a b c d : Int) : evF C0 6 55 [.agg [.v (u64 a), .v (u64 b)], .agg [.v (u64 c), .v (u64 d)]] =
    br (decide (a < c)) (some [.v (.bool (true))]) (br (a == c) (some [.v (.bool (decide (b < d)))]) (some [.v (.bool (false))])) := by kernel_rfl
/-- A number of 128 bits. -/
def wd (a b : Int) : Int := a * 18446744073709551616 + b
def wdA (n : Int) : D := .agg [.v (u64 (n / 18446744073709551616)), .v (u64 (n % 18446744073709551616))]
def Fplus : List D → Option (Bool × List D)
  | [.agg [.v (.int .u64 a), .v (.int .u64 b)], .agg [.v (.int .u64 c), .v (.int .u64 d)]] => some (uR a && uR b && uR c && uR d && decide (wd a b + wd c d < 340282366920938463463374607431768211456), [wdA (wd a b + wd c d)])
  | _ => none
def Fminus : List D → Option (Bool × List D)
  | [.agg [.v (.int .u64 a), .v (.int .u64 b)], .agg [.v (.int .u64 c), .v (.int .u64 d)]] => some (uR a && uR b && uR c && uR d, [wdA ((wd a b - wd c d) % 340282366920938463463374607431768211456)])
  | _ => none
def Fless : List D → Option (Bool × List D)
  | [.agg [.v (.int .u64 a), .v (.int .u64 b)], .agg [.v (.int .u64 c), .v (.int .u64 d)]] => some (uR a && uR b && uR c && uR d, [.v (.bool (decide (wd a b < wd c d)))])
  | _ => none
theorem den_plus : Den Tryd.prog 53 Fplus := evF_den C0_ok fun ds rs h => by
  unfold Fplus at h
  split at h
  · rename_i a b c d
    simp only [Option.some.injEq, Prod.mk.injEq, Bool.and_eq_true, uR_iff, decide_eq_true_eq] at h
    obtain ⟨⟨⟨⟨⟨h1, h2⟩, h3⟩, h4⟩, h5⟩, rfl⟩ := h
    refine (tplus a b c d).trans ?_
    unfold wdA wd at *
    simp only [wrapU]
    refine br_splitP (fun h => ?_) (fun h => ?_)
    · rw [show (a * 18446744073709551616 + b + (c * 18446744073709551616 + d)) / 18446744073709551616 = ((a + c) % 18446744073709551616 + 1) % 18446744073709551616 by omega,
        show (a * 18446744073709551616 + b + (c * 18446744073709551616 + d)) % 18446744073709551616 = (b + d) % 18446744073709551616 by omega]; rfl
    · rw [show (a * 18446744073709551616 + b + (c * 18446744073709551616 + d)) / 18446744073709551616 = (a + c) % 18446744073709551616 by omega,
        show (a * 18446744073709551616 + b + (c * 18446744073709551616 + d)) % 18446744073709551616 = (b + d) % 18446744073709551616 by omega]; rfl
  · cases h
theorem den_minus : Den Tryd.prog 54 Fminus := evF_den C0_ok fun ds rs h => by
  unfold Fminus at h
  split at h
  · rename_i a b c d
    simp only [Option.some.injEq, Prod.mk.injEq, Bool.and_eq_true, uR_iff, decide_eq_true_eq] at h
    obtain ⟨⟨⟨⟨h1, h2⟩, h3⟩, h4⟩, rfl⟩ := h
    refine (tminus a b c d).trans ?_
    unfold wdA wd at *
    simp only [wrapU]
    refine br_splitP (fun h => ?_) (fun h => ?_)
    · rw [show ((a * 18446744073709551616 + b - (c * 18446744073709551616 + d)) % 340282366920938463463374607431768211456) / 18446744073709551616 = ((a - c) % 18446744073709551616 - 1) % 18446744073709551616 by omega,
        show ((a * 18446744073709551616 + b - (c * 18446744073709551616 + d)) % 340282366920938463463374607431768211456) % 18446744073709551616 = (b - d) % 18446744073709551616 by omega]; rfl
    · rw [show ((a * 18446744073709551616 + b - (c * 18446744073709551616 + d)) % 340282366920938463463374607431768211456) / 18446744073709551616 = (a - c) % 18446744073709551616 by omega,
        show ((a * 18446744073709551616 + b - (c * 18446744073709551616 + d)) % 340282366920938463463374607431768211456) % 18446744073709551616 = (b - d) % 18446744073709551616 by omega]; rfl
  · cases h
theorem den_less : Den Tryd.prog 55 Fless := evF_den C0_ok fun ds rs h => by
  unfold Fless at h
  split at h
  · rename_i a b c d
    simp only [Option.some.injEq, Prod.mk.injEq, Bool.and_eq_true, uR_iff, decide_eq_true_eq] at h
    obtain ⟨⟨⟨⟨h1, h2⟩, h3⟩, h4⟩, rfl⟩ := h
    refine (tless a b c d).trans ?_
    unfold wd
    refine br_splitP (fun h => ?_) (fun h => br_split (fun h' => ?_) (fun h' => ?_))
    · rw [decide_eq_true (show a * 18446744073709551616 + b < c * 18446744073709551616 + d by omega)]
    · have : a = c := by simpa using h'
      rw [show decide (a * 18446744073709551616 + b < c * 18446744073709551616 + d) = decide (b < d) from decide_eq_decide.mpr (by omega)]
    · have : a ≠ c := by simpa using h'
      rw [decide_eq_false (show ¬ a * 18446744073709551616 + b < c * 18446744073709551616 + d by omega)]
  · cases h
/-! Leading zeros. -/
def tabL : List UInt8 := 0 :: 1 :: (List.replicate 2 2 ++ (List.replicate 4 3 ++ (List.replicate 8 4 ++ (List.replicate 16 5 ++ (List.replicate 32 6 ++ (List.replicate 64 7 ++ List.replicate 128 8))))))
def tabB : ByteArray := ⟨⟨tabL⟩⟩
def lf (n x : Int) : Option (List D) := br (decide (0 ≤ IntKind.u8.wrap x) && decide (IntKind.u8.wrap x < (tabB.size : Int))) (some [.v (i64 (IntKind.i64.wrap (64 - IntKind.i64.wrap (n + IntKind.i64.wrap ((tabB.data.getD (IntKind.u8.wrap x).toNat 0).toNat : Int)))))]) none
def l8 (n x : Int) : Option (List D) := br (decide (x ≥ 256)) (lf (IntKind.i64.wrap (n + 8)) (x.fdiv (2 ^ 8))) (lf n x)
def l16 (n x : Int) : Option (List D) := br (decide (x ≥ 65536)) (l8 (IntKind.i64.wrap (n + 16)) (x.fdiv (2 ^ 16))) (l8 n x)
def l32 (x : Int) : Option (List D) := br (decide (x ≥ 4294967296)) (l16 32 (x.fdiv (2 ^ 32))) (l16 0 x)
set_option maxRecDepth 100000 in
theorem tlz (x : Int) : evF C0 6 59 [.v (u64 x)] = l32 x := by kernel_rfl
theorem tab_log : ∀ k, k < 256 → 0 < k → (tabB.data.getD k 0).toNat = Nat.log2 k + 1 := by decide +kernel
def lzI (x : Int) : Int := 63 - (Nat.log2 x.toNat : Int)
set_option maxRecDepth 100000 in
theorem lf_eq (n : Int) (m : Nat) (h0 : 0 ≤ n) (h1 : n ≤ 56) (h2 : 0 < m) (h3 : m < 256) : lf n (m : Int) = some [.v (i64 (63 - n - (Nat.log2 m : Int)))] := by
  have hw : IntKind.u8.wrap (m : Int) = m := wrap_id (by simp only [Lit.wf, Bool.and_eq_true, decide_eq_true_eq, IntKind.min, IntKind.max, IntKind.signed, IntKind.bits]; simp; omega)
  have ht := tab_log m h3 h2
  have hl : Nat.log2 m < 8 := by rw [Nat.log2_lt (by omega)]; exact h3
  unfold lf
  rw [hw, Int.toNat_natCast, ht, wrapI_id (n := ((Nat.log2 m + 1 : Nat) : Int)) (by omega) (by omega), wrapI_id (n := n + ((Nat.log2 m + 1 : Nat) : Int)) (by omega) (by omega), wrapI_id (n := 64 - (n + ((Nat.log2 m + 1 : Nat) : Int))) (by omega) (by omega),
    decide_eq_true (show (0 : Int) ≤ (m : Int) by omega), show decide ((m : Int) < (tabB.size : Int)) = true from decide_eq_true (by rw [show tabB.size = 256 from rfl]; omega)]
  rw [show (64 : Int) - (n + ((Nat.log2 m + 1 : Nat) : Int)) = 63 - n - (Nat.log2 m : Int) by omega]
  rfl
theorem log2_div (m k : Nat) (h : m / 2 ^ k ≠ 0) : Nat.log2 m = Nat.log2 (m / 2 ^ k) + k := by
  have hm : m ≠ 0 := fun h0 => h (by rw [h0, Nat.zero_div])
  rw [Nat.log2_eq_iff hm]
  have ⟨a, b⟩ := (Nat.log2_eq_iff h).mp rfl
  generalize Nat.log2 (m / 2 ^ k) = j at *
  rw [Nat.le_div_iff_mul_le (Nat.two_pow_pos k)] at a
  rw [Nat.div_lt_iff_lt_mul (Nat.two_pow_pos k)] at b
  rw [Nat.pow_add, show j + k + 1 = (j + 1) + k by omega, Nat.pow_add]
  exact ⟨a, b⟩
theorem fdivN (m k : Nat) : ((m : Nat) : Int).fdiv (2 ^ k) = ((m / 2 ^ k : Nat) : Int) := by
  rw [Int.fdiv_eq_ediv_of_nonneg _ (Int.le_of_lt (Int.pow_pos (by decide))), Int.natCast_ediv, Int.natCast_pow]
  rfl
theorem l8_eq (n : Int) (m : Nat) (h0 : 0 ≤ n) (h1 : n ≤ 48) (h2 : 0 < m) (h3 : m < 65536) : l8 n (m : Int) = some [.v (i64 (63 - n - (Nat.log2 m : Int)))] := by
  unfold l8
  by_cases h : m < 256
  · rw [decide_eq_false (by omega), br_false, lf_eq n m h0 (by omega) h2 h]
  · have hd : m / 2 ^ 8 ≠ 0 := by omega
    rw [decide_eq_true (by omega), br_true, wrapI_id (n := n + 8) (by omega) (by omega), fdivN, lf_eq (n + 8) (m / 2 ^ 8) (by omega) (by omega) (by omega) (by omega), log2_div m 8 hd, show (63 : Int) - (n + 8) - (Nat.log2 (m / 2 ^ 8) : Int) = 63 - n - ((Nat.log2 (m / 2 ^ 8) + 8 : Nat) : Int) by omega]
theorem l16_eq (n : Int) (m : Nat) (h0 : 0 ≤ n) (h1 : n ≤ 32) (h2 : 0 < m) (h3 : m < 4294967296) : l16 n (m : Int) = some [.v (i64 (63 - n - (Nat.log2 m : Int)))] := by
  unfold l16
  by_cases h : m < 65536
  · rw [decide_eq_false (by omega), br_false, l8_eq n m h0 (by omega) h2 h]
  · have hd : m / 2 ^ 16 ≠ 0 := by omega
    rw [decide_eq_true (by omega), br_true, wrapI_id (n := n + 16) (by omega) (by omega), fdivN, l8_eq (n + 16) (m / 2 ^ 16) (by omega) (by omega) (by omega) (by omega), log2_div m 16 hd, show (63 : Int) - (n + 16) - (Nat.log2 (m / 2 ^ 16) : Int) = 63 - n - ((Nat.log2 (m / 2 ^ 16) + 16 : Nat) : Int) by omega]
theorem l32_eq (m : Nat) (h2 : 0 < m) (h3 : m < 18446744073709551616) : l32 (m : Int) = some [.v (i64 (63 - (Nat.log2 m : Int)))] := by
  unfold l32
  by_cases h : m < 4294967296
  · rw [decide_eq_false (by omega), br_false, l16_eq 0 m (by omega) (by omega) h2 h, Int.sub_zero]
  · have hd : m / 2 ^ 32 ≠ 0 := by omega
    rw [decide_eq_true (by omega), br_true, fdivN, l16_eq 32 (m / 2 ^ 32) (by omega) (by omega) (by omega) (by omega), log2_div m 32 hd, show (63 : Int) - 32 - (Nat.log2 (m / 2 ^ 32) : Int) = 63 - ((Nat.log2 (m / 2 ^ 32) + 32 : Nat) : Int) by omega]
def Flz : List D → Option (Bool × List D)
  | [.v (.int .u64 x)] => some (uR x && decide (0 < x), [.v (i64 (lzI x))])
  | _ => none
theorem den_lz : Den Tryd.prog 59 Flz := evF_den C0_ok fun ds rs h => by
  unfold Flz at h
  split at h
  · rename_i x
    simp only [Option.some.injEq, Prod.mk.injEq, Bool.and_eq_true, uR_iff, decide_eq_true_eq] at h
    obtain ⟨⟨⟨h1, h2⟩, h3⟩, rfl⟩ := h
    refine (tlz x).trans ?_
    obtain ⟨m, rfl⟩ := Int.eq_ofNat_of_zero_le h1
    rw [l32_eq m (by omega) (by omega)]
    unfold lzI
    rw [Int.toNat_natCast]
  · cases h
/-- What a number comes to when it is moved up by its leading zeros. -/
theorem lz_spec (x : Int) (h0 : 0 < x) (h1 : x < 18446744073709551616) : ∃ s : Nat, lzI x = s ∧ s ≤ 63 ∧ 9223372036854775808 ≤ x * 2 ^ s ∧ x * 2 ^ s < 18446744073709551616 := by
  obtain ⟨m, rfl⟩ := Int.eq_ofNat_of_zero_le (Int.le_of_lt h0)
  have hm : m ≠ 0 := by omega
  have hl : Nat.log2 m < 64 := by rw [Nat.log2_lt hm]; omega
  have ⟨a, b⟩ := (Nat.log2_eq_iff hm).mp rfl
  refine ⟨63 - Nat.log2 m, ?_, by omega, ?_, ?_⟩
  · unfold lzI; rw [Int.toNat_natCast]; omega
  · have e : (2 : Nat) ^ Nat.log2 m * 2 ^ (63 - Nat.log2 m) = 9223372036854775808 := by rw [← Nat.pow_add, show Nat.log2 m + (63 - Nat.log2 m) = 63 by omega]
    have := Nat.mul_le_mul_right (2 ^ (63 - Nat.log2 m)) a
    rw [e] at this
    have h2 : ((m * 2 ^ (63 - Nat.log2 m) : Nat) : Int) = (m : Int) * 2 ^ (63 - Nat.log2 m) := by rw [Int.natCast_mul, Int.natCast_pow]; rfl
    rw [← h2]
    omega
  · have e : (2 : Nat) ^ (Nat.log2 m + 1) * 2 ^ (63 - Nat.log2 m) = 18446744073709551616 := by rw [← Nat.pow_add, show Nat.log2 m + 1 + (63 - Nat.log2 m) = 64 by omega]
    have := Nat.mul_lt_mul_of_pos_right b (Nat.two_pow_pos (63 - Nat.log2 m))
    rw [e] at this
    have h2 : ((m * 2 ^ (63 - Nat.log2 m) : Nat) : Int) = (m : Int) * 2 ^ (63 - Nat.log2 m) := by rw [Int.natCast_mul, Int.natCast_pow]; rfl
    rw [← h2]
    omega
end Go.Proofs.YtofkkhdmjllcfaaDoor
namespace Go.Proofs.YtofkkhdmjllcfaaDoor
open Go.Ev
set_option linter.all false
theorem q_mul (q a b : Int) : q * (a * 4294967296 + b) = q * a * 4294967296 + q * b := by rw [Int.mul_add, ← Int.mul_assoc]
/-- The guess q of a digit, and what it leaves. -/
def dvP (y a b u c q r : Int) : Prop := (0 ≤ b ∧ b < 4294967296) ∧ (2147483648 ≤ a ∧ a < 4294967296) ∧ y = a * 4294967296 + b ∧ (0 ≤ u ∧ u < y) ∧ (0 ≤ c ∧ c < 4294967296) ∧ q * a + r = u ∧ (0 ≤ r ∧ r < 4294967296) ∧ (u * 4294967296 + c) / y ≤ q ∧ q ≤ 4294967297
instance {y a b u c q r : Int} : Decidable (dvP y a b u c q r) := by unfold dvP; infer_instance
def dvB (y a b u c q r : Int) : Bool := decide (dvP y a b u c q r)
theorem qs_lt {y u c : Int} (h0 : 0 ≤ u) (h1 : u < y) (h2 : 0 ≤ c) (h3 : c < 4294967296) : 0 ≤ (u * 4294967296 + c) / y ∧ (u * 4294967296 + c) / y < 4294967296 := by
  constructor
  · exact Int.ediv_nonneg (by omega) (by omega)
  · rw [Int.ediv_lt_iff_lt_mul (by omega)]
    omega
theorem go_div {f : St → (X → St → Option (List D)) → Option (List D)} {lv : List Tmp} {lx : Option (List Tmp)} {S : Int → Int → St} {Sx : Int → St} {e : Nat} {y a b u c : Int}
    (hr : ∀ q r R K, f (S q r) (rnd lv lx R K) = br (decide (q ≥ 4294967296)) (br (decide (IntKind.u64.wrap (r + a) ≥ 4294967296)) (K (.exit e) (Sx (IntKind.u64.wrap (q - 1)))) (R (S (IntKind.u64.wrap (q - 1)) (IntKind.u64.wrap (r + a)))))
      (br (decide (IntKind.u64.wrap (q * b) > IntKind.u64.wrap (IntKind.u64.wrap (4294967296 * r) + c))) (br (decide (IntKind.u64.wrap (r + a) ≥ 4294967296)) (K (.exit e) (Sx (IntKind.u64.wrap (q - 1)))) (R (S (IntKind.u64.wrap (q - 1)) (IntKind.u64.wrap (r + a))))) (K (.exit e) (Sx q))))
    (K : X → St → Option (List D)) : ∀ (n : Nat) (q r : Int), dvP y a b u c q r → q < (u * 4294967296 + c) / y + n → rounds lv lx f n (S q r) K = K (.exit e) (Sx ((u * 4294967296 + c) / y))
  | 0, q, r, h, hn => by
    obtain ⟨_, _, _, _, _, _, _, h8, _⟩ := h
    omega
  | n + 1, q, r, h, hn => by
    obtain ⟨⟨b0, b1⟩, ⟨a0, a1⟩, hy, ⟨u0, u1⟩, ⟨c0, c1⟩, hq, ⟨r0, r1⟩, h8, h9⟩ := h
    obtain ⟨s0, s1⟩ := qs_lt u0 u1 c0 c1
    have hle : ∀ t, t ≤ (u * 4294967296 + c) / y ↔ t * y ≤ u * 4294967296 + c := fun t => Int.le_ediv_iff_mul_le (by omega)
    generalize hs : (u * 4294967296 + c) / y = qs at *
    have e1 := hle q
    have e2 := hle (q - 1)
    have m1 : q * y = q * a * 4294967296 + q * b := by rw [hy, q_mul]
    have m2 : (q - 1) * y = q * a * 4294967296 + q * b - y := by rw [Int.sub_mul, m1, Int.one_mul]
    have m3 : (q - 1) * a = q * a - a := by rw [Int.sub_mul, Int.one_mul]
    have m4 : (q - 1) * b = q * b - b := by rw [Int.sub_mul, Int.one_mul]
    have hdec : qs ≤ q - 1 → 1 ≤ q → rounds lv lx f (n + 1) (S q r) K = br (decide (IntKind.u64.wrap (r + a) ≥ 4294967296)) (K (.exit e) (Sx (IntKind.u64.wrap (q - 1)))) (rounds lv lx f n (S (IntKind.u64.wrap (q - 1)) (IntKind.u64.wrap (r + a))) K) → rounds lv lx f (n + 1) (S q r) K = K (.exit e) (Sx qs) := by
      intro k1 k2 k3
      rw [k3, wrapU_id (n := r + a) (by omega) (by omega), wrapU_id (n := q - 1) (by omega) (by omega)]
      by_cases h2 : r + a ≥ 4294967296
      · have k4 : (q - 1) * b ≤ 4294967296 * 4294967295 := Int.mul_le_mul (by omega) (by omega) b0 (by decide)
        have k5 : q - 1 ≤ qs := e2.mpr (by omega)
        rw [decide_eq_true h2, br_true, show q - 1 = qs by omega]
      · rw [decide_eq_false h2, br_false, ← hs]
        exact go_div hr K n (q - 1) (r + a) ⟨⟨b0, b1⟩, ⟨a0, a1⟩, hy, ⟨u0, u1⟩, ⟨c0, c1⟩, by omega, ⟨by omega, by omega⟩, by omega, by omega⟩ (by omega)
    by_cases h1 : q ≥ 4294967296
    · exact hdec (by omega) (by omega) (by rw [rnds1, hr, decide_eq_true h1, br_true])
    · have z0 : 0 ≤ q * b := Int.mul_nonneg (by omega) b0
      have z1 : q * b ≤ 4294967295 * 4294967295 := Int.mul_le_mul (by omega) (by omega) b0 (by decide)
      have w1 : IntKind.u64.wrap (q * b) = q * b := wrapU_id (by omega) (by omega)
      have w2 : IntKind.u64.wrap (IntKind.u64.wrap (4294967296 * r) + c) = 4294967296 * r + c := by rw [wrapU_id (n := 4294967296 * r) (by omega) (by omega), wrapU_id (by omega) (by omega)]
      by_cases h2 : q * b > 4294967296 * r + c
      · exact hdec (by omega) (by omega) (by rw [rnds1, hr, decide_eq_false h1, br_false, w1, w2, decide_eq_true h2, br_true])
      · rw [rnds1, hr, decide_eq_false h1, br_false, w1, w2, decide_eq_false h2, br_false, show q = qs by omega]
def S17 (y s a b u c d q r : Int) : St := ⟨us 2 ++ [.int .u64 y] ++ us 5 ++ [.int .u64 s, .int .u64 a, .int .u64 b, .int .u64 u] ++ us 1 ++ [.int .u64 c, .int .u64 d, .int .u64 q, .int .u64 r] ++ us 118, [[]], []⟩
def S17x (y s a b u c d q : Int) : St := ⟨us 2 ++ [.int .u64 y] ++ us 5 ++ [.int .u64 s, .int .u64 a, .int .u64 b, .int .u64 u] ++ us 1 ++ [.int .u64 c, .int .u64 d, .int .u64 q] ++ us 119, [[]], []⟩
def G17 (cd : Int → Int → Int → Int → Int → Int → Int → Bool) : List It → (X → St → Option (List D)) → Option (List D)
  | [.i y, .i s, .i a, .i b, .i u, .i c, .i d, .i q, .i r], k => br (cd y a b u c q r) (k (.exit 0) (S17x y s a b u c d ((u * 4294967296 + c) / y))) none
  | _, _ => none
def l17 (cd : Int → Int → Int → Int → Int → Int → Int → Bool) : LoopC where
  f := 41
  id := 17
  lv := [2, 8, 9, 10, 11, 13, 14, 15, 16]
  lx := [2, 6, 7, 8, 9, 10, 11, 13, 14, 15]
  p := { τ := pu 2 ++ [.v (.int .u64)] ++ pu 5 ++ [.v (.int .u64), .v (.int .u64), .v (.int .u64), .v (.int .u64)] ++ pu 1 ++ [.v (.int .u64), .v (.int .u64), .v (.int .u64), .v (.int .u64)] ++ pu 118, saved := [[]], mem := [] }
  G := G17 cd
def S24 (y s a b d q1 r u q : Int) : St := ⟨us 2 ++ [.int .u64 y] ++ us 5 ++ [.int .u64 s, .int .u64 a, .int .u64 b] ++ us 3 ++ [.int .u64 d, .int .u64 q1, .int .u64 r, .int .u64 u, .int .u64 q] ++ us 116, [[]], []⟩
def S24x (y s d q1 u q : Int) : St := ⟨us 2 ++ [.int .u64 y] ++ us 5 ++ [.int .u64 s] ++ us 5 ++ [.int .u64 d, .int .u64 q1] ++ us 1 ++ [.int .u64 u, .int .u64 q] ++ us 116, [[]], []⟩
def G24 (cd : Int → Int → Int → Int → Int → Int → Int → Bool) : List It → (X → St → Option (List D)) → Option (List D)
  | [.i y, .i s, .i a, .i b, .i d, .i q1, .i r, .i u, .i q], k => br (cd y a b u d q r) (k (.exit 2) (S24x y s d q1 u ((u * 4294967296 + d) / y))) none
  | _, _ => none
def l24 (cd : Int → Int → Int → Int → Int → Int → Int → Bool) : LoopC where
  f := 41
  id := 24
  lv := [2, 8, 9, 10, 14, 15, 16, 17, 18]
  lx := [2, 6, 7, 8, 14, 15, 17, 18]
  p := { τ := pu 2 ++ [.v (.int .u64)] ++ pu 5 ++ [.v (.int .u64), .v (.int .u64), .v (.int .u64)] ++ pu 3 ++ [.v (.int .u64), .v (.int .u64), .v (.int .u64), .v (.int .u64), .v (.int .u64)] ++ pu 116, saved := [[]], mem := [] }
  G := G24 cd
/-- The loops' conditions stay open here: else the kernel reckons with them. -/
noncomputable def C8g (cd : Int → Int → Int → Int → Int → Int → Int → Bool) : Cx := mkCx Tryd.prog fns [(59, Flz)] [l17 cd, l24 cd]
noncomputable def C8 : Cx := C8g dvB
theorem round17 (p : Nat) (R : St → Option (List D)) (K : X → St → Option (List D)) (y s a b u c d q r : Int) : evCode C8 41 true (inl C8 (p + 4)) (lbody C8.P 41 17) (S17 y s a b u c d q r) (rnd [2, 8, 9, 10, 11, 13, 14, 15, 16] (some [2, 6, 7, 8, 9, 10, 11, 13, 14, 15]) R K) =
    br (decide (q ≥ 4294967296)) (br (decide (IntKind.u64.wrap (r + a) ≥ 4294967296)) (K (.exit 0) (S17x y s a b u c d (IntKind.u64.wrap (q - 1)))) (R (S17 y s a b u c d (IntKind.u64.wrap (q - 1)) (IntKind.u64.wrap (r + a)))))
      (br (decide (IntKind.u64.wrap (q * b) > IntKind.u64.wrap (IntKind.u64.wrap (4294967296 * r) + c))) (br (decide (IntKind.u64.wrap (r + a) ≥ 4294967296)) (K (.exit 0) (S17x y s a b u c d (IntKind.u64.wrap (q - 1)))) (R (S17 y s a b u c d (IntKind.u64.wrap (q - 1)) (IntKind.u64.wrap (r + a))))) (K (.exit 0) (S17x y s a b u c d q))) := by kernel_rfl
theorem round24 (p : Nat) (R : St → Option (List D)) (K : X → St → Option (List D)) (y s a b d q1 r u q : Int) : evCode C8 41 true (inl C8 (p + 4)) (lbody C8.P 41 24) (S24 y s a b d q1 r u q) (rnd [2, 8, 9, 10, 14, 15, 16, 17, 18] (some [2, 6, 7, 8, 14, 15, 17, 18]) R K) =
    br (decide (q ≥ 4294967296)) (br (decide (IntKind.u64.wrap (r + a) ≥ 4294967296)) (K (.exit 2) (S24x y s d q1 u (IntKind.u64.wrap (q - 1)))) (R (S24 y s a b d q1 (IntKind.u64.wrap (r + a)) u (IntKind.u64.wrap (q - 1)))))
      (br (decide (IntKind.u64.wrap (q * b) > IntKind.u64.wrap (IntKind.u64.wrap (4294967296 * r) + d))) (br (decide (IntKind.u64.wrap (r + a) ≥ 4294967296)) (K (.exit 2) (S24x y s d q1 u (IntKind.u64.wrap (q - 1)))) (R (S24 y s a b d q1 (IntKind.u64.wrap (r + a)) u (IntKind.u64.wrap (q - 1))))) (K (.exit 2) (S24x y s d q1 u q))) := by kernel_rfl
set_option maxRecDepth 100000 in
theorem loop17 : LoopOk C8 (l17 dvB) := ⟨by kernel_rfl, fun q its k rr h => by
  show rounds [2, 8, 9, 10, 11, 13, 14, 15, 16] (some [2, 6, 7, 8, 9, 10, 11, 13, 14, 15]) (evCode C8 41 true (inl C8 (q + 4)) (lbody C8.P 41 17)) 18446744073709551616 (bst (l17 dvB).p its) k = some rr
  change G17 dvB its k = some rr at h
  unfold G17 at h
  split at h
  · rename_i y s a b u c d q0 r
    rcases br_some h with ⟨h1, h2⟩ | ⟨_, h2⟩
    · have h1 := of_decide_eq_true h1
      rw [← h2]
      have hs := (qs_lt h1.2.2.2.1.1 h1.2.2.2.1.2 h1.2.2.2.2.1.1 h1.2.2.2.2.1.2).1
      have hq := h1.2.2.2.2.2.2.2.2
      exact go_div (S := fun q r => S17 y s a b u c d q r) (Sx := fun q => S17x y s a b u c d q) (fun q' r' R K => round17 q R K y s a b u c d q' r') k 18446744073709551616 q0 r h1 (by omega)
    · cases h2
  · cases h⟩
set_option maxRecDepth 100000 in
theorem loop24 : LoopOk C8 (l24 dvB) := ⟨by kernel_rfl, fun q its k rr h => by
  show rounds [2, 8, 9, 10, 14, 15, 16, 17, 18] (some [2, 6, 7, 8, 14, 15, 17, 18]) (evCode C8 41 true (inl C8 (q + 4)) (lbody C8.P 41 24)) 18446744073709551616 (bst (l24 dvB).p its) k = some rr
  change G24 dvB its k = some rr at h
  unfold G24 at h
  split at h
  · rename_i y s a b d q1 r u q0
    rcases br_some h with ⟨h1, h2⟩ | ⟨_, h2⟩
    · have h1 := of_decide_eq_true h1
      rw [← h2]
      have hs := (qs_lt h1.2.2.2.1.1 h1.2.2.2.1.2 h1.2.2.2.2.1.1 h1.2.2.2.2.1.2).1
      have hq := h1.2.2.2.2.2.2.2.2
      exact go_div (S := fun q r => S24 y s a b d q1 r u q) (Sx := fun q => S24x y s d q1 u q) (fun q' r' R K => round24 q R K y s a b d q1 r' u q') k 18446744073709551616 q0 r h1 (by omega)
    · cases h2
  · cases h⟩
theorem C8_ok : CxOk C8 := mkCx_ok enter mixed (fun p h => by
  simp only [List.mem_cons, List.not_mem_nil, or_false] at h
  rcases h with rfl
  exact den_lz) (fun l h => by
  simp only [List.mem_cons, List.not_mem_nil, or_false] at h
  rcases h with rfl | rfl
  · exact loop17
  · exact loop24)
end Go.Proofs.YtofkkhdmjllcfaaDoor
namespace Go.Proofs.YtofkkhdmjllcfaaDoor
open Go.Ev
set_option linter.all false
def wu (n : Int) : Int := IntKind.u64.wrap n
def dv3 (y s d q1 v q0 : Int) : Option (List D) := br (decide (s < 0)) none (some [.v (.int .u64 (wu (wu (q1 * 4294967296) + q0))), .v (.int .u64 ((wu (wu (wu (v * 4294967296) + d) - wu (q0 * y))).fdiv (2 ^ min s.toNat 64)))])
def dv2 (cd : Int → Int → Int → Int → Int → Int → Int → Bool) (y s a b d q1 v : Int) : Option (List D) := br (decide (a = 0)) none (br (cd y a b v d (wu (v.tdiv a)) (wu (v - wu (wu (v.tdiv a) * a)))) (dv3 y s d q1 v ((v * 4294967296 + d) / y)) none)
def dv1 (cd : Int → Int → Int → Int → Int → Int → Int → Bool) (y s a b u c d : Int) : Option (List D) := br (decide (a = 0)) none (br (cd y a b u c (wu (u.tdiv a)) (wu (u - wu (wu (u.tdiv a) * a)))) (dv2 cd y s a b d ((u * 4294967296 + c) / y) (wu (wu (wu (u * 4294967296) + c) - wu ((u * 4294967296 + c) / y * y)))) none)
def sh (x s : Int) : Int := wu (x * 2 ^ min s.toNat 64)
def sr (x s : Int) : Int := x.fdiv (2 ^ min s.toNat 64)
def hiW (x : Int) : Int := x.fdiv (2 ^ 32)
def loW (x : Int) : Int := wu ((BitVec.ofInt 64 x &&& BitVec.ofInt 64 4294967295).toNat : Int)
def dv0 (cd : Int → Int → Int → Int → Int → Int → Int → Bool) (h l y s : Int) : Option (List D) :=
  br (decide (s < 0)) none (br (decide (s < 0)) none (br (decide (wu (64 - s) < 0)) none (br (decide (s < 0)) none
    (dv1 cd (sh y s) s (hiW (sh y s)) (loW (sh y s)) (wu ((BitVec.ofInt 64 (sh h s) ||| BitVec.ofInt 64 (sr l (wu (64 - s)))).toNat : Int)) (hiW (sh l s)) (loW (sh l s))))))
def dvT (cd : Int → Int → Int → Int → Int → Int → Int → Bool) (h l y : Int) : Option (List D) :=
  br (y == 0) none (br (decide (y ≤ h)) none (br (h == 0) (br (decide (y = 0)) none (br (decide (y = 0)) none (some [.v (.int .u64 (wu (l.tdiv y))), .v (.int .u64 (l.tmod y))])))
    (br (uR y && decide (0 < y)) (dv0 cd h l y (wu (lzI y))) none)))
set_option maxRecDepth 100000 in
theorem tdv (cd : Int → Int → Int → Int → Int → Int → Int → Bool) (h l y : Int) : evF (C8g cd) 6 41 [.v (u64 h), .v (u64 l), .v (u64 y)] = dvT cd h l y := by kernel_rfl
end Go.Proofs.YtofkkhdmjllcfaaDoor

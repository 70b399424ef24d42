/- Package ratio and its reference: numbers of 64 bits, common divisors, checks. No conditions. -/
import Derived.Test.YtofkkhdmjllcfaaDoorEvZa
import Derived.Test.YtofkkhdmjllcfaaDoorRows
namespace Go.Proofs.YtofkkhdmjllcfaaDoor
open Go.Ev
set_option linter.all false
def u64 (n : Int) : Value := .int .u64 n
/-- In the range of numbers without a sign. -/
def uR (n : Int) : Bool := decide (0 ≤ n) && decide (n < 18446744073709551616)
theorem uR_iff {n : Int} : uR n = true ↔ 0 ≤ n ∧ n < 18446744073709551616 := by simp [uR]
/-- In the range of numbers with a sign. -/
def iR (n : Int) : Bool := decide (-9223372036854775808 ≤ n) && decide (n < 9223372036854775808)
theorem iR_iff {n : Int} : iR n = true ↔ -9223372036854775808 ≤ n ∧ n < 9223372036854775808 := by simp [iR]
theorem wrapU (n : Int) : IntKind.u64.wrap n = n % 18446744073709551616 := by
  simp [IntKind.wrap, IntKind.signed, IntKind.bits]
theorem wrapI (n : Int) : IntKind.i64.wrap n = (n + 9223372036854775808) % 18446744073709551616 - 9223372036854775808 := by
  simp only [IntKind.wrap, IntKind.signed, IntKind.bits]
  first | omega | (simp; omega)
theorem wrapU_id {n : Int} (h0 : 0 ≤ n) (h1 : n < 18446744073709551616) : IntKind.u64.wrap n = n := by rw [wrapU]; omega
theorem andM (a : Int) (h0 : 0 ≤ a) (h1 : a < 18446744073709551616) : IntKind.u64.wrap ((BitVec.ofInt 64 a &&& BitVec.ofInt 64 4294967295).toNat : Int) = a % 4294967296 := by
  obtain ⟨n, rfl⟩ : ∃ n : Nat, a = n := ⟨a.toNat, by omega⟩
  have hn : n < 2 ^ 64 := by omega
  rw [BitVec.toNat_and, BitVec.ofInt_natCast, BitVec.toNat_ofNat, Nat.mod_eq_of_lt hn, show (BitVec.ofInt 64 4294967295).toNat = 2 ^ 32 - 1 from rfl, Nat.and_two_pow_sub_one_eq_mod]
  rw [wrapU_id (by omega) (by omega)]
  omega
theorem shrM (a : Int) (h0 : 0 ≤ a) : a.fdiv (2 ^ 32) = a / 4294967296 := by
  rw [Int.fdiv_eq_ediv_of_nonneg _ (by decide)]
  rfl
theorem orN (k m : Nat) (hm : m < 4294967296) : k * 4294967296 ||| m = k * 4294967296 + m := by
  have p : (2 : Nat) ^ 32 = 4294967296 := by decide
  have e : k * 4294967296 = k <<< 32 := by rw [Nat.shiftLeft_eq, p]
  rw [e, ← Nat.shiftLeft_add_eq_or_of_lt (by rw [p]; exact hm)]
theorem orM (a b : Int) (h0 : 0 ≤ a) (h1 : a < 18446744073709551616) (h2 : a % 4294967296 = 0) (h3 : 0 ≤ b) (h4 : b < 4294967296) : IntKind.u64.wrap ((BitVec.ofInt 64 a ||| BitVec.ofInt 64 b).toNat : Int) = a + b := by
  obtain ⟨k, rfl⟩ : ∃ k : Nat, a = ((k * 4294967296 : Nat) : Int) := ⟨(a / 4294967296).toNat, by omega⟩
  obtain ⟨m, rfl⟩ : ∃ m : Nat, b = m := ⟨b.toNat, by omega⟩
  have ea : (BitVec.ofInt 64 ((k * 4294967296 : Nat) : Int)).toNat = k * 4294967296 := by
    rw [BitVec.ofInt_natCast, BitVec.toNat_ofNat]
    exact Nat.mod_eq_of_lt (by omega)
  have eb : (BitVec.ofInt 64 (m : Int)).toNat = m := by
    rw [BitVec.ofInt_natCast, BitVec.toNat_ofNat]
    exact Nat.mod_eq_of_lt (by omega)
  have hm : m < 4294967296 := by omega
  rw [BitVec.toNat_or, ea, eb, orN k m hm]
  clear ea eb
  generalize hw : k * 4294967296 = w at *
  rw [wrapU_id (n := ((w + m : Nat) : Int)) (Int.natCast_nonneg _) (by omega)]
  exact Int.natCast_add _ _
/-- What two numbers have in common. -/
def gcdI (a b : Int) : Int := (Nat.gcd a.toNat b.toNat : Nat)
theorem gcdI_zero (a : Int) (h : 0 ≤ a) : gcdI a 0 = a := by
  unfold gcdI
  rw [show (0 : Int).toNat = 0 from rfl, Nat.gcd_zero_right]
  omega
theorem gcdI_step (a b : Int) (ha : 0 ≤ a) (hb : 0 < b) : gcdI a b = gcdI b (a.tmod b) := by
  unfold gcdI
  have e : (a.tmod b).toNat = a.toNat % b.toNat := by
    rw [Int.tmod_eq_emod_of_nonneg ha]
    obtain ⟨n, rfl⟩ : ∃ n : Nat, a = n := ⟨a.toNat, by omega⟩
    obtain ⟨m, rfl⟩ : ∃ m : Nat, b = m := ⟨b.toNat, by omega⟩
    rw [← Int.natCast_emod]
    rfl
  rw [e, Nat.gcd_comm b.toNat, Nat.gcd_comm a.toNat, Nat.gcd_rec]
def absI (n : Int) : Int := if n < 0 then -n else n
/-- The whole product: its upper and its lower half. -/
theorem mul_parts (x y : Int) (hx : 0 ≤ x) (hx1 : x < 18446744073709551616) (hy : 0 ≤ y) (hy1 : y < 18446744073709551616) :
    ∃ p00 p01 p10 p11 : Int, p00 = (x % 4294967296) * (y % 4294967296) ∧ p01 = (x % 4294967296) * (y / 4294967296) ∧ p10 = (x / 4294967296) * (y % 4294967296) ∧ p11 = (x / 4294967296) * (y / 4294967296) ∧
      (0 ≤ p00 ∧ p00 ≤ 18446744065119617025) ∧ (0 ≤ p01 ∧ p01 ≤ 18446744065119617025) ∧ (0 ≤ p10 ∧ p10 ≤ 18446744065119617025) ∧ (0 ≤ p11 ∧ p11 ≤ 18446744065119617025) ∧ x * y = p11 * 18446744073709551616 + (p10 + p01) * 4294967296 + p00 := by
  have b : ∀ u v : Int, 0 ≤ u → u ≤ 4294967295 → 0 ≤ v → v ≤ 4294967295 → 0 ≤ u * v ∧ u * v ≤ 18446744065119617025 := fun u v h1 h2 h3 h4 => ⟨Int.mul_nonneg h1 h3, by
    have := Int.mul_le_mul h2 h4 h3 (by decide)
    omega⟩
  refine ⟨_, _, _, _, rfl, rfl, rfl, rfl, b _ _ (by omega) (by omega) (by omega) (by omega), b _ _ (by omega) (by omega) (by omega) (by omega), b _ _ (by omega) (by omega) (by omega) (by omega), b _ _ (by omega) (by omega) (by omega) (by omega), ?_⟩
  have ex : x = (x / 4294967296) * 4294967296 + x % 4294967296 := by omega
  have ey : y = (y / 4294967296) * 4294967296 + y % 4294967296 := by omega
  generalize x / 4294967296 = x1 at *
  generalize x % 4294967296 = x0 at *
  generalize y / 4294967296 = y1 at *
  generalize y % 4294967296 = y0 at *
  rw [ex, ey, Int.add_mul, Int.mul_add, Int.mul_add]
  have h1 : x1 * 4294967296 * (y1 * 4294967296) = x1 * y1 * 18446744073709551616 := by
    rw [Int.mul_assoc, Int.mul_comm 4294967296, Int.mul_assoc y1, ← Int.mul_assoc]
    rfl
  have h2 : x1 * 4294967296 * y0 = x1 * y0 * 4294967296 := by rw [Int.mul_assoc, Int.mul_comm 4294967296, ← Int.mul_assoc]
  have h3 : x0 * (y1 * 4294967296) = x0 * y1 * 4294967296 := by rw [← Int.mul_assoc]
  rw [h1, h2, h3, Int.add_mul]
  omega
end Go.Proofs.YtofkkhdmjllcfaaDoor
namespace Go.Proofs.YtofkkhdmjllcfaaDoor
open Go.Ev
set_option linter.all false
def fns : List Nat := [3, 4, 5, 6, 7, 8, 9, 10, 11, 12, 13, 14, 15, 16, 17, 18, 19, 20, 21, 22, 23, 24, 25, 26, 27, 28, 29, 30, 31, 32, 33, 34, 35, 36, 37, 40, 41, 42, 43, 44, 45, 46, 47, 48, 49, 50, 51, 52, 53, 54, 55, 56, 57, 58, 59, 60, 61, 72]
theorem enter : ∀ (g : FuncId), fns.contains g = true → ∀ (args : Array Value) (w : World), (callFunc g args).run Tryd.prog w = .ok (.enter g args) w := by
  intro g hg
  simp only [fns, List.contains_cons, List.contains_nil, Bool.or_false, Bool.or_eq_true, beq_iff_eq] at hg
  rcases hg with rfl | rfl | rfl | rfl | rfl | rfl | rfl | rfl | rfl | rfl | rfl | rfl | rfl | rfl | rfl | rfl | rfl | rfl | rfl | rfl | rfl | rfl | rfl | rfl | rfl | rfl | rfl | rfl | rfl | rfl | rfl | rfl | rfl | rfl | rfl | rfl | rfl | rfl | rfl | rfl | rfl | rfl | rfl | rfl | rfl | rfl | rfl | rfl | rfl | rfl | rfl | rfl | rfl | rfl | rfl | rfl | rfl | rfl
  · exact Tryd.call3
  · exact Tryd.call4
  · exact Tryd.call5
  · exact Tryd.call6
  · exact Tryd.call7
  · exact Tryd.call8
  · exact Tryd.call9
  · exact Tryd.call10
  · exact Tryd.call11
  · exact Tryd.call12
  · exact Tryd.call13
  · exact Tryd.call14
  · exact Tryd.call15
  · exact Tryd.call16
  · exact Tryd.call17
  · exact Tryd.call18
  · exact Tryd.call19
  · exact Tryd.call20
  · exact Tryd.call21
  · exact Tryd.call22
  · exact Tryd.call23
  · exact Tryd.call24
  · exact Tryd.call25
  · exact Tryd.call26
  · exact Tryd.call27
  · exact Tryd.call28
  · exact Tryd.call29
  · exact Tryd.call30
  · exact Tryd.call31
  · exact Tryd.call32
  · exact Tryd.call33
  · exact Tryd.call34
  · exact Tryd.call35
  · exact Tryd.call36
  · exact Tryd.call37
  · exact Tryd.call40
  · exact Tryd.call41
  · exact Tryd.call42
  · exact Tryd.call43
  · exact Tryd.call44
  · exact Tryd.call45
  · exact Tryd.call46
  · exact Tryd.call47
  · exact Tryd.call48
  · exact Tryd.call49
  · exact Tryd.call50
  · exact Tryd.call51
  · exact Tryd.call52
  · exact Tryd.call53
  · exact Tryd.call54
  · exact Tryd.call55
  · exact Tryd.call56
  · exact Tryd.call57
  · exact Tryd.call58
  · exact Tryd.call59
  · exact Tryd.call60
  · exact Tryd.call61
  · exact Tryd.call72
theorem mixed : Tryd.prog.follows .mixedOrders = true := by kernel_rfl
noncomputable def C0 : Cx := mkCx Tryd.prog fns [] []
theorem C0_ok : CxOk C0 := mkCx_ok enter mixed (fun p h => by cases h) (fun l h => by cases h)
noncomputable def CH (hole : Nat → Nat → St → Option (List D)) : Cx := { mkCx Tryd.prog fns [] [] with Λ := fun f id => some (fun σ _ => hole f id σ) }
theorem xg (hole : Nat → Nat → St → Option (List D)) (a b : Int) : evF (CH hole) 6 35 [.v (u64 a), .v (u64 b)] =
    hole (35) (1) ⟨[.int .u64 (a), .int .u64 (b)] ++ us 2 ++ [.int .u64 (0)] ++ us 7, [[]], []⟩ := by kernel_rfl
theorem xh (hole : Nat → Nat → St → Option (List D)) (a b : Int) : evF (CH hole) 6 47 [.v (u64 a), .v (u64 b)] =
    hole (47) (1) ⟨[.int .u64 (a), .int .u64 (b)] ++ us 2 ++ [.int .u64 (0)] ++ us 7, [[]], []⟩ := by kernel_rfl
theorem tsize (n : Int) : evF C0 6 37 [.v (i64 n)] =
    br (decide (n < 0)) (some [.v (.int .u64 (IntKind.u64.wrap (0 - IntKind.u64.wrap n)))]) (some [.v (.int .u64 (IntKind.u64.wrap n))]) := by kernel_rfl
theorem tabs (n : Int) : evF C0 6 48 [.v (i64 n)] =
    br (decide (n < 0)) (some [.v (.int .u64 (IntKind.u64.wrap (IntKind.u64.wrap (IntKind.i64.wrap (0 - IntKind.i64.wrap (n + 1))) + 1)))]) (some [.v (.int .u64 (IntKind.u64.wrap n))]) := by kernel_rfl
theorem tmul (x y : Int) : evF C0 6 36 [.v (u64 x), .v (u64 y)] =
    some [.v (.int .u64 (IntKind.u64.wrap (IntKind.u64.wrap (IntKind.u64.wrap (x.fdiv (2 ^ 32) * y.fdiv (2 ^ 32)) + (IntKind.u64.wrap (IntKind.u64.wrap (x.fdiv (2 ^ 32) * IntKind.u64.wrap (↑(BitVec.ofInt 64 y &&& BitVec.ofInt 64 4294967295).toNat : Int)) + (IntKind.u64.wrap (IntKind.u64.wrap (↑(BitVec.ofInt 64 x &&& BitVec.ofInt 64 4294967295).toNat : Int) * IntKind.u64.wrap (↑(BitVec.ofInt 64 y &&& BitVec.ofInt 64 4294967295).toNat : Int))).fdiv (2 ^ 32))).fdiv (2 ^ 32)) + (IntKind.u64.wrap (IntKind.u64.wrap (↑(BitVec.ofInt 64 (IntKind.u64.wrap (IntKind.u64.wrap (x.fdiv (2 ^ 32) * IntKind.u64.wrap (↑(BitVec.ofInt 64 y &&& BitVec.ofInt 64 4294967295).toNat : Int)) + (IntKind.u64.wrap (IntKind.u64.wrap (↑(BitVec.ofInt 64 x &&& BitVec.ofInt 64 4294967295).toNat : Int) * IntKind.u64.wrap (↑(BitVec.ofInt 64 y &&& BitVec.ofInt 64 4294967295).toNat : Int))).fdiv (2 ^ 32))) &&& BitVec.ofInt 64 4294967295).toNat : Int) + IntKind.u64.wrap (IntKind.u64.wrap (↑(BitVec.ofInt 64 x &&& BitVec.ofInt 64 4294967295).toNat : Int) * y.fdiv (2 ^ 32)))).fdiv (2 ^ 32)))), .v (.int .u64 (IntKind.u64.wrap (x * y)))] := by kernel_rfl
theorem ttimes (x y : Int) : evF C0 6 52 [.v (u64 x), .v (u64 y)] =
    some [.agg [.v (.int .u64 (IntKind.u64.wrap (IntKind.u64.wrap (IntKind.u64.wrap (x.fdiv (2 ^ 32) * y.fdiv (2 ^ 32)) + (IntKind.u64.wrap (x.fdiv (2 ^ 32) * IntKind.u64.wrap (↑(BitVec.ofInt 64 y &&& BitVec.ofInt 64 4294967295).toNat : Int))).fdiv (2 ^ 32)) + (IntKind.u64.wrap (IntKind.u64.wrap (IntKind.u64.wrap (↑(BitVec.ofInt 64 (IntKind.u64.wrap (x.fdiv (2 ^ 32) * IntKind.u64.wrap (↑(BitVec.ofInt 64 y &&& BitVec.ofInt 64 4294967295).toNat : Int))) &&& BitVec.ofInt 64 4294967295).toNat : Int) + IntKind.u64.wrap (IntKind.u64.wrap (↑(BitVec.ofInt 64 x &&& BitVec.ofInt 64 4294967295).toNat : Int) * y.fdiv (2 ^ 32))) + (IntKind.u64.wrap (IntKind.u64.wrap (↑(BitVec.ofInt 64 x &&& BitVec.ofInt 64 4294967295).toNat : Int) * IntKind.u64.wrap (↑(BitVec.ofInt 64 y &&& BitVec.ofInt 64 4294967295).toNat : Int))).fdiv (2 ^ 32))).fdiv (2 ^ 32)))), .v (.int .u64 (IntKind.u64.wrap (↑(BitVec.ofInt 64 (IntKind.u64.wrap (IntKind.u64.wrap (IntKind.u64.wrap (IntKind.u64.wrap (↑(BitVec.ofInt 64 (IntKind.u64.wrap (x.fdiv (2 ^ 32) * IntKind.u64.wrap (↑(BitVec.ofInt 64 y &&& BitVec.ofInt 64 4294967295).toNat : Int))) &&& BitVec.ofInt 64 4294967295).toNat : Int) + IntKind.u64.wrap (IntKind.u64.wrap (↑(BitVec.ofInt 64 x &&& BitVec.ofInt 64 4294967295).toNat : Int) * y.fdiv (2 ^ 32))) + (IntKind.u64.wrap (IntKind.u64.wrap (↑(BitVec.ofInt 64 x &&& BitVec.ofInt 64 4294967295).toNat : Int) * IntKind.u64.wrap (↑(BitVec.ofInt 64 y &&& BitVec.ofInt 64 4294967295).toNat : Int))).fdiv (2 ^ 32)) * 2 ^ 32)) ||| BitVec.ofInt 64 (IntKind.u64.wrap (↑(BitVec.ofInt 64 (IntKind.u64.wrap (IntKind.u64.wrap (↑(BitVec.ofInt 64 x &&& BitVec.ofInt 64 4294967295).toNat : Int) * IntKind.u64.wrap (↑(BitVec.ofInt 64 y &&& BitVec.ofInt 64 4294967295).toNat : Int))) &&& BitVec.ofInt 64 4294967295).toNat : Int))).toNat : Int)))]] := by kernel_rfl
end Go.Proofs.YtofkkhdmjllcfaaDoor
namespace Go.Proofs.YtofkkhdmjllcfaaDoor
open Go.Ev
set_option linter.all false
def Sg (a b : Int) : St := ⟨[.int .u64 a, .int .u64 b] ++ us 10, [[]], []⟩
def Sgx (a : Int) : St := ⟨[.int .u64 a] ++ us 11, [[]], []⟩
def Gg : List It → (X → St → Option (List D)) → Option (List D)
  | [.i a, .i b], k => br (decide (0 ≤ a) && decide (0 ≤ b) && decide (b < 18446744073709551616)) (k (.exit 0) (Sgx (gcdI a b))) none
  | _, _ => none
def lg (f : FuncId) : LoopC where
  f := f
  id := 1
  lv := [0, 1]
  lx := [0, 4]
  p := { τ := [.v (.int .u64), .v (.int .u64)] ++ pu 10, saved := [[]], mem := [] }
  G := Gg
noncomputable def Cg : Cx := mkCx Tryd.prog fns [] [lg 35, lg 47]
theorem roundg (q : Nat) (R : St → Option (List D)) (K : X → St → Option (List D)) (a b : Int) : evCode Cg 35 true (inl Cg (q + 4)) (lbody Cg.P 35 1) (Sg a b) (rnd [0, 1] (some [0, 4]) R K) =
    br (decide (b > 0)) (br (decide (b = 0)) none (R (Sg b (a.tmod b)))) (K (.exit 0) (Sgx a)) := by kernel_rfl
theorem roundh (q : Nat) (R : St → Option (List D)) (K : X → St → Option (List D)) (a b : Int) : evCode Cg 47 true (inl Cg (q + 4)) (lbody Cg.P 47 1) (Sg a b) (rnd [0, 1] (some [0, 4]) R K) =
    br (b != 0) (br (decide (b = 0)) none (R (Sg b (a.tmod b)))) (K (.exit 0) (Sgx a)) := by kernel_rfl
theorem go_gcd {f : St → (X → St → Option (List D)) → Option (List D)} (hr : ∀ a b R K, 0 ≤ b → f (Sg a b) (rnd [0, 1] (some [0, 4]) R K) = if b = 0 then K (.exit 0) (Sgx a) else R (Sg b (a.tmod b))) (K : X → St → Option (List D)) :
    ∀ (n : Nat) (a b : Int), 0 ≤ a → 0 ≤ b → b < n → rounds [0, 1] (some [0, 4]) f n (Sg a b) K = K (.exit 0) (Sgx (gcdI a b))
  | 0, a, b, _, h1, h2 => by omega
  | n + 1, a, b, h0, h1, h2 => by
    rw [rnds1, hr _ _ _ _ h1]
    by_cases hb : b = 0
    · rw [if_pos hb, hb, gcdI_zero a h0]
    · rw [if_neg hb, gcdI_step a b h0 (by omega)]
      have h3 : 0 ≤ a.tmod b := Int.tmod_nonneg _ h0
      have h4 : a.tmod b < b := Int.tmod_lt_of_pos _ (by omega)
      exact go_gcd hr K n b (a.tmod b) h1 h3 (by omega)
set_option maxRecDepth 100000 in
theorem loopg : LoopOk Cg (lg 35) := ⟨by kernel_rfl, fun q its k rr h => by
  show rounds [0, 1] (some [0, 4]) (evCode Cg 35 true (inl Cg (q + 4)) (lbody Cg.P 35 1)) 18446744073709551616 (bst (lg 35).p its) k = some rr
  change Gg its k = some rr at h
  unfold Gg at h
  split at h
  · rename_i a b
    rcases br_some h with ⟨h1, h2⟩ | ⟨_, h2⟩
    · simp only [Bool.and_eq_true, decide_eq_true_eq] at h1
      rw [← h2]
      exact go_gcd (fun a b R K hb => by
        rw [roundg]
        by_cases h0 : b = 0
        · rw [if_pos h0, show decide (b > 0) = false from decide_eq_false (by omega)]; rfl
        · rw [if_neg h0, show decide (b > 0) = true from decide_eq_true (by omega), decide_eq_false h0]; rfl) k 18446744073709551616 a b h1.1.1 h1.1.2 (by have := h1.2; exact this)
    · cases h2
  · cases h⟩
set_option maxRecDepth 100000 in
theorem looph : LoopOk Cg (lg 47) := ⟨by kernel_rfl, fun q its k rr h => by
  show rounds [0, 1] (some [0, 4]) (evCode Cg 47 true (inl Cg (q + 4)) (lbody Cg.P 47 1)) 18446744073709551616 (bst (lg 47).p its) k = some rr
  change Gg its k = some rr at h
  unfold Gg at h
  split at h
  · rename_i a b
    rcases br_some h with ⟨h1, h2⟩ | ⟨_, h2⟩
    · simp only [Bool.and_eq_true, decide_eq_true_eq] at h1
      rw [← h2]
      exact go_gcd (fun a b R K hb => by
        rw [roundh]
        by_cases h0 : b = 0
        · rw [if_pos h0, show (b != 0) = false by simpa using h0]; rfl
        · rw [if_neg h0, show (b != 0) = true by simpa using h0, decide_eq_false h0]; rfl) k 18446744073709551616 a b h1.1.1 h1.1.2 (by have := h1.2; exact this)
    · cases h2
  · cases h⟩
theorem Cg_ok : CxOk Cg := mkCx_ok enter mixed (fun p h => by cases h) (fun l h => by
  simp only [List.mem_cons, List.not_mem_nil, or_false] at h
  rcases h with rfl | rfl
  · exact loopg
  · exact looph)
def Fgcd : List D → Option (Bool × List D)
  | [.v (.int .u64 a), .v (.int .u64 b)] => some (uR a && uR b, [.v (u64 (gcdI a b))])
  | _ => none
theorem tg (a b : Int) : evF Cg 6 35 [.v (u64 a), .v (u64 b)] = br (decide (0 ≤ a) && decide (0 ≤ b) && decide (b < 18446744073709551616)) (some [.v (u64 (gcdI a b))]) none := by kernel_rfl
theorem th (a b : Int) : evF Cg 6 47 [.v (u64 a), .v (u64 b)] = br (decide (0 ≤ a) && decide (0 ≤ b) && decide (b < 18446744073709551616)) (some [.v (u64 (gcdI a b))]) none := by kernel_rfl
theorem den_gcd : Den Tryd.prog 35 Fgcd := evF_den Cg_ok fun ds rs h => by
  unfold Fgcd at h
  split at h
  · rename_i a b
    simp only [Option.some.injEq, Prod.mk.injEq, Bool.and_eq_true, uR_iff] at h
    obtain ⟨⟨h1, h2⟩, rfl⟩ := h
    refine (tg a b).trans ?_
    rw [show (decide (0 ≤ a) && decide (0 ≤ b) && decide (b < 18446744073709551616)) = true by simp only [Bool.and_eq_true, decide_eq_true_eq]; omega]
    rfl
  · cases h
theorem den_gcdr : Den Tryd.prog 47 Fgcd := evF_den Cg_ok fun ds rs h => by
  unfold Fgcd at h
  split at h
  · rename_i a b
    simp only [Option.some.injEq, Prod.mk.injEq, Bool.and_eq_true, uR_iff] at h
    obtain ⟨⟨h1, h2⟩, rfl⟩ := h
    refine (th a b).trans ?_
    rw [show (decide (0 ≤ a) && decide (0 ≤ b) && decide (b < 18446744073709551616)) = true by simp only [Bool.and_eq_true, decide_eq_true_eq]; omega]
    rfl
  · cases h
def Fsize : List D → Option (Bool × List D)
  | [.v (.int .i64 n)] => some (iR n, [.v (u64 (absI n))])
  | _ => none
theorem den_size : Den Tryd.prog 37 Fsize := evF_den C0_ok fun ds rs h => by
  unfold Fsize at h
  split at h
  · rename_i n
    simp only [Option.some.injEq, Prod.mk.injEq, iR_iff] at h
    obtain ⟨h1, rfl⟩ := h
    refine (tsize n).trans ?_
    unfold absI
    by_cases hn : n < 0
    · rw [if_pos hn, decide_eq_true hn, show IntKind.u64.wrap (0 - IntKind.u64.wrap n) = -n by simp only [wrapU]; omega]; rfl
    · rw [if_neg hn, decide_eq_false hn, show IntKind.u64.wrap n = n by simp only [wrapU]; omega]; rfl
  · cases h
theorem den_abs : Den Tryd.prog 48 Fsize := evF_den C0_ok fun ds rs h => by
  unfold Fsize at h
  split at h
  · rename_i n
    simp only [Option.some.injEq, Prod.mk.injEq, iR_iff] at h
    obtain ⟨h1, rfl⟩ := h
    refine (tabs n).trans ?_
    unfold absI
    by_cases hn : n < 0
    · rw [if_pos hn, decide_eq_true hn, show IntKind.u64.wrap (IntKind.u64.wrap (IntKind.i64.wrap (0 - IntKind.i64.wrap (n + 1))) + 1) = -n by simp only [wrapU, wrapI]; omega]; rfl
    · rw [if_neg hn, decide_eq_false hn, show IntKind.u64.wrap n = n by simp only [wrapU]; omega]; rfl
  · cases h
def Fmul : List D → Option (Bool × List D)
  | [.v (.int .u64 x), .v (.int .u64 y)] => some (uR x && uR y, [.v (u64 (x * y / 18446744073709551616)), .v (u64 (x * y % 18446744073709551616))])
  | _ => none
def Ftimes : List D → Option (Bool × List D)
  | [.v (.int .u64 x), .v (.int .u64 y)] => some (uR x && uR y, [.agg [.v (u64 (x * y / 18446744073709551616)), .v (u64 (x * y % 18446744073709551616))]])
  | _ => none
theorem den_mul : Den Tryd.prog 36 Fmul := evF_den C0_ok fun ds rs h => by
  unfold Fmul at h
  split at h
  · rename_i x y
    simp only [Option.some.injEq, Prod.mk.injEq, Bool.and_eq_true, uR_iff] at h
    obtain ⟨⟨⟨x0, x1⟩, y0, y1⟩, rfl⟩ := h
    refine (tmul x y).trans ?_
    rw [andM x x0 x1, andM y y0 y1, shrM x x0, shrM y y0]
    obtain ⟨p00, p01, p10, p11, h00, h01, h10, h11, b00, b01, b10, b11, hxy⟩ := mul_parts x y x0 x1 y0 y1
    rw [← h00, ← h01, ← h10, ← h11, hxy]
    clear h00 h01 h10 h11 hxy
    rw [wrapU_id (n := p00) (by omega) (by omega), wrapU_id (n := p01) (by omega) (by omega), wrapU_id (n := p10) (by omega) (by omega), wrapU_id (n := p11) (by omega) (by omega), shrM p00 (by omega),
      wrapU_id (n := p10 + p00 / 4294967296) (by omega) (by omega), andM (p10 + p00 / 4294967296) (by omega) (by omega), shrM (p10 + p00 / 4294967296) (by omega)]
    rw [wrapU_id (n := (p10 + p00 / 4294967296) % 4294967296 + p01) (by omega) (by omega), shrM ((p10 + p00 / 4294967296) % 4294967296 + p01) (by omega), wrapU, wrapU, wrapU]
    refine congrArg some ?_
    congr 1
    · refine congrArg (fun n => D.v (u64 n)) ?_
      omega
  · cases h
end Go.Proofs.YtofkkhdmjllcfaaDoor
namespace Go.Proofs.YtofkkhdmjllcfaaDoor
open Go.Ev
set_option linter.all false
theorem den_times : Den Tryd.prog 52 Ftimes := evF_den C0_ok fun ds rs h => by
  unfold Ftimes at h
  split at h
  · rename_i x y
    simp only [Option.some.injEq, Prod.mk.injEq, Bool.and_eq_true, uR_iff] at h
    obtain ⟨⟨⟨x0, x1⟩, y0, y1⟩, rfl⟩ := h
    refine (ttimes x y).trans ?_
    rw [andM x x0 x1, andM y y0 y1, shrM x x0, shrM y y0]
    obtain ⟨p00, p01, p10, p11, h00, h01, h10, h11, b00, b01, b10, b11, hxy⟩ := mul_parts x y x0 x1 y0 y1
    rw [← h00, ← h01, ← h10, ← h11, hxy]
    clear h00 h01 h10 h11 hxy
    rw [wrapU_id (n := p00) (by omega) (by omega), wrapU_id (n := p01) (by omega) (by omega), wrapU_id (n := p10) (by omega) (by omega), wrapU_id (n := p11) (by omega) (by omega), shrM p00 (by omega), shrM p10 (by omega),
      andM p10 (by omega) (by omega), andM p00 (by omega) (by omega), wrapU_id (n := p10 % 4294967296 + p01) (by omega) (by omega), wrapU_id (n := p10 % 4294967296 + p01 + p00 / 4294967296) (by omega) (by omega),
      shrM (p10 % 4294967296 + p01 + p00 / 4294967296) (by omega)]
    rw [wrapU ((p10 % 4294967296 + p01 + p00 / 4294967296) * 2 ^ 32), show ((2 : Int) ^ 32) = 4294967296 from rfl, orM _ _ (by omega) (by omega) (by omega) (by omega) (by omega), wrapU, wrapU]
    refine congrArg some ?_
    refine congrArg (fun x => [x]) ?_
    refine congrArg D.agg ?_
    congr 1
    · refine congrArg (fun n => D.v (u64 n)) ?_
      omega
    · refine congrArg (fun n => [D.v (u64 n)]) ?_
      omega
  · cases h
/-- A valid ratio. -/
def goodR (n d : Int) : Prop := (1 ≤ d ∧ d ≤ 1000000000000000000) ∧ (-1000000000000000000 ≤ n ∧ n ≤ 1000000000000000000) ∧ gcdI (absI n) d = 1
instance {n d : Int} : Decidable (goodR n d) := by unfold goodR; infer_instance
def chkE (n d : Int) : Int := if goodR n d then 0 else 8
def mkE (N D : Int) : Int := if 1000000000000000000 < N ∨ 1000000000000000000 < D then 16 else 0
def mkN (neg : Bool) (N D : Int) : Int := if mkE N D = 0 then (if neg = true then -N else N) else 0
def mkD (N D : Int) : Int := if mkE N D = 0 then D else 0
theorem absI_nonneg (n : Int) : 0 ≤ absI n := by unfold absI; split <;> omega
theorem gcdI_nonneg (a b : Int) : 0 ≤ gcdI a b := Int.natCast_nonneg _
theorem gcdI_pos (a b : Int) (ha : 0 ≤ a) (hb : 0 < b) : 0 < gcdI a b := by
  unfold gcdI
  have : 0 < Nat.gcd a.toNat b.toNat := Nat.gcd_pos_of_pos_right _ (by omega)
  omega
def Fchk : List D → Option (Bool × List D)
  | [.agg [.v (.int .i64 n), .v (.int .i64 d)]] => some (iR n && iR d, [.v (i64 (chkE n d))])
  | _ => none
noncomputable def C1 : Cx := mkCx Tryd.prog fns [(35, Fgcd), (47, Fgcd), (37, Fsize), (48, Fsize)] []
theorem C1_ok : CxOk C1 := mkCx_ok enter mixed (fun p h => by
  simp only [List.mem_cons, List.not_mem_nil, or_false] at h
  rcases h with rfl | rfl | rfl | rfl
  · exact den_gcd
  · exact den_gcdr
  · exact den_size
  · exact den_abs) (fun l h => by cases h)
theorem tchk (n d : Int) : evF C1 6 25 [.agg [.v (i64 n), .v (i64 d)]] =
    br (decide (d < 1)) (some [.v (i64 (8))]) (br (iR n) (br (decide ((if IntKind.u64.wrap d > absI n then IntKind.u64.wrap d else absI n) > 1000000000000000000)) (some [.v (i64 (8))]) (br (iR n) (br (uR (absI n) && uR (IntKind.u64.wrap d)) (br (decide (gcdI (absI n) (IntKind.u64.wrap d) > 1)) (some [.v (i64 (8))]) (some [.v (i64 (0))])) (none)) (none))) (none)) := by kernel_rfl
theorem tchkr (n d : Int) : evF C1 6 27 [.agg [.v (i64 n), .v (i64 d)]] =
    br (decide (d < 1)) (some [.v (i64 (8))]) (br (decide (d > 1000000000000000000)) (some [.v (i64 (8))]) (br (decide (n < -1000000000000000000)) (some [.v (i64 (8))]) (br (decide (n > 1000000000000000000)) (some [.v (i64 (8))]) (br (iR n) (br (uR (absI n) && uR (IntKind.u64.wrap d)) (br (gcdI (absI n) (IntKind.u64.wrap d) != 1) (some [.v (i64 (8))]) (some [.v (i64 (0))])) (none)) (none))))) := by kernel_rfl
theorem tsigned (m : Bool) (N D : Int) : evF C1 6 42 [.v (.bool m), .v (u64 N), .v (u64 D)] =
    br (decide ((if D > N then D else N) > 1000000000000000000)) (some [.agg [.v (i64 (0)), .v (i64 (0))], .v (i64 (16))]) (br (m) (some [.agg [.v (i64 (IntKind.i64.wrap (0 - IntKind.i64.wrap N))), .v (i64 (IntKind.i64.wrap D))], .v (i64 (0))]) (some [.agg [.v (i64 (IntKind.i64.wrap N)), .v (i64 (IntKind.i64.wrap D))], .v (i64 (0))])) := by kernel_rfl
theorem tmade (m : Bool) (h1 N h2 D : Int) : evF C1 6 57 [.v (.bool m), .agg [.v (u64 h1), .v (u64 N)], .agg [.v (u64 h2), .v (u64 D)]] =
    br (decide (h1 > 0)) (some [.agg [.v (i64 (0)), .v (i64 (0))], .v (i64 (16))]) (br (decide (h2 > 0)) (some [.agg [.v (i64 (0)), .v (i64 (0))], .v (i64 (16))]) (br (decide (N > 1000000000000000000)) (some [.agg [.v (i64 (0)), .v (i64 (0))], .v (i64 (16))]) (br (decide (D > 1000000000000000000)) (some [.agg [.v (i64 (0)), .v (i64 (0))], .v (i64 (16))]) (br (m) (some [.agg [.v (i64 (IntKind.i64.wrap (0 - IntKind.i64.wrap N))), .v (i64 (IntKind.i64.wrap D))], .v (i64 (0))]) (some [.agg [.v (i64 (IntKind.i64.wrap N)), .v (i64 (IntKind.i64.wrap D))], .v (i64 (0))]))))) := by kernel_rfl
end Go.Proofs.YtofkkhdmjllcfaaDoor
namespace Go.Proofs.YtofkkhdmjllcfaaDoor
open Go.Ev
set_option linter.all false
theorem wrapI_id {n : Int} (h0 : -9223372036854775808 ≤ n) (h1 : n < 9223372036854775808) : IntKind.i64.wrap n = n := by rw [wrapI]; omega
theorem absI_or (n : Int) : 0 ≤ absI n ∧ (absI n = n ∨ absI n = -n) := by unfold absI; split <;> omega
theorem den_chk : Den Tryd.prog 25 Fchk := evF_den C1_ok fun ds rs h => by
  unfold Fchk at h
  split at h
  · rename_i n d
    simp only [Option.some.injEq, Prod.mk.injEq, Bool.and_eq_true] at h
    obtain ⟨⟨h1, h2⟩, rfl⟩ := h
    refine (tchk n d).trans ?_
    have ⟨h3, h4⟩ := iR_iff.mp h1
    have ⟨h5, h6⟩ := iR_iff.mp h2
    have ⟨a1, a0⟩ := absI_or n
    unfold chkE
    by_cases hd : d < 1
    · rw [decide_eq_true hd, br_true, if_neg (fun hg => by have := hg.1.1; omega)]
    · rw [decide_eq_false hd, h1, wrapU_id (n := d) (by omega) (by omega), br_false, br_true]
      by_cases hm : (if d > absI n then d else absI n) > 1000000000000000000
      · rw [decide_eq_true hm, br_true, if_neg (fun hg => by have := hg.1; have := hg.2.1; split at hm <;> omega)]
      · have hm' : d ≤ 1000000000000000000 ∧ absI n ≤ 1000000000000000000 := by split at hm <;> omega
        rw [decide_eq_false hm, br_false, br_true, show (uR (absI n) && uR d) = true by simp only [Bool.and_eq_true, uR_iff]; omega, br_true]
        have hp := gcdI_pos (absI n) d a1 (by omega)
        by_cases hg : gcdI (absI n) d > 1
        · rw [decide_eq_true hg, br_true, if_neg (fun h => by have := h.2.2; omega)]
        · rw [decide_eq_false hg, br_false, if_pos ⟨by omega, by omega, by omega⟩]
  · cases h
theorem den_chkr : Den Tryd.prog 27 Fchk := evF_den C1_ok fun ds rs h => by
  unfold Fchk at h
  split at h
  · rename_i n d
    simp only [Option.some.injEq, Prod.mk.injEq, Bool.and_eq_true] at h
    obtain ⟨⟨h1, h2⟩, rfl⟩ := h
    refine (tchkr n d).trans ?_
    have ⟨h3, h4⟩ := iR_iff.mp h1
    have ⟨h5, h6⟩ := iR_iff.mp h2
    have ⟨a1, a0⟩ := absI_or n
    unfold chkE
    by_cases hd : d < 1
    · rw [decide_eq_true hd, br_true, if_neg (fun hg => by have := hg.1.1; omega)]
    · rw [decide_eq_false hd, br_false]
      by_cases e1 : d > 1000000000000000000
      · rw [decide_eq_true e1, br_true, if_neg (fun hg => by have := hg.1.2; omega)]
      · rw [decide_eq_false e1, br_false]
        by_cases e2 : n < -1000000000000000000
        · rw [decide_eq_true e2, br_true, if_neg (fun hg => by have := hg.2.1.1; omega)]
        · rw [decide_eq_false e2, br_false]
          by_cases e3 : n > 1000000000000000000
          · rw [decide_eq_true e3, br_true, if_neg (fun hg => by have := hg.2.1.2; omega)]
          · rw [decide_eq_false e3, br_false, h1, wrapU_id (n := d) (by omega) (by omega), br_true, show (uR (absI n) && uR d) = true by simp only [Bool.and_eq_true, uR_iff]; omega, br_true]
            by_cases hg : gcdI (absI n) d = 1
            · rw [show (gcdI (absI n) d != 1) = false by simpa using hg, br_false, if_pos ⟨by omega, by omega, hg⟩]
            · rw [show (gcdI (absI n) d != 1) = true by simpa using hg, br_true, if_neg (fun h => hg h.2.2)]
  · cases h
def Fsigned : List D → Option (Bool × List D)
  | [.v (.bool m), .v (.int .u64 N), .v (.int .u64 d)] => some (uR N && uR d, [.agg [.v (i64 (mkN m N d)), .v (i64 (mkD N d))], .v (i64 (mkE N d))])
  | _ => none
def Fmade : List D → Option (Bool × List D)
  | [.v (.bool m), .agg [.v (.int .u64 h1), .v (.int .u64 N)], .agg [.v (.int .u64 h2), .v (.int .u64 d)]] => some (uR h1 && uR N && uR h2 && uR d, [.agg [.v (i64 (mkN m (h1 * 18446744073709551616 + N) (h2 * 18446744073709551616 + d))), .v (i64 (mkD (h1 * 18446744073709551616 + N) (h2 * 18446744073709551616 + d)))], .v (i64 (mkE (h1 * 18446744073709551616 + N) (h2 * 18446744073709551616 + d)))])
  | _ => none
theorem mk_bad {N d : Int} (h : 1000000000000000000 < N ∨ 1000000000000000000 < d) (m : Bool) : mkE N d = 16 ∧ mkN m N d = 0 ∧ mkD N d = 0 := by
  have e : mkE N d = 16 := if_pos h
  unfold mkN mkD
  rw [e]
  exact ⟨rfl, rfl, rfl⟩
theorem mk_ok {N d : Int} (h : ¬ (1000000000000000000 < N ∨ 1000000000000000000 < d)) (m : Bool) : mkE N d = 0 ∧ mkN m N d = (if m = true then -N else N) ∧ mkD N d = d := by
  have e : mkE N d = 0 := if_neg h
  unfold mkN mkD
  rw [e]
  exact ⟨rfl, rfl, rfl⟩
theorem den_signed : Den Tryd.prog 42 Fsigned := evF_den C1_ok fun ds rs h => by
  unfold Fsigned at h
  split at h
  · rename_i m N d
    simp only [Option.some.injEq, Prod.mk.injEq, Bool.and_eq_true, uR_iff] at h
    obtain ⟨⟨⟨h1, h2⟩, h3, h4⟩, rfl⟩ := h
    refine (tsigned m N d).trans ?_
    by_cases hm : (if d > N then d else N) > 1000000000000000000
    · obtain ⟨e1, e2, e3⟩ := mk_bad (N := N) (d := d) (by split at hm <;> omega) m
      rw [decide_eq_true hm, e1, e2, e3]; rfl
    · have hb : ¬ (1000000000000000000 < N ∨ 1000000000000000000 < d) := by split at hm <;> omega
      obtain ⟨e1, e2, e3⟩ := mk_ok hb m
      rw [decide_eq_false hm, e1, e2, e3, wrapI_id (n := N) (by omega) (by omega), wrapI_id (n := d) (by omega) (by omega), wrapI_id (n := 0 - N) (by omega) (by omega), Int.zero_sub]
      cases m <;> rfl
  · cases h
theorem den_made : Den Tryd.prog 57 Fmade := evF_den C1_ok fun ds rs h => by
  unfold Fmade at h
  split at h
  · rename_i m a N b d
    simp only [Option.some.injEq, Prod.mk.injEq, Bool.and_eq_true, uR_iff] at h
    obtain ⟨⟨⟨⟨a1, a2⟩, h1, h2⟩, b1, b2⟩, h3, h4⟩ := h.1
    obtain ⟨_, rfl⟩ := h
    refine (tmade m a N b d).trans ?_
    by_cases ha : a > 0
    · obtain ⟨e1, e2, e3⟩ := mk_bad (N := a * 18446744073709551616 + N) (d := b * 18446744073709551616 + d) (by omega) m
      rw [decide_eq_true ha, e1, e2, e3]; rfl
    · rw [decide_eq_false ha, br_false]
      by_cases hb : b > 0
      · obtain ⟨e1, e2, e3⟩ := mk_bad (N := a * 18446744073709551616 + N) (d := b * 18446744073709551616 + d) (by omega) m
        rw [decide_eq_true hb, e1, e2, e3]; rfl
      · rw [decide_eq_false hb, br_false, show a * 18446744073709551616 + N = N by omega, show b * 18446744073709551616 + d = d by omega]
        by_cases hN : N > 1000000000000000000
        · obtain ⟨e1, e2, e3⟩ := mk_bad (N := N) (d := d) (by omega) m
          rw [decide_eq_true hN, e1, e2, e3]; rfl
        · rw [decide_eq_false hN, br_false]
          by_cases hd : d > 1000000000000000000
          · obtain ⟨e1, e2, e3⟩ := mk_bad (N := N) (d := d) (by omega) m
            rw [decide_eq_true hd, e1, e2, e3]; rfl
          · obtain ⟨e1, e2, e3⟩ := mk_ok (N := N) (d := d) (by omega) m
            rw [decide_eq_false hd, br_false, e1, e2, e3, wrapI_id (n := N) (by omega) (by omega), wrapI_id (n := d) (by omega) (by omega), wrapI_id (n := 0 - N) (by omega) (by omega), Int.zero_sub]
            cases m <;> rfl
  · cases h
noncomputable def C2 : Cx := mkCx Tryd.prog fns [(35, Fgcd), (47, Fgcd), (37, Fsize), (48, Fsize), (25, Fchk), (27, Fchk), (42, Fsigned), (57, Fmade), (36, Fmul), (52, Ftimes)] []
theorem C2_ok : CxOk C2 := mkCx_ok enter mixed (fun p h => by
  simp only [List.mem_cons, List.not_mem_nil, or_false] at h
  rcases h with rfl | rfl | rfl | rfl | rfl | rfl | rfl | rfl | rfl | rfl
  · exact den_gcd
  · exact den_gcdr
  · exact den_size
  · exact den_abs
  · exact den_chk
  · exact den_chkr
  · exact den_signed
  · exact den_made
  · exact den_mul
  · exact den_times) (fun l h => by cases h)
theorem tboth (n d m e : Int) : evF C2 6 33 [.agg [.v (i64 n), .v (i64 d)], .agg [.v (i64 m), .v (i64 e)]] =
    br (iR n && iR d) (br (chkE n d != 0) (br (iR n && iR d) (some [.v (i64 (chkE n d))]) (none)) (br (iR m && iR e) (some [.v (i64 (chkE m e))]) (none))) (none) := by kernel_rfl
theorem tcheck (n d m e : Int) : evF C2 6 34 [.agg [.v (i64 n), .v (i64 d)], .agg [.v (i64 m), .v (i64 e)]] =
    br (iR n && iR d) (br (iR m && iR e) (br ((((Row.zeros 2).setI 0 0 (chkE n d)).setI 1 0 (chkE m e)).I 0 0 != 0) (some [.v (i64 ((((Row.zeros 2).setI 0 0 (chkE n d)).setI 1 0 (chkE m e)).I 0 0))]) (br ((((Row.zeros 2).setI 0 0 (chkE n d)).setI 1 0 (chkE m e)).I 1 0 != 0) (some [.v (i64 ((((Row.zeros 2).setI 0 0 (chkE n d)).setI 1 0 (chkE m e)).I 1 0))]) (some [.v (i64 (0))]))) (none)) (none) := by kernel_rfl
theorem tmake (n d : Int) : evF C2 6 22 [.v (i64 n), .v (i64 d)] =
    br (d == 0) (some [.agg [.v (i64 (0)), .v (i64 (0))], .v (i64 (18))]) (br (iR n) (br (iR d) (br (uR (absI n) && uR (absI d)) (br (decide (gcdI (absI n) (absI d) = 0)) (none) (br (decide (gcdI (absI n) (absI d) = 0)) (none) (br (uR (IntKind.u64.wrap ((absI n).tdiv (gcdI (absI n) (absI d)))) && uR (IntKind.u64.wrap ((absI d).tdiv (gcdI (absI n) (absI d))))) (some [.agg [.v (i64 (mkN (!decide (n < 0) == decide (d < 0)) (IntKind.u64.wrap ((absI n).tdiv (gcdI (absI n) (absI d)))) (IntKind.u64.wrap ((absI d).tdiv (gcdI (absI n) (absI d)))))), .v (i64 (mkD (IntKind.u64.wrap ((absI n).tdiv (gcdI (absI n) (absI d)))) (IntKind.u64.wrap ((absI d).tdiv (gcdI (absI n) (absI d))))))], .v (i64 (mkE (IntKind.u64.wrap ((absI n).tdiv (gcdI (absI n) (absI d)))) (IntKind.u64.wrap ((absI d).tdiv (gcdI (absI n) (absI d))))))]) (none)))) (none)) (none)) (none)) := by kernel_rfl
theorem tfloor (n d : Int) : evF C2 6 21 [.agg [.v (i64 n), .v (i64 d)]] =
    br (iR n && iR d) (br (chkE n d != 0) (some [.v (i64 (0)), .v (i64 (chkE n d))]) (br (decide (d = 0)) (none) (br (decide (d = 0)) (none) (br (decide (n.tmod d < 0)) (some [.v (i64 (IntKind.i64.wrap (IntKind.i64.wrap (n.tdiv d) - 1))), .v (i64 (0))]) (some [.v (i64 (IntKind.i64.wrap (n.tdiv d))), .v (i64 (0))]))))) (none) := by kernel_rfl
end Go.Proofs.YtofkkhdmjllcfaaDoor

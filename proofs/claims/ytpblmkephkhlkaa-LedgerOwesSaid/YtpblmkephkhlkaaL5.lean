/- Valid expenses, of the program and of the reference. No conditions. -/
import Derived.Test.YtpblmkephkhlkaaL3
import Derived.Test.YtpblmkephkhlkaaEvX
namespace Go.Proofs.Ytpblmkephkhlkaa
open Go.Ev

def dup (r : Row) (j : Nat) : Bool := anyF (fun k => r.I k 0 == r.I j 0) j 0
def badE (n : Int) (r : Row) (j : Nat) : Bool := !isB n (r.I j 0) || dup r j
/-- Whether an expense is valid. -/
def expB (n b c : Int) (r : Row) : Bool := isB n b && decide (c ≥ 1) && decide (c ≤ 1000000000) && decide ((r.n : Int) ≥ 1) && !anyF (badE n r) r.n 0
def ex (b c : Int) (r : Row) : D := .agg [.v (i64 b), .v (i64 c), .slice [.int .i64] r]
def F20 : List D → Option (Bool × List D)
  | [.v (.int .i64 n), .agg [.v (.int .i64 b), .v (.int .i64 c), .slice [.int .i64] r]] => some (partiesB n && decide (r.n ≤ 1000), [.v (.bool (expB n b c r))])
  | _ => none

theorem t16 (n p : Int) : evF C0 6 16 [.v (i64 n), .v (i64 p)] = br (decide (p ≥ 0)) (some [.v (.bool (decide (p < n)))]) (some [.v (.bool false)]) := by kernel_rfl
theorem den16 : Den Try.prog 16 F19 := evF_den C0_ok fun ds rs h => by
  unfold F19 at h
  split at h
  · rename_i n p
    cases h
    refine (t16 n p).trans ?_
    unfold isB
    cases decide (p ≥ 0) <;> rfl
  · cases h

/-! ### ledger.valid -/
def seen (r : Row) : Nat → Nat
  | 0 => 0
  | j + 1 => seen r j ||| (1 <<< (r.I j 0).toNat)

theorem seen_lt {r : Row} : ∀ {j : Nat}, (∀ i, i < j → r.I i 0 < 10) → seen r j < 2 ^ 10
  | 0, _ => by show 0 < 2 ^ 10; decide
  | j + 1, h => Nat.or_lt_two_pow (seen_lt fun i hi => h i (by omega)) (by
    have := h j (by omega)
    rw [Nat.shiftLeft_eq, Nat.one_mul]
    exact Nat.pow_lt_pow_right (by decide) (by omega))

theorem seen_bit {r : Row} {p : Int} (hp : 0 ≤ p) : ∀ {j : Nat}, (∀ i, i < j → 0 ≤ r.I i 0) → (seen r j).testBit p.toNat = anyF (fun k => r.I k 0 == p) j 0
  | 0, _ => by simp [seen, anyF]
  | j + 1, h => by
    have h0 := h j (by omega)
    rw [seen, Nat.testBit_or, seen_bit hp fun i hi => h i (by omega), Nat.shiftLeft_eq, Nat.one_mul, Nat.testBit_two_pow]
    rw [Bool.eq_iff_iff]
    simp only [Bool.or_eq_true, anyF_iff, decide_eq_true_eq, beq_iff_eq]
    constructor
    · rintro (⟨i, h1, h2, h3⟩ | h1)
      · exact ⟨i, h1, by omega, h3⟩
      · exact ⟨j, by omega, by omega, by omega⟩
    · rintro ⟨i, h1, h2, h3⟩
      by_cases hij : i = j
      · subst hij; exact .inr (by omega)
      · exact .inl ⟨i, h1, by omega, h3⟩

def S20 (n : Int) (s : Int) (len : Nat) (l j : Int) (r : Row) : St := { τ := [i64 n] ++ us 4 ++ [i64 s] ++ us 20 ++ [.slice (some ⟨0, 0, some 0⟩) len 0, i64 l, i64 j] ++ us 19, saved := [[]], mem := [some (.row [.int .i64] false r)] }
def S20r : St := { τ := us 4 ++ [.bool false] ++ us 43, saved := [[]], mem := [] }
def S20x : St := { τ := us 48, saved := [[]], mem := [] }
def G20 : List It → (X → St → Option (List D)) → Option (List D)
  | [.i n, .n len, .i l, .r r], k => br (decide (l = (len : Int)) && decide (len ≤ 1000) && decide (n ≤ 10)) (br (anyF (badE n r) len 0) (k .ret S20r) (k (.exit 0) S20x)) none
  | _, _ => none
def l20 : LoopC where
  f := 20
  id := 5
  lv := [0, 5, 26, 27, 28]
  lx := [4]
  p := { τ := [.v (.int .i64)] ++ pu 4 ++ [.v (.c (i64 0))] ++ pu 20 ++ [.v (.sl 0), .v (.int .i64), .v (.c (i64 0))] ++ pu 19, saved := [[]], mem := [.row [.int .i64] false] }
  G := G20
noncomputable def C20 : Cx := mkCx Try.prog fns [(16, F19)] [l20]

theorem round20 (d : Nat) (R : St → Option (List D)) (K : X → St → Option (List D)) (n s : Int) (len : Nat) (l : Int) (j : Nat) (r : Row) :
    evCode C20 20 true (inl C20 (d + 4)) (lbody C20.P 20 5) (S20 n s len l j r) (rnd [0, 5, 26, 27, 28] (some [4]) R K) =
    br (decide ((j : Int) < l)) (br (decide (0 ≤ (j : Int)) && decide ((j : Int) < len)) (br true (br (!isB n (r.I (0 + j) 0)) (K .ret S20r)
      (br (decide (r.I (0 + j) 0 < 0)) none (br (IntKind.i64.wrap ((BitVec.ofInt 64 (s.fdiv (2 ^ min (r.I (0 + j) 0).toNat 64)) &&& BitVec.ofInt 64 1).toNat : Int) == 1) (K .ret S20r)
        (br (decide (r.I (0 + j) 0 < 0)) none (R (S20 n (IntKind.i64.wrap ((BitVec.ofInt 64 s ||| BitVec.ofInt 64 (IntKind.i64.wrap (1 * 2 ^ min (r.I (0 + j) 0).toNat 64))).toNat : Int)) len l (IntKind.i64.wrap (j + 1)) r)))))) none) none) (K (.exit 0) S20x) := by kernel_rfl

theorem loop20 : LoopOk C20 l20 := ⟨by kernel_rfl, fun d its k rr h => by
  show rounds [0, 5, 26, 27, 28] (some [4]) (evCode C20 20 true (inl C20 (d + 4)) (lbody C20.P 20 5)) 18446744073709551616 (bst l20.p its) k = some rr
  change G20 its k = some rr at h
  unfold G20 at h
  split at h
  · rename_i n len l r
    rcases br_some h with ⟨h1, h2⟩ | ⟨_, h2⟩
    · simp only [Bool.and_eq_true, decide_eq_true_eq] at h1
      obtain ⟨⟨rfl, h1⟩, hn⟩ := h1
      rw [← h2]
      have good : ∀ i, badE n r i = false → 0 ≤ r.I i 0 ∧ r.I i 0 < 10 := by
        intro i hi
        simp only [badE, isB, Bool.or_eq_false_iff, Bool.not_eq_false', Bool.and_eq_true, decide_eq_true_eq] at hi
        omega
      exact rounds_scanI (S := fun j => S20 n (seen r j : Nat) len len j r) (len := len) (bad := badE n r) (Kb := fun K => K .ret S20r) (Ke := fun K => K (.exit 0) S20x)
        (fun j hj hp R K => by
          rw [round20, wrap64 (n := (j : Int) + 1) (by omega) (by omega), show decide ((j : Int) < (len : Int)) = true by simpa using hj, show (decide (0 ≤ (j : Int))) = true by simp, Nat.zero_add]
          simp only [Bool.and_true, br_true]
          cases hb : isB n (r.I j 0)
          · simp only [badE, hb, Bool.not_false, Bool.true_or, br_true]
          · have hr : 0 ≤ r.I j 0 ∧ r.I j 0 < 10 := by
              simp only [isB, Bool.and_eq_true, decide_eq_true_eq] at hb
              omega
            have hs := seen_lt (r := r) (j := j) fun i hi => (good i (hp i hi)).2
            have hbit := seen_bit (r := r) (p := r.I j 0) hr.1 (j := j) fun i hi => (good i (hp i hi)).1
            have hp10 : (r.I j 0).toNat < 10 := by omega
            rw [show decide (r.I j 0 < 0) = false by simp; omega, shr64 _ _ (by omega)]
            have h1s : 1 <<< (r.I j 0).toNat < 2 ^ 63 := by
              rw [Nat.shiftLeft_eq, Nat.one_mul]
              exact Nat.pow_lt_pow_right (by decide) (by omega)
            have e1 := shl64 1 (r.I j 0).toNat (by omega) h1s
            have e2 := and64 (seen r j >>> (r.I j 0).toNat) 1 (Nat.lt_of_le_of_lt (Nat.shiftRight_le _ _) (Nat.lt_trans hs (by decide))) (by decide)
            rw [show ((1 : Nat) : Int) = 1 from rfl] at e1 e2
            rw [e1, e2, or64 _ _ (Nat.lt_trans hs (by decide)) h1s]
            have e3 : ((((seen r j >>> (r.I j 0).toNat &&& 1 : Nat) : Int)) == 1) = dup r j := by
              rw [dup, ← hbit, Nat.testBit, Nat.and_comm]
              have : 1 &&& seen r j >>> (r.I j 0).toNat < 2 := by rw [Nat.and_comm]; exact Nat.and_lt_two_pow (n := 1) _ (by decide)
              rw [Bool.eq_iff_iff]
              simp only [beq_iff_eq, bne_iff_ne]
              omega
            rw [e3]
            simp only [badE, hb, Bool.not_true, Bool.false_or, br_false]
            rfl)
        (fun _ R K => by
          rw [round20, show decide ((len : Int) < (len : Int)) = false by simp]
          rfl) k len 0 (by omega) (fun i hi => by omega) _ (by omega)
    · cases h2
  · cases h⟩

theorem C20_ok : CxOk C20 := mkCx_ok enter mixed (fun p h => by
  simp only [List.mem_singleton] at h
  subst h
  exact den16) (fun l h => by
  simp only [List.mem_singleton] at h
  subst h
  exact loop20)

theorem t20 (n b c : Int) (r : Row) : evF C20 6 20 [.v (i64 n), ex b c r] =
    br true (br (!isB n b) (some [.v (.bool false)]) (br (decide (c ≥ 1)) (br (!decide (c ≤ 1000000000)) (some [.v (.bool false)]) (br ((r.n : Int) == 0) (some [.v (.bool false)])
      (br (decide ((r.n : Int) = (r.n : Int)) && decide (r.n ≤ 1000) && decide (n ≤ 10)) (br (anyF (badE n r) r.n 0) (some [.v (.bool false)]) (some [.v (.bool true)])) none))) (some [.v (.bool false)]))) none := by kernel_rfl

theorem den20 : Den Try.prog 20 F20 := evF_den C20_ok fun ds rs h => by
  unfold F20 at h
  split at h
  · rename_i n b c r
    simp only [Option.some.injEq, Prod.mk.injEq, Bool.and_eq_true, decide_eq_true_eq, partiesB] at h
    obtain ⟨⟨⟨_, h1⟩, h2⟩, rfl⟩ := h
    refine (t20 n b c r).trans ?_
    rw [show (decide ((r.n : Int) = (r.n : Int)) && decide (r.n ≤ 1000) && decide (n ≤ 10)) = true by simp; omega]
    have e : ((r.n : Int) == 0) = !decide ((r.n : Int) ≥ 1) := by rw [Bool.eq_iff_iff]; simp only [beq_iff_eq, Bool.not_eq_true', decide_eq_false_iff_not]; omega
    rw [e]
    unfold expB
    cases isB n b <;> cases decide (c ≥ 1) <;> cases decide (c ≤ 1000000000) <;> cases decide ((r.n : Int) ≥ 1) <;> cases anyF (badE n r) r.n 0 <;> rfl
  · cases h
end Go.Proofs.Ytpblmkephkhlkaa

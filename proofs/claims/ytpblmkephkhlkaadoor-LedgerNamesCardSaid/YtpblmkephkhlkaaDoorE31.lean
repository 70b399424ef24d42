/- Expenses: Shares, Owed, GreatExpenses. No conditions. -/
import Derived.Test.YtpblmkephkhlkaaDoorE26
namespace Go.Proofs.YtpblmkephkhlkaaDoor.Lg
open Go.Ev
set_option linter.all false

def dup (r : Row) (j : Nat) : Bool := anyF (fun k => r.I k 0 == r.I j 0) j 0
def badE (n : Int) (r : Row) (j : Nat) : Bool := !isB n (r.I j 0) || dup r j
/-- Whether an expense is valid. -/
def expB (n b c : Int) (r : Row) : Bool := isB n b && decide (c ≥ 1) && decide (c ≤ 1000000000) && decide ((r.n : Int) ≥ 1) && !anyF (badE n r) r.n 0
def ex (b c : Int) (r : Row) : D := .agg [.v (i64 b), .v (i64 c), .slice [.int .i64] r]
def F20 : List D → Option (Bool × List D)
  | [.v (.int .i64 n), .agg [.v (.int .i64 b), .v (.int .i64 c), .slice [.int .i64] r]] => some (partiesB n && decide (r.n ≤ 1000), [.v (.bool (expB n b c r))])
  | _ => none

theorem t16 (n p : Int) : evF C0 6 40 [.v (i64 n), .v (i64 p)] = br (decide (p ≥ 0)) (some [.v (.bool (decide (p < n)))]) (some [.v (.bool false)]) := by kernel_rfl
theorem den16 : Den Tryd.prog 40 F19 := evF_den C0_ok fun ds rs h => by
  unfold F19 at h
  split at h
  · rename_i n p
    cases h
    refine (t16 n p).trans ?_
    unfold isB
    cases decide (p ≥ 0) <;> rfl
  · cases h

/-! ### ledger.valid -/
def seen (r : Row) : Nat → Nat
  | 0 => 0
  | j + 1 => seen r j ||| (1 <<< (r.I j 0).toNat)

theorem seen_lt {r : Row} : ∀ {j : Nat}, (∀ i, i < j → r.I i 0 < 10) → seen r j < 2 ^ 10
  | 0, _ => by show 0 < 2 ^ 10; decide
  | j + 1, h => Nat.or_lt_two_pow (seen_lt fun i hi => h i (by omega)) (by
    have := h j (by omega)
    rw [Nat.shiftLeft_eq, Nat.one_mul]
    exact Nat.pow_lt_pow_right (by decide) (by omega))

theorem seen_bit {r : Row} {p : Int} (hp : 0 ≤ p) : ∀ {j : Nat}, (∀ i, i < j → 0 ≤ r.I i 0) → (seen r j).testBit p.toNat = anyF (fun k => r.I k 0 == p) j 0
  | 0, _ => by simp [seen, anyF]
  | j + 1, h => by
    have h0 := h j (by omega)
    rw [seen, Nat.testBit_or, seen_bit hp fun i hi => h i (by omega), Nat.shiftLeft_eq, Nat.one_mul, Nat.testBit_two_pow]
    rw [Bool.eq_iff_iff]
    simp only [Bool.or_eq_true, anyF_iff, decide_eq_true_eq, beq_iff_eq]
    constructor
    · rintro (⟨i, h1, h2, h3⟩ | h1)
      · exact ⟨i, h1, by omega, h3⟩
      · exact ⟨j, by omega, by omega, by omega⟩
    · rintro ⟨i, h1, h2, h3⟩
      by_cases hij : i = j
      · subst hij; exact .inr (by omega)
      · exact .inl ⟨i, h1, by omega, h3⟩

def S20 (n : Int) (s : Int) (len : Nat) (l j : Int) (r : Row) : St := { τ := [i64 n] ++ us 4 ++ [i64 s] ++ us 20 ++ [.slice (some ⟨0, 0, some 0⟩) len 0, i64 l, i64 j] ++ us 19, saved := [[]], mem := [some (.row [.int .i64] false r)] }
def S20r : St := { τ := us 4 ++ [.bool false] ++ us 43, saved := [[]], mem := [] }
def S20x : St := { τ := us 48, saved := [[]], mem := [] }
def G20 : List It → (X → St → Option (List D)) → Option (List D)
  | [.i n, .n len, .i l, .r r], k => br (decide (l = (len : Int)) && decide (len ≤ 1000) && decide (n ≤ 10)) (br (anyF (badE n r) len 0) (k .ret S20r) (k (.exit 0) S20x)) none
  | _, _ => none
def l20 : LoopC where
  f := 37
  id := 5
  lv := [0, 5, 26, 27, 28]
  lx := [4]
  p := { τ := [.v (.int .i64)] ++ pu 4 ++ [.v (.c (i64 0))] ++ pu 20 ++ [.v (.sl 0), .v (.int .i64), .v (.c (i64 0))] ++ pu 19, saved := [[]], mem := [.row [.int .i64] false] }
  G := G20
noncomputable def C20 : Cx := mkCx Tryd.prog fns [(40, F19)] [l20]

theorem round20 (d : Nat) (R : St → Option (List D)) (K : X → St → Option (List D)) (n s : Int) (len : Nat) (l : Int) (j : Nat) (r : Row) :
    evCode C20 37 true (inl C20 (d + 4)) (lbody C20.P 37 5) (S20 n s len l j r) (rnd [0, 5, 26, 27, 28] (some [4]) R K) =
    br (decide ((j : Int) < l)) (br (decide (0 ≤ (j : Int)) && decide ((j : Int) < len)) (br true (br (!isB n (r.I (0 + j) 0)) (K .ret S20r)
      (br (decide (r.I (0 + j) 0 < 0)) none (br (IntKind.i64.wrap ((BitVec.ofInt 64 (s.fdiv (2 ^ min (r.I (0 + j) 0).toNat 64)) &&& BitVec.ofInt 64 1).toNat : Int) == 1) (K .ret S20r)
        (br (decide (r.I (0 + j) 0 < 0)) none (R (S20 n (IntKind.i64.wrap ((BitVec.ofInt 64 s ||| BitVec.ofInt 64 (IntKind.i64.wrap (1 * 2 ^ min (r.I (0 + j) 0).toNat 64))).toNat : Int)) len l (IntKind.i64.wrap (j + 1)) r)))))) none) none) (K (.exit 0) S20x) := by kernel_rfl

theorem loop20 : LoopOk C20 l20 := ⟨by kernel_rfl, fun d its k rr h => by
  show rounds [0, 5, 26, 27, 28] (some [4]) (evCode C20 37 true (inl C20 (d + 4)) (lbody C20.P 37 5)) 18446744073709551616 (Go.Ev.bst l20.p its) k = some rr
  change G20 its k = some rr at h
  unfold G20 at h
  split at h
  · rename_i n len l r
    rcases br_some h with ⟨h1, h2⟩ | ⟨_, h2⟩
    · simp only [Bool.and_eq_true, decide_eq_true_eq] at h1
      obtain ⟨⟨rfl, h1⟩, hn⟩ := h1
      rw [← h2]
      have good : ∀ i, badE n r i = false → 0 ≤ r.I i 0 ∧ r.I i 0 < 10 := by
        intro i hi
        simp only [badE, isB, Bool.or_eq_false_iff, Bool.not_eq_false', Bool.and_eq_true, decide_eq_true_eq] at hi
        omega
      exact rounds_scanI (S := fun j => S20 n (seen r j : Nat) len len j r) (len := len) (bad := badE n r) (Kb := fun K => K .ret S20r) (Ke := fun K => K (.exit 0) S20x)
        (fun j hj hp R K => by
          rw [round20, wrap64 (n := (j : Int) + 1) (by omega) (by omega), show decide ((j : Int) < (len : Int)) = true by simpa using hj, show (decide (0 ≤ (j : Int))) = true by simp, Nat.zero_add]
          simp only [Bool.and_true, br_true]
          cases hb : isB n (r.I j 0)
          · simp only [badE, hb, Bool.not_false, Bool.true_or, br_true]
          · have hr : 0 ≤ r.I j 0 ∧ r.I j 0 < 10 := by
              simp only [isB, Bool.and_eq_true, decide_eq_true_eq] at hb
              omega
            have hs := seen_lt (r := r) (j := j) fun i hi => (good i (hp i hi)).2
            have hbit := seen_bit (r := r) (p := r.I j 0) hr.1 (j := j) fun i hi => (good i (hp i hi)).1
            have hp10 : (r.I j 0).toNat < 10 := by omega
            rw [show decide (r.I j 0 < 0) = false by simp; omega, shr64 _ _ (by omega)]
            have h1s : 1 <<< (r.I j 0).toNat < 2 ^ 63 := by
              rw [Nat.shiftLeft_eq, Nat.one_mul]
              exact Nat.pow_lt_pow_right (by decide) (by omega)
            have e1 := shl64 1 (r.I j 0).toNat (by omega) h1s
            have e2 := and64 (seen r j >>> (r.I j 0).toNat) 1 (Nat.lt_of_le_of_lt (Nat.shiftRight_le _ _) (Nat.lt_trans hs (by decide))) (by decide)
            rw [show ((1 : Nat) : Int) = 1 from rfl] at e1 e2
            rw [e1, e2, or64 _ _ (Nat.lt_trans hs (by decide)) h1s]
            have e3 : ((((seen r j >>> (r.I j 0).toNat &&& 1 : Nat) : Int)) == 1) = dup r j := by
              rw [dup, ← hbit, Nat.testBit, Nat.and_comm]
              have : 1 &&& seen r j >>> (r.I j 0).toNat < 2 := by rw [Nat.and_comm]; exact Nat.and_lt_two_pow (n := 1) _ (by decide)
              rw [Bool.eq_iff_iff]
              simp only [beq_iff_eq, bne_iff_ne]
              omega
            rw [e3]
            simp only [badE, hb, Bool.not_true, Bool.false_or, br_false]
            rfl)
        (fun _ R K => by
          rw [round20, show decide ((len : Int) < (len : Int)) = false by simp]
          rfl) k len 0 (by omega) (fun i hi => by omega) _ (by omega)
    · cases h2
  · cases h⟩

theorem C20_ok : CxOk C20 := mkCx_ok enter mixed (fun p h => by
  simp only [List.mem_singleton] at h
  subst h
  exact den16) (fun l h => by
  simp only [List.mem_singleton] at h
  subst h
  exact loop20)

theorem t20 (n b c : Int) (r : Row) : evF C20 6 37 [.v (i64 n), ex b c r] =
    br true (br (!isB n b) (some [.v (.bool false)]) (br (decide (c ≥ 1)) (br (!decide (c ≤ 1000000000)) (some [.v (.bool false)]) (br ((r.n : Int) == 0) (some [.v (.bool false)])
      (br (decide ((r.n : Int) = (r.n : Int)) && decide (r.n ≤ 1000) && decide (n ≤ 10)) (br (anyF (badE n r) r.n 0) (some [.v (.bool false)]) (some [.v (.bool true)])) none))) (some [.v (.bool false)]))) none := by kernel_rfl

theorem den20 : Den Tryd.prog 37 F20 := evF_den C20_ok fun ds rs h => by
  unfold F20 at h
  split at h
  · rename_i n b c r
    simp only [Option.some.injEq, Prod.mk.injEq, Bool.and_eq_true, decide_eq_true_eq, partiesB] at h
    obtain ⟨⟨⟨_, h1⟩, h2⟩, rfl⟩ := h
    refine (t20 n b c r).trans ?_
    rw [show (decide ((r.n : Int) = (r.n : Int)) && decide (r.n ≤ 1000) && decide (n ≤ 10)) = true by simp; omega]
    have e : ((r.n : Int) == 0) = !decide ((r.n : Int) ≥ 1) := by rw [Bool.eq_iff_iff]; simp only [beq_iff_eq, Bool.not_eq_true', decide_eq_false_iff_not]; omega
    rw [e]
    unfold expB
    cases isB n b <;> cases decide (c ≥ 1) <;> cases decide (c ≤ 1000000000) <;> cases decide ((r.n : Int) ≥ 1) <;> cases anyF (badE n r) r.n 0 <;> rfl
  · cases h
end Go.Proofs.YtpblmkephkhlkaaDoor.Lg
namespace Go.Proofs.YtpblmkephkhlkaaDoor.Lg
open Go.Ev
set_option linter.all false

def mem21 (b c : Int) (len : Nat) (r : Row) : List (Option Blk) := [some (.box [i64 b, i64 c, .slice (some ⟨1, 0, some 0⟩) len 0]), some (.row [.int .i64] false r)]
def S21 (n b c : Int) (len : Nat) (i : Int) (r : Row) : St := { τ := [i64 n] ++ us 2 ++ [.pointer (some ⟨0, 0, some 0⟩)] ++ us 1 ++ [i64 i] ++ us 60, saved := [[]], mem := mem21 b c len r }
def S21r : St := { τ := us 4 ++ [.bool false] ++ us 61, saved := [[]], mem := [] }
def S21x : St := { τ := us 66, saved := [[]], mem := [] }
def T21 (n b c : Int) (len : Nat) (i k : Int) (r : Row) : St := { τ := [i64 n] ++ us 2 ++ [.pointer (some ⟨0, 0, some 0⟩)] ++ us 1 ++ [i64 i, i64 k] ++ us 59, saved := [[]], mem := mem21 b c len r }
def T21r (n b c : Int) (len : Nat) (i : Int) (r : Row) : St := { τ := [i64 n] ++ us 2 ++ [.pointer (some ⟨0, 0, some 0⟩), .bool false, i64 i] ++ us 60, saved := [[]], mem := mem21 b c len r }
def G21i : List It → (X → St → Option (List D)) → Option (List D)
  | [.i n, .i i, .i b, .i c, .n len, .r r], k => br (decide (0 ≤ i) && decide (i < (len : Int)) && decide (len ≤ 1000)) (br (anyF (fun k => r.I k 0 == r.I (0 + i.toNat) 0) i.toNat 0) (k .ret (T21r n b c len i r)) (k (.exit 2) (S21 n b c len i r))) none
  | _, _ => none
def G21 : List It → (X → St → Option (List D)) → Option (List D)
  | [.i n, .i _, .i _, .n len, .r r], k => br (decide (len ≤ 1000)) (br (anyF (badE n r) len 0) (k .ret S21r) (k (.exit 0) S21x)) none
  | _, _ => none
def pm21 : List PB := [.box [.v (.int .i64), .v (.int .i64), .v (.sl 1)], .row [.int .i64] false]
def l21i : LoopC where
  f := 25
  id := 9
  lv := [0, 3, 5, 6]
  lx := [0, 3, 4, 5]
  p := { τ := [.v (.int .i64)] ++ pu 2 ++ [.v (.c (.pointer (some ⟨0, 0, some 0⟩)))] ++ pu 1 ++ [.v (.int .i64), .v (.c (i64 0))] ++ pu 59, saved := [[]], mem := pm21 }
  G := G21i
def l21 : LoopC where
  f := 25
  id := 4
  lv := [0, 3, 5]
  lx := [4]
  p := { τ := [.v (.int .i64)] ++ pu 2 ++ [.v (.c (.pointer (some ⟨0, 0, some 0⟩)))] ++ pu 1 ++ [.v (.c (i64 0))] ++ pu 60, saved := [[]], mem := pm21 }
  G := G21
noncomputable def C21 : Cx := mkCx Tryd.prog fns [(35, F19)] [l21, l21i]

theorem round21i (d : Nat) (R : St → Option (List D)) (K : X → St → Option (List D)) (n b c : Int) (len : Nat) (i : Int) (k : Nat) (r : Row) :
    evCode C21 25 true (inl C21 (d + 4)) (lbody C21.P 25 9) (T21 n b c len i k r) (rnd [0, 3, 5, 6] (some [0, 3, 4, 5]) R K) =
    br (decide ((k : Int) < i)) (br (decide (0 ≤ (k : Int)) && decide ((k : Int) < len)) (br (decide (0 ≤ i) && decide (i < len))
      (br (r.I (0 + k) 0 == r.I (0 + i.toNat) 0) (K .ret (T21r n b c len i r)) (R (T21 n b c len i (IntKind.i64.wrap (k + 1)) r))) none) none) (K (.exit 2) (S21 n b c len i r)) := by kernel_rfl

theorem round21 (d : Nat) (R : St → Option (List D)) (K : X → St → Option (List D)) (n b c : Int) (len : Nat) (i : Nat) (r : Row) :
    evCode C21 25 true (inl C21 (d + 4)) (lbody C21.P 25 4) (S21 n b c len i r) (rnd [0, 3, 5] (some [4]) R K) =
    br (decide ((i : Int) < len)) (br (decide (0 ≤ (i : Int)) && decide ((i : Int) < len)) (br true (br (!isB n (r.I (0 + i) 0)) (K .ret S21r)
      (br (decide (0 ≤ (i : Int)) && decide ((i : Int) < len) && decide (len ≤ 1000)) (br (anyF (fun k => r.I k 0 == r.I (0 + i) 0) i 0) (K .ret S21r) (R (S21 n b c len (IntKind.i64.wrap (i + 1)) r))) none)) none) none) (K (.exit 0) S21x) := by kernel_rfl

theorem loop21i : LoopOk C21 l21i := ⟨by kernel_rfl, fun d its k rr h => by
  show rounds [0, 3, 5, 6] (some [0, 3, 4, 5]) (evCode C21 25 true (inl C21 (d + 4)) (lbody C21.P 25 9)) 18446744073709551616 (Go.Ev.bst l21i.p its) k = some rr
  change G21i its k = some rr at h
  unfold G21i at h
  split at h
  · rename_i n i b c len r
    rcases br_some h with ⟨h1, h2⟩ | ⟨_, h2⟩
    · simp only [Bool.and_eq_true, decide_eq_true_eq] at h1
      obtain ⟨⟨h0, h1⟩, h3⟩ := h1
      rw [← h2]
      exact rounds_scan (S := fun k => T21 n b c len i k r) (len := i.toNat) (bad := fun k => r.I k 0 == r.I (0 + i.toNat) 0) (Kb := fun K => K .ret (T21r n b c len i r)) (Ke := fun K => K (.exit 2) (S21 n b c len i r))
        (fun j hj R K => by
          rw [round21i, wrap64 (by omega) (by omega), show decide ((j : Int) < i) = true by simp; omega, show (decide (0 ≤ (j : Int)) && decide ((j : Int) < len)) = true by simp; omega, show (decide (0 ≤ i) && decide (i < (len : Int))) = true by simp; omega]
          simp only [br_true, Nat.zero_add]
          rfl)
        (fun R K => by
          rw [round21i, show decide (((i.toNat : Nat) : Int) < i) = false by simp; omega]
          rfl) k i.toNat 0 (by omega) _ (by omega)
    · cases h2
  · cases h⟩

theorem loop21 : LoopOk C21 l21 := ⟨by kernel_rfl, fun d its k rr h => by
  show rounds [0, 3, 5] (some [4]) (evCode C21 25 true (inl C21 (d + 4)) (lbody C21.P 25 4)) 18446744073709551616 (Go.Ev.bst l21.p its) k = some rr
  change G21 its k = some rr at h
  unfold G21 at h
  split at h
  · rename_i n b c len r
    rcases br_some h with ⟨h1, h2⟩ | ⟨_, h2⟩
    · simp only [decide_eq_true_eq] at h1
      rw [← h2]
      exact rounds_scan (S := fun j => S21 n b c len j r) (len := len) (bad := badE n r) (Kb := fun K => K .ret S21r) (Ke := fun K => K (.exit 0) S21x)
        (fun j hj R K => by
          rw [round21, wrap64 (by omega) (by omega), show (decide (0 ≤ (j : Int)) && decide ((j : Int) < len) && decide (len ≤ 1000)) = true by simp; omega, show (decide (0 ≤ (j : Int)) && decide ((j : Int) < len)) = true by simp; omega, show decide ((j : Int) < (len : Int)) = true by simpa using hj, Nat.zero_add]
          simp only [br_true, badE, dup]
          cases isB n (r.I j 0) <;> cases anyF (fun k => r.I k 0 == r.I j 0) j 0 <;> rfl)
        (fun R K => by
          rw [round21, show decide ((len : Int) < (len : Int)) = false by simp]
          rfl) k len 0 (by omega) _ (by omega)
    · cases h2
  · cases h⟩

theorem C21_ok : CxOk C21 := mkCx_ok enter mixed (fun p h => by
  simp only [List.mem_singleton] at h
  subst h
  exact den19) (fun l h => by
  simp only [List.mem_cons, List.not_mem_nil, or_false] at h
  rcases h with rfl | rfl
  · exact loop21
  · exact loop21i)

theorem t21 (n b c : Int) (r : Row) : evF C21 6 25 [.v (i64 n), ex b c r] =
    br true (br (!isB n b) (some [.v (.bool false)]) (br (decide (c < 1)) (some [.v (.bool false)]) (br (decide (c > 1000000000)) (some [.v (.bool false)]) (br (decide ((r.n : Int) < 1)) (some [.v (.bool false)]) (br (decide ((r.n : Int) > n)) (some [.v (.bool false)])
      (br (decide (r.n ≤ 1000)) (br (anyF (badE n r) r.n 0) (some [.v (.bool false)]) (some [.v (.bool true)])) none)))))) none := by kernel_rfl

theorem nodup_len : ∀ (n : Nat) (l : List Nat), l.Nodup → (∀ x, x ∈ l → x < n) → l.length ≤ n
  | 0, l, _, h => by
    cases l with
    | nil => exact Nat.le_refl _
    | cons x l => have := h x (by simp); omega
  | n + 1, l, hn, h => by
    have := nodup_len n (l.erase n) (hn.erase n) fun x hx => by
      rw [hn.mem_erase_iff] at hx
      have := h x hx.2
      have := hx.1
      omega
    rw [List.length_erase] at this
    split at this <;> omega

/-- Numbers below n that all differ are not more than n. -/
theorem pigeon {n : Nat} {r : Row} : ∀ {m : Nat}, (∀ i, i < m → 0 ≤ r.I i 0 ∧ r.I i 0 < n) → (∀ i k, i < m → k < i → r.I k 0 ≠ r.I i 0) → m ≤ n := by
  intro m h1 h2
  have hnd : ((List.range m).map fun i => (r.I i 0).toNat).Nodup := by
    rw [List.nodup_iff_pairwise_ne, List.pairwise_map]
    refine List.Pairwise.imp_of_mem ?_ List.pairwise_lt_range
    intro a b ha hb hlt
    simp only [List.mem_range] at ha hb
    have := h2 b a hb hlt
    have := (h1 a ha).1
    have := (h1 b hb).1
    omega
  have := nodup_len n _ hnd fun x hx => by
    simp only [List.mem_map, List.mem_range] at hx
    obtain ⟨i, hi, rfl⟩ := hx
    have := h1 i hi
    omega
  simpa using this

theorem den21 : Den Tryd.prog 25 F20 := evF_den C21_ok fun ds rs h => by
  unfold F20 at h
  split at h
  · rename_i n b c r
    simp only [Option.some.injEq, Prod.mk.injEq, Bool.and_eq_true, decide_eq_true_eq, partiesB] at h
    obtain ⟨⟨⟨h0, h1⟩, h2⟩, rfl⟩ := h
    refine (t21 n b c r).trans ?_
    rw [show decide (r.n ≤ 1000) = true by simpa using h2]
    have e1 : decide (c < 1) = !decide (c ≥ 1) := by rw [Bool.eq_iff_iff]; simp only [Bool.not_eq_true', decide_eq_true_eq, decide_eq_false_iff_not]; omega
    have e2 : decide (c > 1000000000) = !decide (c ≤ 1000000000) := by rw [Bool.eq_iff_iff]; simp only [Bool.not_eq_true', decide_eq_true_eq, decide_eq_false_iff_not]; omega
    have e3 : decide ((r.n : Int) < 1) = !decide ((r.n : Int) ≥ 1) := by rw [Bool.eq_iff_iff]; simp only [Bool.not_eq_true', decide_eq_true_eq, decide_eq_false_iff_not]; omega
    have e4 : anyF (badE n r) r.n 0 = false → decide ((r.n : Int) > n) = false := by
      intro ha
      rw [anyF_false] at ha
      have := pigeon (n := n.toNat) (r := r) (m := r.n) (fun i hi => by
        have := ha i (by omega) (by omega)
        simp only [badE, isB, Bool.or_eq_false_iff, Bool.not_eq_false', Bool.and_eq_true, decide_eq_true_eq] at this
        omega) (fun i k hi hk => by
        have := ha i (by omega) (by omega)
        simp only [badE, dup, Bool.or_eq_false_iff, anyF_false] at this
        simpa using this.2 k (by omega) (by omega))
      simp
      omega
    rw [e1, e2, e3]
    unfold expB
    cases hA : anyF (badE n r) r.n 0
    · rw [e4 hA]
      cases isB n b <;> cases decide (c ≥ 1) <;> cases decide (c ≤ 1000000000) <;> cases decide ((r.n : Int) ≥ 1) <;> rfl
    · cases isB n b <;> cases decide (c ≥ 1) <;> cases decide (c ≤ 1000000000) <;> cases decide ((r.n : Int) ≥ 1) <;> cases decide ((r.n : Int) > n) <;> rfl
  · cases h
end Go.Proofs.YtpblmkephkhlkaaDoor.Lg
namespace Go.Proofs.YtpblmkephkhlkaaDoor.Lg
open Go.Ev
set_option linter.all false

/-- The share of the j-th of m. -/
def sh (c : Int) (m j : Nat) : Int := c / m + (if (j : Int) < c % m then 1 else 0)
/-- What is left before the j-th. -/
def lf (c : Int) (m j : Nat) : Int := c - (j * (c / m) + (if (j : Int) < c % m then (j : Int) else c % m))
def shStep (r : Row) (c : Int) (m j : Nat) (o : Row) : Row := o.setI (0 + (r.I (0 + j) 0).toNat) 0 (sh c m j)
def shs (r : Row) (c : Int) (m : Nat) : Nat → Nat → Row → Row
  | 0, _, o => o
  | q + 1, j, o => shs r c m q (j + 1) (shStep r c m j o)

theorem setI_self {o : Row} {e j : Nat} {x : Int} : (o.setI e j x).I e j = x := by simp [Row.setI, Row.I]
theorem setI_setI {o : Row} {e j : Nat} {x y : Int} : (o.setI e j x).setI e j y = o.setI e j y := by
  simp only [Row.setI, Row.I, Row.n, Row.B, Row.S, Row.R]
  congr 1
  funext e' j'
  cases (Nat.beq e' e && Nat.beq j' j) <;> rfl

theorem runL_shs {A : Type} {κ : Type} (n : Nat) (r : Row) (c : Int) (m : Nat) (E : Row → κ → Option A) (K : κ) : ∀ (q j : Nat) (o : Row), anyF (badE n r) q j = false →
    runL (fun j o R _ => br (inR n (r.I (0 + j) 0)) (R (shStep r c m j o)) none) E K q j o = E (shs r c m q j o) K
  | 0, _, _, _ => rfl
  | q + 1, j, o, h => by
    simp only [anyF, Bool.or_eq_false_iff] at h
    simp only [runL, shs]
    have : inR n (r.I (0 + j) 0) = true := by
      rw [Nat.zero_add]
      have := h.1
      simp only [badE, isB, Bool.or_eq_false_iff, Bool.not_eq_false', Bool.and_eq_true, decide_eq_true_eq] at this
      simp only [inR, Bool.and_eq_true, decide_eq_true_eq]
      omega
    rw [this]
    exact runL_shs n r c m E K q (j + 1) _ h.2

theorem div_facts {c : Int} {m j : Nat} (hc : 1 ≤ c) (hm : j < m) : 0 ≤ c / m ∧ c / m ≤ c ∧ 0 ≤ c % m ∧ c % m < m ∧ c = m * (c / m) + c % m ∧ (j : Int) * (c / m) ≤ m * (c / m) ∧ 0 ≤ (j : Int) * (c / m) := by
  have h1 : (0 : Int) < m := by omega
  have q0 : 0 ≤ c / m := Int.ediv_nonneg (by omega) (by omega)
  refine ⟨q0, Int.ediv_le_self _ (by omega), Int.emod_nonneg _ (by omega), Int.emod_lt_of_pos _ h1, (Int.mul_ediv_add_emod c m).symm, Int.mul_le_mul_of_nonneg_right (by omega) q0, Int.mul_nonneg (by omega) q0⟩

theorem lf_bounds {c : Int} {m j : Nat} (hc : 1 ≤ c) (hm : j < m) : 0 ≤ lf c m j ∧ lf c m j ≤ c := by
  obtain ⟨h1, h2, h3, h4, h5, h6, h7⟩ := div_facts hc hm
  unfold lf
  split <;> omega

theorem sh_bounds {c : Int} {m j : Nat} (hc : 1 ≤ c) (hm : j < m) : 0 ≤ sh c m j ∧ sh c m j ≤ c + 1 := by
  obtain ⟨h1, h2, h3, h4, h5, h6, h7⟩ := div_facts hc hm
  unfold sh
  split <;> omega

theorem sh_eq {c : Int} {m j : Nat} (hc : 1 ≤ c) (hm : j < m) : (lf c m j + ((m : Int) - j) - 1).tdiv ((m : Int) - j) = sh c m j := by
  obtain ⟨h1, h2, h3, h4, h5, h6, h7⟩ := div_facts hc hm
  obtain ⟨h8, h9⟩ := lf_bounds hc hm
  rw [Int.tdiv_eq_ediv_of_nonneg (by omega)]
  have hk : (0 : Int) < (m : Int) - j := by omega
  have e : lf c m j = ((m : Int) - j) * (c / m) + (if (j : Int) < c % m then c % m - j else 0) := by
    unfold lf
    rw [Int.sub_mul]
    split <;> omega
  rw [e]
  unfold sh
  split
  · rename_i h
    rw [show ((m : Int) - j) * (c / m) + (c % m - j) + ((m : Int) - j) - 1 = (c % m - j - 1) + ((m : Int) - j) * (c / m + 1) by rw [Int.mul_add]; omega, Int.add_mul_ediv_left _ _ (by omega), Int.ediv_eq_zero_of_lt (by omega) (by omega)]
    omega
  · rename_i h
    rw [show ((m : Int) - j) * (c / m) + 0 + ((m : Int) - j) - 1 = ((m : Int) - j - 1) + ((m : Int) - j) * (c / m) by omega, Int.add_mul_ediv_left _ _ (by omega), Int.ediv_eq_zero_of_lt (by omega) (by omega)]
    omega

theorem lf_step {c : Int} {m j : Nat} (hc : 1 ≤ c) (hm : j < m) : lf c m j - sh c m j = lf c m (j + 1) := by
  obtain ⟨h1, h2, h3, h4, h5, h6, h7⟩ := div_facts hc hm
  unfold lf sh
  rw [show (((j + 1 : Nat) : Int)) * (c / m) = j * (c / m) + c / m by rw [show ((j + 1 : Nat) : Int) = (j : Int) + 1 by omega, Int.add_mul]; omega]
  split <;> split <;> omega

/-! ### ledger.Shares -/
def mem11 (b c : Int) (len : Nat) (r o : Row) : List (Option Blk) := [some (.box [i64 b, i64 c, .slice (some ⟨2, 0, some 0⟩) len 0]), some (.row [.int .i64] true o), some (.row [.int .i64] false r)]
def pm11 : List PB := [.box [.v (.int .i64), .v (.int .i64), .v (.sl 2)], .row [.int .i64] true, .row [.int .i64] false]
def S11 (n len : Nat) (b c left l j : Int) (r o : Row) : St := { τ := us 3 ++ [.pointer (some ⟨0, 0, some 0⟩)] ++ us 3 ++ [.slice (some ⟨1, 0, some 0⟩) n 0, i64 left] ++ us 17 ++ [.slice (some ⟨2, 0, some 0⟩) len 0, i64 l, i64 j] ++ us 26, saved := [[]], mem := mem11 b c len r o }
def S11x (n : Nat) (o : Row) : St := { τ := us 7 ++ [.slice (some ⟨0, 0, some 0⟩) n 0] ++ us 47, saved := [[]], mem := [some (.row [.int .i64] true o)] }
def good11 (n len : Nat) (c : Int) (r : Row) : Bool := decide (len ≤ 1000) && decide (c ≥ 1) && decide (c ≤ 1000000000) && !anyF (badE (n : Int) r) len 0
def G11 : List It → (X → St → Option (List D)) → Option (List D)
  | [.n n, .i left, .n len, .i l, .i _, .i c, .n len2, .r o, .r r], k => br (decide (left = c) && decide (l = (len : Int)) && decide ((len : Int) = (len2 : Int)) && good11 n len c r) (k (.exit 0) (S11x n (shs r c len len 0 o))) none
  | _, _ => none
def l11 : LoopC where
  f := 24
  id := 9
  lv := [3, 7, 8, 26, 27, 28]
  lx := [4, 5, 7]
  p := { τ := pu 3 ++ [.v (.c (.pointer (some ⟨0, 0, some 0⟩)))] ++ pu 3 ++ [.v (.sl 1), .v (.int .i64)] ++ pu 17 ++ [.v (.sl 2), .v (.int .i64), .v (.c (i64 0))] ++ pu 26, saved := [[]], mem := pm11 }
  G := G11
noncomputable def C11 : Cx := mkCx Tryd.prog fns [(37, F20)] [l11]

theorem round11 (d : Nat) (R : St → Option (List D)) (K : X → St → Option (List D)) (n len : Nat) (b c left l : Int) (j : Nat) (r o : Row) :
    evCode C11 24 true (inl C11 (d + 4)) (lbody C11.P 24 9) (S11 n len b c left l j r o) (rnd [3, 7, 8, 26, 27, 28] (some [4, 5, 7]) R K) =
    br (decide ((j : Int) < l)) (br (decide (0 ≤ (j : Int)) && decide ((j : Int) < len)) (br (decide (IntKind.i64.wrap (len - j) = 0)) none (br (inR n (r.I (0 + j) 0)) (br (inR n (r.I (0 + j) 0))
      (R (S11 n len b c (IntKind.i64.wrap (left - (o.setI (0 + (r.I (0 + j) 0).toNat) 0 (IntKind.i64.wrap ((IntKind.i64.wrap (IntKind.i64.wrap (left + IntKind.i64.wrap (len - j)) - 1)).tdiv (IntKind.i64.wrap (len - j))))).I (0 + (r.I (0 + j) 0).toNat) 0))
        l (IntKind.i64.wrap (j + 1)) r (o.setI (0 + (r.I (0 + j) 0).toNat) 0 (IntKind.i64.wrap ((IntKind.i64.wrap (IntKind.i64.wrap (left + IntKind.i64.wrap (len - j)) - 1)).tdiv (IntKind.i64.wrap (len - j))))))) none) none)) none) (K (.exit 0) (S11x n o)) := by kernel_rfl

theorem loop11 : LoopOk C11 l11 := ⟨by kernel_rfl, fun d its k rr h => by
  show rounds [3, 7, 8, 26, 27, 28] (some [4, 5, 7]) (evCode C11 24 true (inl C11 (d + 4)) (lbody C11.P 24 9)) 18446744073709551616 (Go.Ev.bst l11.p its) k = some rr
  change G11 its k = some rr at h
  unfold G11 at h
  split at h
  · rename_i n left len l b c len2 o r
    rcases br_some h with ⟨h1, h2⟩ | ⟨_, h2⟩
    · simp only [good11, Bool.and_eq_true, decide_eq_true_eq, Bool.not_eq_true'] at h1
      obtain ⟨⟨⟨rfl, rfl⟩, h3⟩, ⟨⟨h4, h5⟩, h6⟩, hb⟩ := h1
      obtain rfl : len = len2 := by omega
      rw [← h2]
      have key := rounds_run (lv := [3, 7, 8, 26, 27, 28]) (lx := some [4, 5, 7]) (f := evCode C11 24 true (inl C11 (d + 4)) (lbody C11.P 24 9)) (S := fun j o => S11 n len b left (lf left len j) len j r o) (len := len)
        (T := fun j o R _ => br (inR n (r.I (0 + j) 0)) (R (shStep r left len j o)) none) (E := fun o K => K (.exit 0) (S11x n o))
        (fun j hj o R K => by
          obtain ⟨b1, b2⟩ := lf_bounds h5 hj
          obtain ⟨b3, b4⟩ := sh_bounds h5 hj
          rw [round11, wrap64 (n := (j : Int) + 1) (by omega) (by omega), wrap64 (n := (len : Int) - j) (by omega) (by omega), wrap64 (n := lf left len j + ((len : Int) - j)) (by omega) (by omega), wrap64 (n := lf left len j + ((len : Int) - j) - 1) (by omega) (by omega),
            sh_eq h5 hj, wrap64 (n := sh left len j) (by omega) (by omega), setI_self, lf_step h5 hj]
          have b5 := lf_step h5 hj
          rw [wrap64 (n := lf left len (j + 1)) (by omega) (by omega), show decide ((len : Int) - j = 0) = false by simp; omega, show (decide (0 ≤ (j : Int)) && decide ((j : Int) < len)) = true by simp; omega, show decide ((j : Int) < (len : Int)) = true by simpa using hj]
          cases inR n (r.I (0 + j) 0) <;> rfl)
        (fun o R K => by
          rw [round11, show decide ((len : Int) < (len : Int)) = false by simp]
          rfl) (fun j o R R' K hR => by simp only [hR]) k len 0 o (by omega) 18446744073709551616 (by omega)
      rw [runL_shs n r left len _ k len 0 o hb] at key
      have e0 : lf left len 0 = left := by
        unfold lf
        have : 0 ≤ left % len := by
          cases len with
          | zero => simp; omega
          | succ q => exact Int.emod_nonneg _ (by omega)
        split <;> simp <;> omega
      have e1 : S11 n len b left (lf left len 0) len (0 : Nat) r o = Go.Ev.bst l11.p [.n n, .i left, .n len, .i len, .i b, .i left, .n len, .r o, .r r] := by rw [e0]; rfl
      rw [e1] at key
      exact key
    · cases h2
  · cases h⟩

theorem C11_ok : CxOk C11 := mkCx_ok enter mixed (fun p h => by
  simp only [List.mem_singleton] at h
  subst h
  exact den20) (fun l h => by
  simp only [List.mem_singleton] at h
  subst h
  exact loop11)

/-- The error, and the shares. -/
def shE (n b c : Int) (r : Row) : Int := bif partiesB n then (bif expB n b c r then 0 else 8) else 2
def shR (n b c : Int) (r : Row) : Row := bif shE n b c r != 0 then .nil else winOf (shs r c r.n r.n 0 (.zeros n.toNat)) 0 n.toNat
def F11 : List D → Option (Bool × List D)
  | [.v (.int .i64 n), .agg [.v (.int .i64 b), .v (.int .i64 c), .slice [.int .i64] r]] => some (decide (r.n ≤ 1000), [.slice [.int .i64] (shR n b c r), .v (i64 (shE n b c r))])
  | _ => none
theorem t11 (n b c : Int) (r : Row) : evF C11 6 24 [.v (i64 n), ex b c r] =
    br (decide (n < 1)) (some [.slice [.int .i64] .nil, .v (i64 2)]) (br (decide (n > 10)) (some [.slice [.int .i64] .nil, .v (i64 2)]) (br (partiesB n && decide (r.n ≤ 1000)) (br (!expB n b c r) (some [.slice [.int .i64] .nil, .v (i64 8)])
      (br (decide (0 ≤ n) && decide (n ≤ n) && decide (n ≤ 100000000000)) (br (decide (c = c) && decide ((r.n : Int) = (r.n : Int)) && decide ((r.n : Int) = (r.n : Int)) && good11 n.toNat r.n c r)
        (some [.slice [.int .i64] (winOf (shs r c r.n r.n 0 (.zeros n.toNat)) 0 n.toNat), .v (i64 0)]) none) none)) none)) := by kernel_rfl

theorem exp_good {n b c : Int} {r : Row} (hp : partiesB n = true) (h : expB n b c r = true) (hr : r.n ≤ 1000) : good11 n.toNat r.n c r = true ∧ (decide (0 ≤ n) && decide (n ≤ n) && decide (n ≤ 100000000000)) = true ∧ 1 ≤ n ∧ n ≤ 10 := by
  simp only [partiesB, Bool.and_eq_true, decide_eq_true_eq] at hp
  simp only [expB, Bool.and_eq_true, decide_eq_true_eq, Bool.not_eq_true'] at h
  obtain ⟨⟨⟨⟨h1, h2⟩, h3⟩, h4⟩, h5⟩ := h
  refine ⟨?_, by simp; omega, hp⟩
  simp only [good11, Bool.and_eq_true, decide_eq_true_eq, Bool.not_eq_true']
  rw [show ((n.toNat : Nat) : Int) = n by omega]
  exact ⟨⟨⟨hr, h2⟩, h3⟩, h5⟩

theorem den11 : Den Tryd.prog 24 F11 := evF_den C11_ok fun ds rs h => by
  unfold F11 at h
  split at h
  · rename_i n b c r
    simp only [Option.some.injEq, Prod.mk.injEq, decide_eq_true_eq] at h
    obtain ⟨hr, rfl⟩ := h
    refine (t11 n b c r).trans ?_
    have e1 : decide (n < 1) = !decide (n ≥ 1) := by rw [Bool.eq_iff_iff]; simp only [Bool.not_eq_true', decide_eq_true_eq, decide_eq_false_iff_not]; omega
    have e2 : decide (n > 10) = !decide (n ≤ 10) := by rw [Bool.eq_iff_iff]; simp only [Bool.not_eq_true', decide_eq_true_eq, decide_eq_false_iff_not]; omega
    rw [e1, e2]
    cases hp : partiesB n
    · have e3 : shE n b c r = 2 := by simp [shE, hp]
      unfold shR
      rw [e3]
      unfold partiesB at hp
      cases h1 : decide (n ≥ 1)
      · rfl
      · cases h2 : decide (n ≤ 10)
        · rfl
        · simp [h1, h2] at hp
    · have hp' := hp
      unfold partiesB at hp'
      simp only [Bool.and_eq_true] at hp'
      rw [hp'.1, hp'.2, show decide (r.n ≤ 1000) = true by simpa using hr]
      cases he : expB n b c r
      · have e3 : shE n b c r = 8 := by simp [shE, hp, he]
        unfold shR
        rw [e3]
        rfl
      · have e3 : shE n b c r = 0 := by simp [shE, hp, he]
        obtain ⟨g1, g2, _⟩ := exp_good hp he hr
        unfold shR
        rw [e3, g1, g2, show (decide (c = c) && decide ((r.n : Int) = (r.n : Int)) && decide ((r.n : Int) = (r.n : Int)) && true) = true by simp]
        rfl
  · cases h
end Go.Proofs.YtpblmkephkhlkaaDoor.Lg
namespace Go.Proofs.YtpblmkephkhlkaaDoor.Lg
open Go.Ev
set_option linter.all false

/-- The row that is handed to a callee. -/
def wr (r : Row) : Row := winOf r 0 r.n
def ksE : List CK := [.int .i64, .int .i64, .slice [.int .i64]]
def sE (n : Int) (r : Row) (j : Nat) : Int := shE n (r.I (0 + j) 0) (r.I (0 + j) 1) (wr (r.R (0 + j) 2))
def sR (n : Int) (r : Row) (j : Nat) : Row := shR n (r.I (0 + j) 0) (r.I (0 + j) 1) (wr (r.R (0 + j) 2))
def add1 (s : Row) (k : Nat) (o : Row) : Row := o.setI (0 + k) 0 (IntKind.i64.wrap (o.I (0 + k) 0 + s.I (0 + k) 0))
def adds (s : Row) : Nat → Nat → Row → Row
  | 0, _, o => o
  | q + 1, k, o => adds s q (k + 1) (add1 s k o)
def less (b c : Int) (o : Row) : Row := o.setI (0 + b.toNat) 0 (IntKind.i64.wrap (o.I (0 + b.toNat) 0 - c))
def owStep (n : Int) (r : Row) (j : Nat) (o : Row) : Row := less (r.I (0 + j) 0) (r.I (0 + j) 1) (adds (sR n r j) n.toNat 0 o)
def ows (n : Int) (r : Row) : Nat → Nat → Row → Row
  | 0, _, o => o
  | m + 1, j, o => ows n r m (j + 1) (owStep n r j o)
def fstE (n : Int) (r : Row) : Nat → Nat → Int
  | 0, _ => 0
  | m + 1, j => bif sE n r j != 0 then sE n r j else fstE n r m (j + 1)
def fstO (n : Int) (r : Row) : Nat → Nat → Row → Row
  | 0, _, o => o
  | m + 1, j, o => bif sE n r j != 0 then o else fstO n r m (j + 1) (owStep n r j o)
def wide (r : Row) (j : Nat) : Bool := decide ((r.R (0 + j) 2).n > 1000)
def failE (n : Int) (r : Row) (j : Nat) : Bool := sE n r j != 0

theorem runL_ows {A : Type} {κ : Type} (n : Int) (r : Row) (B : Int → Row → κ → Option A) (E : Row → κ → Option A) (K : κ) : ∀ (m j : Nat) (o : Row),
    runL (fun j o R K => br (failE n r j) (B (sE n r j) o K) (R (owStep n r j o))) E K m j o = br (anyF (failE n r) m j) (B (fstE n r m j) (fstO n r m j o) K) (E (ows n r m j o) K)
  | 0, _, _ => rfl
  | m + 1, j, o => by
    simp only [runL, anyF, fstE, fstO, ows]
    rw [runL_ows n r B E K m (j + 1)]
    unfold failE
    cases sE n r j != 0 <;> rfl

/-- A share that is no error: who paid is a party, and there is a share for each one. -/
theorem sE_zero {n : Int} {r : Row} {j : Nat} (h : failE n r j = false) : inR n.toNat (r.I (0 + j) 0) = true ∧ (sR n r j).n = n.toNat ∧ 1 ≤ n ∧ n ≤ 10 := by
  have h0 : sE n r j = 0 := by simpa [failE] using h
  have hs : shE n (r.I (0 + j) 0) (r.I (0 + j) 1) (wr (r.R (0 + j) 2)) = 0 := h0
  unfold sR shR
  rw [hs]
  unfold shE at hs
  cases hp : partiesB n
  · rw [hp] at hs; exact absurd (show (2 : Int) = 0 from hs) (by decide)
  · cases he : expB n (r.I (0 + j) 0) (r.I (0 + j) 1) (wr (r.R (0 + j) 2))
    · rw [hp, he] at hs; exact absurd (show (8 : Int) = 0 from hs) (by decide)
    · simp only [partiesB, Bool.and_eq_true, decide_eq_true_eq] at hp
      simp only [expB, isB, Bool.and_eq_true, decide_eq_true_eq] at he
      refine ⟨?_, rfl, hp⟩
      simp only [inR, Bool.and_eq_true, decide_eq_true_eq]
      omega

/-! ### ledger.Owed -/
def S13 (n : Int) (nn len : Nat) (l j : Int) (r o : Row) : St := { τ := [i64 n] ++ us 6 ++ [.slice (some ⟨0, 0, some 0⟩) nn 0] ++ us 16 ++ [.slice (some ⟨1, 0, some 0⟩) len 0, i64 l, i64 j] ++ us 38, saved := [[]], mem := [some (.row [.int .i64] true o), some (.row ksE false r)] }
def S13r (e : Int) (nn : Nat) (o : Row) : St := { τ := us 4 ++ [.slice none 0 0, i64 e] ++ us 1 ++ [.slice (some ⟨0, 0, some 0⟩) nn 0] ++ us 57, saved := [[]], mem := [some (.row [.int .i64] true o)] }
def S13x (nn : Nat) (o : Row) : St := { τ := us 7 ++ [.slice (some ⟨0, 0, some 0⟩) nn 0] ++ us 57, saved := [[]], mem := [some (.row [.int .i64] true o)] }
def T13 (n : Int) (nn len : Nat) (l j : Int) (m : Nat) (l2 k : Int) (b c : Int) (q : Nat) (r o s t : Row) : St :=
  { τ := [i64 n] ++ us 6 ++ [.slice (some ⟨0, 0, some 0⟩) nn 0] ++ us 1 ++ [.pointer (some ⟨1, 0, some 0⟩)] ++ us 14 ++ [.slice (some ⟨2, 0, some 0⟩) len 0, i64 l, i64 j] ++ us 12 ++ [.slice (some ⟨3, 0, some 0⟩) m 0, i64 l2, i64 k] ++ us 23, saved := [[]],
    mem := [some (.row [.int .i64] true o), some (.box [i64 b, i64 c, .slice (some ⟨4, 0, some 0⟩) q 0]), some (.row ksE false r), some (.row [.int .i64] true s), some (.row [.int .i64] false t)] }
def T13x (n : Int) (nn len : Nat) (l j : Int) (b c : Int) (q : Nat) (r o t : Row) : St :=
  { τ := [i64 n] ++ us 6 ++ [.slice (some ⟨0, 0, some 0⟩) nn 0] ++ us 1 ++ [.pointer (some ⟨1, 0, some 0⟩)] ++ us 14 ++ [.slice (some ⟨2, 0, some 0⟩) len 0, i64 l, i64 j] ++ us 38, saved := [[]],
    mem := [some (.row [.int .i64] true o), some (.box [i64 b, i64 c, .slice (some ⟨3, 0, some 0⟩) q 0]), some (.row ksE false r), some (.row [.int .i64] false t)] }
def G13i : List It → (X → St → Option (List D)) → Option (List D)
  | [.i n, .n nn, .n len, .i l, .i j, .n m, .i l2, .r o, .i b, .i c, .n q, .r r, .r s, .r t], k => br (decide (l2 = (m : Int)) && decide (m ≤ nn) && decide (m ≤ 1000)) (k (.exit 2) (T13x n nn len l j b c q r (adds s m 0 o) t)) none
  | _, _ => none
def G13 : List It → (X → St → Option (List D)) → Option (List D)
  | [.i n, .n nn, .n len, .i l, .r o, .r r], k => br (decide (l = (len : Int)) && decide (len ≤ 1000) && decide (nn = n.toNat) && !anyF (wide r) len 0) (br (anyF (failE n r) len 0) (k .ret (S13r (fstE n r len 0) nn (fstO n r len 0 o))) (k (.exit 0) (S13x nn (ows n r len 0 o)))) none
  | _, _ => none
def l13i : LoopC where
  f := 23
  id := 14
  lv := [0, 7, 9, 24, 25, 26, 39, 40, 41]
  lx := [0, 4, 5, 7, 9, 24, 25, 26]
  p := { τ := [.v (.int .i64)] ++ pu 6 ++ [.v (.sl 0)] ++ pu 1 ++ [.v (.c (.pointer (some ⟨1, 0, some 0⟩)))] ++ pu 14 ++ [.v (.sl 2), .v (.int .i64), .v (.int .i64)] ++ pu 12 ++ [.v (.sl 3), .v (.int .i64), .v (.c (i64 0))] ++ pu 23, saved := [[]],
         mem := [.row [.int .i64] true, .box [.v (.int .i64), .v (.int .i64), .v (.sl 4)], .row ksE false, .row [.int .i64] true, .row [.int .i64] false] }
  G := G13i
def l13 : LoopC where
  f := 23
  id := 8
  lv := [0, 7, 24, 25, 26]
  lx := [4, 5, 7]
  p := { τ := [.v (.int .i64)] ++ pu 6 ++ [.v (.sl 0)] ++ pu 16 ++ [.v (.sl 1), .v (.int .i64), .v (.c (i64 0))] ++ pu 38, saved := [[]], mem := [.row [.int .i64] true, .row ksE false] }
  G := G13
noncomputable def C13 : Cx := mkCx Tryd.prog fns [(24, F11)] [l13, l13i]

theorem round13i (d : Nat) (R : St → Option (List D)) (K : X → St → Option (List D)) (n : Int) (nn len : Nat) (l j : Int) (m : Nat) (l2 : Int) (k : Nat) (b c : Int) (q : Nat) (r o s t : Row) :
    evCode C13 23 true (inl C13 (d + 4)) (lbody C13.P 23 14) (T13 n nn len l j m l2 k b c q r o s t) (rnd [0, 7, 9, 24, 25, 26, 39, 40, 41] (some [0, 4, 5, 7, 9, 24, 25, 26]) R K) =
    br (decide ((k : Int) < l2)) (br (decide (0 ≤ (k : Int)) && decide ((k : Int) < m)) (br (decide (0 ≤ (k : Int)) && decide ((k : Int) < nn)) (br (decide (0 ≤ (k : Int)) && decide ((k : Int) < nn))
      (R (T13 n nn len l j m l2 (IntKind.i64.wrap (k + 1)) b c q r (add1 s k o) s t)) none) none) none) (K (.exit 2) (T13x n nn len l j b c q r o t)) := by kernel_rfl

theorem loop13i : LoopOk C13 l13i := ⟨by kernel_rfl, fun d its k rr h => by
  show rounds [0, 7, 9, 24, 25, 26, 39, 40, 41] (some [0, 4, 5, 7, 9, 24, 25, 26]) (evCode C13 23 true (inl C13 (d + 4)) (lbody C13.P 23 14)) 18446744073709551616 (Go.Ev.bst l13i.p its) k = some rr
  change G13i its k = some rr at h
  unfold G13i at h
  split at h
  · rename_i n nn len l j m l2 o b c q r s t
    rcases br_some h with ⟨h1, h2⟩ | ⟨_, h2⟩
    · simp only [Bool.and_eq_true, decide_eq_true_eq] at h1
      obtain ⟨⟨rfl, h3⟩, h4⟩ := h1
      rw [← h2]
      have key := rounds_run (lv := [0, 7, 9, 24, 25, 26, 39, 40, 41]) (lx := some [0, 4, 5, 7, 9, 24, 25, 26]) (f := evCode C13 23 true (inl C13 (d + 4)) (lbody C13.P 23 14)) (S := fun k o => T13 n nn len l j m m k b c q r o s t) (len := m)
        (T := fun k o R _ => R (add1 s k o)) (E := fun o K => K (.exit 2) (T13x n nn len l j b c q r o t))
        (fun k hk o R K => by
          rw [round13i, wrap64 (by omega) (by omega), show (decide (0 ≤ (k : Int)) && decide ((k : Int) < m)) = true by simp; omega, show (decide (0 ≤ (k : Int)) && decide ((k : Int) < nn)) = true by simp; omega, show decide ((k : Int) < (m : Int)) = true by simpa using hk]
          rfl)
        (fun o R K => by
          rw [round13i, show decide ((m : Int) < (m : Int)) = false by simp]
          rfl) (fun j o R R' K hR => by simp only [hR]) k m 0 o (by omega) 18446744073709551616 (by omega)
      have e : ∀ (w v : Nat) (o : Row), runL (fun k o R _ => R (add1 s k o)) (fun o (K : X → St → Option (List D)) => K (.exit 2) (T13x n nn len l j b c q r o t)) k w v o = k (.exit 2) (T13x n nn len l j b c q r (adds s w v o) t) := by
        intro w
        induction w with
        | zero => intro v o; rfl
        | succ w ih => intro v o; simp only [runL, adds]; exact ih _ _
      rw [e] at key
      exact key
    · cases h2
  · cases h⟩

theorem round13 (d : Nat) (R : St → Option (List D)) (K : X → St → Option (List D)) (n : Int) (nn len : Nat) (l : Int) (j : Nat) (r o : Row) :
    evCode C13 23 true (inl C13 (d + 4)) (lbody C13.P 23 8) (S13 n nn len l j r o) (rnd [0, 7, 24, 25, 26] (some [4, 5, 7]) R K) =
    br (decide ((j : Int) < l)) (br (decide (0 ≤ (j : Int)) && decide ((j : Int) < len)) (br (decide ((wr (r.R (0 + j) 2)).n ≤ 1000)) (br (failE n r j) (K .ret (S13r (sE n r j) nn o))
      (br (decide (((sR n r j).n : Int) = ((sR n r j).n : Int)) && decide ((sR n r j).n ≤ nn) && decide ((sR n r j).n ≤ 1000)) (br (inR nn (r.I (0 + j) 0)) (br (inR nn (r.I (0 + j) 0))
        (R (S13 n nn len l (IntKind.i64.wrap (j + 1)) r (less (r.I (0 + j) 0) (r.I (0 + j) 1) (adds (sR n r j) (sR n r j).n 0 o)))) none) none) none)) none) none) (K (.exit 0) (S13x nn o)) := by kernel_rfl

theorem loop13 : LoopOk C13 l13 := ⟨by kernel_rfl, fun d its k rr h => by
  show rounds [0, 7, 24, 25, 26] (some [4, 5, 7]) (evCode C13 23 true (inl C13 (d + 4)) (lbody C13.P 23 8)) 18446744073709551616 (Go.Ev.bst l13.p its) k = some rr
  change G13 its k = some rr at h
  unfold G13 at h
  split at h
  · rename_i n nn len l o r
    rcases br_some h with ⟨h1, h2⟩ | ⟨_, h2⟩
    · simp only [Bool.and_eq_true, decide_eq_true_eq, Bool.not_eq_true'] at h1
      obtain ⟨⟨⟨rfl, h3⟩, rfl⟩, hw⟩ := h1
      rw [anyF_false] at hw
      rw [← h2]
      have key := rounds_run (lv := [0, 7, 24, 25, 26]) (lx := some [4, 5, 7]) (f := evCode C13 23 true (inl C13 (d + 4)) (lbody C13.P 23 8)) (S := fun j o => S13 n n.toNat len len j r o) (len := len)
        (T := fun j o R K => br (failE n r j) (K .ret (S13r (sE n r j) n.toNat o)) (R (owStep n r j o))) (E := fun o K => K (.exit 0) (S13x n.toNat o))
        (fun j hj o R K => by
          have hw1 : (wr (r.R (0 + j) 2)).n ≤ 1000 := by
            have := hw j (by omega) (by omega)
            simp only [wide, decide_eq_false_iff_not] at this
            show (r.R (0 + j) 2).n ≤ 1000
            omega
          rw [round13, wrap64 (by omega) (by omega), show (decide (0 ≤ (j : Int)) && decide ((j : Int) < len)) = true by simp; omega, show decide ((j : Int) < (len : Int)) = true by simpa using hj, decide_eq_true hw1]
          rw [br_true, br_true, br_true]
          cases hf : failE n r j
          · obtain ⟨g1, g2, g3, g4⟩ := sE_zero hf
            rw [g1, g2, show (decide (((n.toNat : Nat) : Int) = ((n.toNat : Nat) : Int)) && decide (n.toNat ≤ n.toNat) && decide (n.toNat ≤ 1000)) = true by simp; omega]
            rfl
          · rfl)
        (fun o R K => by
          rw [round13, show decide ((len : Int) < (len : Int)) = false by simp]
          rfl) (fun j o R R' K hR => by simp only [hR]) k len 0 o (by omega) 18446744073709551616 (by omega)
      rw [runL_ows n r (fun e o (K : X → St → Option (List D)) => K .ret (S13r e n.toNat o)) _ k len 0 o] at key
      exact key
    · cases h2
  · cases h⟩

theorem C13_ok : CxOk C13 := mkCx_ok enter mixed (fun p h => by
  simp only [List.mem_singleton] at h
  subst h
  exact den11) (fun l h => by
  simp only [List.mem_cons, List.not_mem_nil, or_false] at h
  rcases h with rfl | rfl
  · exact loop13
  · exact loop13i)

/-- The error of what is owed, and what is owed. -/
def owE (n : Int) (r : Row) : Int := bif partiesB n then (bif decide ((r.n : Int) > 200) then 4 else fstE n r r.n 0) else 2
def owR (n : Int) (r : Row) : Row := bif owE n r != 0 then .nil else winOf (ows n r r.n 0 (.zeros n.toNat)) 0 n.toNat
def F13 : List D → Option (Bool × List D)
  | [.v (.int .i64 n), .slice [.int .i64, .int .i64, .slice [.int .i64]] r] => some (!anyF (wide r) r.n 0, [.slice [.int .i64] (owR n r), .v (i64 (owE n r))])
  | _ => none

theorem t13 (n : Int) (r : Row) : evF C13 6 23 [.v (i64 n), .slice ksE r] =
    br (decide (n < 1)) (some [.slice [.int .i64] .nil, .v (i64 2)]) (br (decide (n > 10)) (some [.slice [.int .i64] .nil, .v (i64 2)]) (br (decide ((r.n : Int) > 200)) (some [.slice [.int .i64] .nil, .v (i64 4)])
      (br (decide (0 ≤ n) && decide (n ≤ n) && decide (n ≤ 100000000000)) (br (decide ((r.n : Int) = (r.n : Int)) && decide (r.n ≤ 1000) && decide (n.toNat = n.toNat) && !anyF (wide r) r.n 0)
        (br (anyF (failE n r) r.n 0) (some [.slice [.int .i64] .nil, .v (i64 (fstE n r r.n 0))]) (some [.slice [.int .i64] (winOf (ows n r r.n 0 (.zeros n.toNat)) 0 n.toNat), .v (i64 0)])) none) none))) := by kernel_rfl

theorem fstE_zero {n : Int} {r : Row} : ∀ {m j : Nat}, anyF (failE n r) m j = (fstE n r m j != 0)
  | 0, _ => rfl
  | m + 1, j => by
    simp only [anyF, fstE, fstE_zero (m := m)]
    unfold failE
    cases h : sE n r j != 0
    · rfl
    · simp only [Bool.true_or, cond_true, h]

theorem owed_tree (n : Int) (r : Row) (hw : anyF (wide r) r.n 0 = false) {A : Type} (g : Row → Int → Option A) :
    br (decide (n < 1)) (g .nil 2) (br (decide (n > 10)) (g .nil 2) (br (decide ((r.n : Int) > 200)) (g .nil 4)
      (br (decide (0 ≤ n) && decide (n ≤ n) && decide (n ≤ 100000000000)) (br (decide ((r.n : Int) = (r.n : Int)) && decide (r.n ≤ 1000) && decide (n.toNat = n.toNat) && !anyF (wide r) r.n 0)
        (br (anyF (failE n r) r.n 0) (g .nil (fstE n r r.n 0)) (g (winOf (ows n r r.n 0 (.zeros n.toNat)) 0 n.toNat) 0)) none) none))) = g (owR n r) (owE n r) := by
  have e1 : decide (n < 1) = !decide (n ≥ 1) := by rw [Bool.eq_iff_iff]; simp only [Bool.not_eq_true', decide_eq_true_eq, decide_eq_false_iff_not]; omega
  have e2 : decide (n > 10) = !decide (n ≤ 10) := by rw [Bool.eq_iff_iff]; simp only [Bool.not_eq_true', decide_eq_true_eq, decide_eq_false_iff_not]; omega
  rw [e1, e2, hw, fstE_zero]
  unfold owR
  cases h1 : decide (n ≥ 1)
  · have : owE n r = 2 := by simp [owE, partiesB, h1]
    rw [this]; rfl
  · cases h2 : decide (n ≤ 10)
    · have : owE n r = 2 := by simp [owE, partiesB, h2]
      rw [this]; rfl
    · cases h3 : decide ((r.n : Int) > 200)
      · have : owE n r = fstE n r r.n 0 := by simp [owE, partiesB, h1, h2, h3]
        rw [this]
        simp only [decide_eq_true_eq, decide_eq_false_iff_not] at h1 h2 h3
        rw [show (decide (0 ≤ n) && decide (n ≤ n) && decide (n ≤ 100000000000)) = true by simp; omega, show (decide ((r.n : Int) = (r.n : Int)) && decide (r.n ≤ 1000) && decide (n.toNat = n.toNat) && !false) = true by simp; omega]
        cases h4 : fstE n r r.n 0 != 0
        · have h5 : fstE n r r.n 0 = 0 := by simpa using h4
          rw [h5]
          rfl
        · rfl
      · have : owE n r = 4 := by simp [owE, partiesB, h1, h2, h3]
        rw [this]; rfl

theorem den13 : Den Tryd.prog 23 F13 := evF_den C13_ok fun ds rs h => by
  unfold F13 at h
  split at h
  · rename_i n r
    simp only [Option.some.injEq, Prod.mk.injEq, Bool.not_eq_true'] at h
    obtain ⟨hw, rfl⟩ := h
    exact (t13 n r).trans (owed_tree n r hw fun o e => some [D.slice [.int .i64] o, D.v (i64 e)])
  · cases h
end Go.Proofs.YtpblmkephkhlkaaDoor.Lg
namespace Go.Proofs.YtpblmkephkhlkaaDoor.Lg
open Go.Ev
set_option linter.all false
/-! ### GreatExpenses -/
def lng (r : Row) (j : Nat) : Bool := decide (((r.R (0 + j) 2).n : Int) > 20)
def F10 : List D → Option (Bool × List D)
  | [.slice [.int .i64, .int .i64, .slice [.int .i64]] r] => some (decide (r.n ≤ big), [.v (.bool (anyF (lng r) r.n 0 || decide ((r.n : Int) > 210)))])
  | _ => none
def S10 (len : Nat) (j : Int) (r : Row) : St := { τ := [.slice (some ⟨0, 0, some 0⟩) len 0] ++ us 2 ++ [i64 j] ++ us 16, saved := [[]], mem := [some (.row ksE false r)] }
def S10r (len : Nat) (r : Row) : St := { τ := [.slice (some ⟨0, 0, some 0⟩) len 0] ++ us 1 ++ [.bool true] ++ us 17, saved := [[]], mem := [some (.row ksE false r)] }
def S10x (len : Nat) (r : Row) : St := { τ := [.slice (some ⟨0, 0, some 0⟩) len 0] ++ us 19, saved := [[]], mem := [some (.row ksE false r)] }
def G10 : List It → (X → St → Option (List D)) → Option (List D)
  | [.n len, .r r], k => br (decide (len ≤ big)) (br (anyF (lng r) len 0) (k .ret (S10r len r)) (k (.exit 0) (S10x len r))) none
  | _, _ => none
def l10 : LoopC where
  f := 22
  id := 2
  lv := [0, 3]
  lx := [0, 2]
  p := { τ := [.v (.sl 0)] ++ pu 2 ++ [.v (.c (i64 0))] ++ pu 16, saved := [[]], mem := [.row ksE false] }
  G := G10
noncomputable def C10 : Cx := mkCx Tryd.prog fns [] [l10]

theorem round10 (d : Nat) (R : St → Option (List D)) (K : X → St → Option (List D)) (len : Nat) (j : Nat) (r : Row) :
    evCode C10 22 true (inl C10 (d + 4)) (lbody C10.P 22 2) (S10 len j r) (rnd [0, 3] (some [0, 2]) R K) =
    br (decide ((j : Int) < len)) (br (decide (0 ≤ (j : Int)) && decide ((j : Int) < len)) (br (lng r j) (K .ret (S10r len r)) (R (S10 len (IntKind.i64.wrap (j + 1)) r))) none) (K (.exit 0) (S10x len r)) := by kernel_rfl

theorem loop10 : LoopOk C10 l10 := ⟨by kernel_rfl, fun d its k rr h => by
  show rounds [0, 3] (some [0, 2]) (evCode C10 22 true (inl C10 (d + 4)) (lbody C10.P 22 2)) 18446744073709551616 (Go.Ev.bst l10.p its) k = some rr
  change G10 its k = some rr at h
  unfold G10 at h
  split at h
  · rename_i len r
    rcases br_some h with ⟨h1, h2⟩ | ⟨_, h2⟩
    · have h1 : len ≤ 9223372036854775807 := of_decide_eq_true h1
      rw [← h2]
      exact rounds_scan (S := fun j => S10 len j r) (len := len) (bad := lng r) (Kb := fun K => K .ret (S10r len r)) (Ke := fun K => K (.exit 0) (S10x len r))
        (fun j hj R K => by
          rw [round10, wrap64 (by omega) (by omega), show (decide (0 ≤ (j : Int)) && decide ((j : Int) < len)) = true by simp; omega, show decide ((j : Int) < (len : Int)) = true by simpa using hj]
          rfl)
        (fun R K => by
          rw [round10, show decide ((len : Int) < (len : Int)) = false by simp]
          rfl) k len 0 (by omega) _ (by omega)
    · cases h2
  · cases h⟩

theorem C10_ok : CxOk C10 := mkCx_ok enter mixed (fun p h => by cases h) (fun l h => by
  simp only [List.mem_singleton] at h
  subst h
  exact loop10)

theorem t10 (r : Row) : evF C10 6 22 [.slice ksE r] = br (decide (r.n ≤ big)) (br (anyF (lng r) r.n 0) (some [.v (.bool true)]) (some [.v (.bool (decide ((r.n : Int) > 210)))])) none := by kernel_rfl

theorem den10 : Den Tryd.prog 22 F10 := evF_den C10_ok fun ds rs h => by
  unfold F10 at h
  split at h
  · rename_i r
    simp only [Option.some.injEq, Prod.mk.injEq] at h
    obtain ⟨hb, rfl⟩ := h
    refine (t10 r).trans ?_
    rw [hb]
    cases anyF (lng r) r.n 0 <;> rfl
  · cases h
end Go.Proofs.YtpblmkephkhlkaaDoor.Lg

/- The reference's Expense. No conditions. -/
import Derived.Test.YtpblmkephkhlkaaL5
namespace Go.Proofs.Ytpblmkephkhlkaa
open Go.Ev

def mem21 (b c : Int) (len : Nat) (r : Row) : List (Option Blk) := [some (.box [i64 b, i64 c, .slice (some ⟨1, 0, some 0⟩) len 0]), some (.row [.int .i64] false r)]
def S21 (n b c : Int) (len : Nat) (i : Int) (r : Row) : St := { τ := [i64 n] ++ us 2 ++ [.pointer (some ⟨0, 0, some 0⟩)] ++ us 1 ++ [i64 i] ++ us 60, saved := [[]], mem := mem21 b c len r }
def S21r : St := { τ := us 4 ++ [.bool false] ++ us 61, saved := [[]], mem := [] }
def S21x : St := { τ := us 66, saved := [[]], mem := [] }
def T21 (n b c : Int) (len : Nat) (i k : Int) (r : Row) : St := { τ := [i64 n] ++ us 2 ++ [.pointer (some ⟨0, 0, some 0⟩)] ++ us 1 ++ [i64 i, i64 k] ++ us 59, saved := [[]], mem := mem21 b c len r }
def T21r (n b c : Int) (len : Nat) (i : Int) (r : Row) : St := { τ := [i64 n] ++ us 2 ++ [.pointer (some ⟨0, 0, some 0⟩), .bool false, i64 i] ++ us 60, saved := [[]], mem := mem21 b c len r }
def G21i : List It → (X → St → Option (List D)) → Option (List D)
  | [.i n, .i i, .i b, .i c, .n len, .r r], k => br (decide (0 ≤ i) && decide (i < (len : Int)) && decide (len ≤ 1000)) (br (anyF (fun k => r.I k 0 == r.I (0 + i.toNat) 0) i.toNat 0) (k .ret (T21r n b c len i r)) (k (.exit 2) (S21 n b c len i r))) none
  | _, _ => none
def G21 : List It → (X → St → Option (List D)) → Option (List D)
  | [.i n, .i _, .i _, .n len, .r r], k => br (decide (len ≤ 1000)) (br (anyF (badE n r) len 0) (k .ret S21r) (k (.exit 0) S21x)) none
  | _, _ => none
def pm21 : List PB := [.box [.v (.int .i64), .v (.int .i64), .v (.sl 1)], .row [.int .i64] false]
def l21i : LoopC where
  f := 21
  id := 9
  lv := [0, 3, 5, 6]
  lx := [0, 3, 4, 5]
  p := { τ := [.v (.int .i64)] ++ pu 2 ++ [.v (.c (.pointer (some ⟨0, 0, some 0⟩)))] ++ pu 1 ++ [.v (.int .i64), .v (.c (i64 0))] ++ pu 59, saved := [[]], mem := pm21 }
  G := G21i
def l21 : LoopC where
  f := 21
  id := 4
  lv := [0, 3, 5]
  lx := [4]
  p := { τ := [.v (.int .i64)] ++ pu 2 ++ [.v (.c (.pointer (some ⟨0, 0, some 0⟩)))] ++ pu 1 ++ [.v (.c (i64 0))] ++ pu 60, saved := [[]], mem := pm21 }
  G := G21
noncomputable def C21 : Cx := mkCx Try.prog fns [(19, F19)] [l21, l21i]

theorem round21i (d : Nat) (R : St → Option (List D)) (K : X → St → Option (List D)) (n b c : Int) (len : Nat) (i : Int) (k : Nat) (r : Row) :
    evCode C21 21 true (inl C21 (d + 4)) (lbody C21.P 21 9) (T21 n b c len i k r) (rnd [0, 3, 5, 6] (some [0, 3, 4, 5]) R K) =
    br (decide ((k : Int) < i)) (br (decide (0 ≤ (k : Int)) && decide ((k : Int) < len)) (br (decide (0 ≤ i) && decide (i < len))
      (br (r.I (0 + k) 0 == r.I (0 + i.toNat) 0) (K .ret (T21r n b c len i r)) (R (T21 n b c len i (IntKind.i64.wrap (k + 1)) r))) none) none) (K (.exit 2) (S21 n b c len i r)) := by kernel_rfl

theorem round21 (d : Nat) (R : St → Option (List D)) (K : X → St → Option (List D)) (n b c : Int) (len : Nat) (i : Nat) (r : Row) :
    evCode C21 21 true (inl C21 (d + 4)) (lbody C21.P 21 4) (S21 n b c len i r) (rnd [0, 3, 5] (some [4]) R K) =
    br (decide ((i : Int) < len)) (br (decide (0 ≤ (i : Int)) && decide ((i : Int) < len)) (br true (br (!isB n (r.I (0 + i) 0)) (K .ret S21r)
      (br (decide (0 ≤ (i : Int)) && decide ((i : Int) < len) && decide (len ≤ 1000)) (br (anyF (fun k => r.I k 0 == r.I (0 + i) 0) i 0) (K .ret S21r) (R (S21 n b c len (IntKind.i64.wrap (i + 1)) r))) none)) none) none) (K (.exit 0) S21x) := by kernel_rfl

theorem loop21i : LoopOk C21 l21i := ⟨by kernel_rfl, fun d its k rr h => by
  show rounds [0, 3, 5, 6] (some [0, 3, 4, 5]) (evCode C21 21 true (inl C21 (d + 4)) (lbody C21.P 21 9)) 18446744073709551616 (bst l21i.p its) k = some rr
  change G21i its k = some rr at h
  unfold G21i at h
  split at h
  · rename_i n i b c len r
    rcases br_some h with ⟨h1, h2⟩ | ⟨_, h2⟩
    · simp only [Bool.and_eq_true, decide_eq_true_eq] at h1
      obtain ⟨⟨h0, h1⟩, h3⟩ := h1
      rw [← h2]
      exact rounds_scan (S := fun k => T21 n b c len i k r) (len := i.toNat) (bad := fun k => r.I k 0 == r.I (0 + i.toNat) 0) (Kb := fun K => K .ret (T21r n b c len i r)) (Ke := fun K => K (.exit 2) (S21 n b c len i r))
        (fun j hj R K => by
          rw [round21i, wrap64 (by omega) (by omega), show decide ((j : Int) < i) = true by simp; omega, show (decide (0 ≤ (j : Int)) && decide ((j : Int) < len)) = true by simp; omega, show (decide (0 ≤ i) && decide (i < (len : Int))) = true by simp; omega]
          simp only [br_true, Nat.zero_add]
          rfl)
        (fun R K => by
          rw [round21i, show decide (((i.toNat : Nat) : Int) < i) = false by simp; omega]
          rfl) k i.toNat 0 (by omega) _ (by omega)
    · cases h2
  · cases h⟩

theorem loop21 : LoopOk C21 l21 := ⟨by kernel_rfl, fun d its k rr h => by
  show rounds [0, 3, 5] (some [4]) (evCode C21 21 true (inl C21 (d + 4)) (lbody C21.P 21 4)) 18446744073709551616 (bst l21.p its) k = some rr
  change G21 its k = some rr at h
  unfold G21 at h
  split at h
  · rename_i n b c len r
    rcases br_some h with ⟨h1, h2⟩ | ⟨_, h2⟩
    · simp only [decide_eq_true_eq] at h1
      rw [← h2]
      exact rounds_scan (S := fun j => S21 n b c len j r) (len := len) (bad := badE n r) (Kb := fun K => K .ret S21r) (Ke := fun K => K (.exit 0) S21x)
        (fun j hj R K => by
          rw [round21, wrap64 (by omega) (by omega), show (decide (0 ≤ (j : Int)) && decide ((j : Int) < len) && decide (len ≤ 1000)) = true by simp; omega, show (decide (0 ≤ (j : Int)) && decide ((j : Int) < len)) = true by simp; omega, show decide ((j : Int) < (len : Int)) = true by simpa using hj, Nat.zero_add]
          simp only [br_true, badE, dup]
          cases isB n (r.I j 0) <;> cases anyF (fun k => r.I k 0 == r.I j 0) j 0 <;> rfl)
        (fun R K => by
          rw [round21, show decide ((len : Int) < (len : Int)) = false by simp]
          rfl) k len 0 (by omega) _ (by omega)
    · cases h2
  · cases h⟩

theorem C21_ok : CxOk C21 := mkCx_ok enter mixed (fun p h => by
  simp only [List.mem_singleton] at h
  subst h
  exact den19) (fun l h => by
  simp only [List.mem_cons, List.not_mem_nil, or_false] at h
  rcases h with rfl | rfl
  · exact loop21
  · exact loop21i)

theorem t21 (n b c : Int) (r : Row) : evF C21 6 21 [.v (i64 n), ex b c r] =
    br true (br (!isB n b) (some [.v (.bool false)]) (br (decide (c < 1)) (some [.v (.bool false)]) (br (decide (c > 1000000000)) (some [.v (.bool false)]) (br (decide ((r.n : Int) < 1)) (some [.v (.bool false)]) (br (decide ((r.n : Int) > n)) (some [.v (.bool false)])
      (br (decide (r.n ≤ 1000)) (br (anyF (badE n r) r.n 0) (some [.v (.bool false)]) (some [.v (.bool true)])) none)))))) none := by kernel_rfl

theorem nodup_len : ∀ (n : Nat) (l : List Nat), l.Nodup → (∀ x, x ∈ l → x < n) → l.length ≤ n
  | 0, l, _, h => by
    cases l with
    | nil => exact Nat.le_refl _
    | cons x l => have := h x (by simp); omega
  | n + 1, l, hn, h => by
    have := nodup_len n (l.erase n) (hn.erase n) fun x hx => by
      rw [hn.mem_erase_iff] at hx
      have := h x hx.2
      have := hx.1
      omega
    rw [List.length_erase] at this
    split at this <;> omega

/-- Numbers below n that all differ are not more than n. -/
theorem pigeon {n : Nat} {r : Row} : ∀ {m : Nat}, (∀ i, i < m → 0 ≤ r.I i 0 ∧ r.I i 0 < n) → (∀ i k, i < m → k < i → r.I k 0 ≠ r.I i 0) → m ≤ n := by
  intro m h1 h2
  have hnd : ((List.range m).map fun i => (r.I i 0).toNat).Nodup := by
    rw [List.nodup_iff_pairwise_ne, List.pairwise_map]
    refine List.Pairwise.imp_of_mem ?_ List.pairwise_lt_range
    intro a b ha hb hlt
    simp only [List.mem_range] at ha hb
    have := h2 b a hb hlt
    have := (h1 a ha).1
    have := (h1 b hb).1
    omega
  have := nodup_len n _ hnd fun x hx => by
    simp only [List.mem_map, List.mem_range] at hx
    obtain ⟨i, hi, rfl⟩ := hx
    have := h1 i hi
    omega
  simpa using this

theorem den21 : Den Try.prog 21 F20 := evF_den C21_ok fun ds rs h => by
  unfold F20 at h
  split at h
  · rename_i n b c r
    simp only [Option.some.injEq, Prod.mk.injEq, Bool.and_eq_true, decide_eq_true_eq, partiesB] at h
    obtain ⟨⟨⟨h0, h1⟩, h2⟩, rfl⟩ := h
    refine (t21 n b c r).trans ?_
    rw [show decide (r.n ≤ 1000) = true by simpa using h2]
    have e1 : decide (c < 1) = !decide (c ≥ 1) := by rw [Bool.eq_iff_iff]; simp only [Bool.not_eq_true', decide_eq_true_eq, decide_eq_false_iff_not]; omega
    have e2 : decide (c > 1000000000) = !decide (c ≤ 1000000000) := by rw [Bool.eq_iff_iff]; simp only [Bool.not_eq_true', decide_eq_true_eq, decide_eq_false_iff_not]; omega
    have e3 : decide ((r.n : Int) < 1) = !decide ((r.n : Int) ≥ 1) := by rw [Bool.eq_iff_iff]; simp only [Bool.not_eq_true', decide_eq_true_eq, decide_eq_false_iff_not]; omega
    have e4 : anyF (badE n r) r.n 0 = false → decide ((r.n : Int) > n) = false := by
      intro ha
      rw [anyF_false] at ha
      have := pigeon (n := n.toNat) (r := r) (m := r.n) (fun i hi => by
        have := ha i (by omega) (by omega)
        simp only [badE, isB, Bool.or_eq_false_iff, Bool.not_eq_false', Bool.and_eq_true, decide_eq_true_eq] at this
        omega) (fun i k hi hk => by
        have := ha i (by omega) (by omega)
        simp only [badE, dup, Bool.or_eq_false_iff, anyF_false] at this
        simpa using this.2 k (by omega) (by omega))
      simp
      omega
    rw [e1, e2, e3]
    unfold expB
    cases hA : anyF (badE n r) r.n 0
    · rw [e4 hA]
      cases isB n b <;> cases decide (c ≥ 1) <;> cases decide (c ≤ 1000000000) <;> cases decide ((r.n : Int) ≥ 1) <;> rfl
    · cases isB n b <;> cases decide (c ≥ 1) <;> cases decide (c ≤ 1000000000) <;> cases decide ((r.n : Int) ≥ 1) <;> cases decide ((r.n : Int) > n) <;> rfl
  · cases h
end Go.Proofs.Ytpblmkephkhlkaa

/- The law AppealReplays: what its function comes to. No conditions. -/
import Derived.Test.YtlejhkmkdajneaaA11
namespace Go.Proofs.Ytlejhkmkdajneaa
open Go.Ev
set_option linter.all false
def replT (m : Ms) (A B K : Ms × Nat × Int) (r : Row) (at_ : Int) : Option (List D) :=
  br (chkE m != 0) (some [.v (.bool (true))]) (br (decide ((↑r.n : Int) > 100)) (some [.v (.bool (true))]) (br (decide (at_ < 0)) (some [.v (.bool (true))]) (br (decide (at_ > (↑r.n : Int))) (some [.v (.bool (true))]) (br (decide (0 ≤ at_) && decide (at_ ≤ (↑r.n : Int))) (br (decide ((↑A.2.1 : Int) > (↑r.n : Int))) (some [.v (.bool (false))]) (br (decide ((↑B.2.1 : Int) > at_)) (some [.v (.bool (false))]) (br (!(A.2.2 == 0) == ((↑A.2.1 : Int) == (↑r.n : Int))) (some [.v (.bool (false))]) (br (!(B.2.2 == 0) == ((↑B.2.1 : Int) == at_)) (some [.v (.bool (false))]) (br (B.2.2 == 0) (br (decide (0 ≤ (↑r.n : Int)) && decide ((↑r.n : Int) ≤ (↑r.n : Int))) (br (decide (0 ≤ at_) && decide (at_ ≤ (↑(↑r.n : Int).toNat : Int))) (br (!(K.1.lv == A.1.lv && (K.1.ds == A.1.ds && (K.1.rm == A.1.rm && (K.1.cl == A.1.cl && (K.1.lev == A.1.lev && (K.1.st == A.1.st && (K.1.day == A.1.day && (K.1.due == A.1.due && (K.1.rd == A.1.rd && (K.1.w0 == A.1.w0 && (K.1.w1 == A.1.w1 && true) && (K.1.aw == A.1.aw && true)))))))))))) (some [.v (.bool (false))]) (br ((↑K.2.1 : Int) != IntKind.i64.wrap ((↑A.2.1 : Int) - at_)) (some [.v (.bool (false))]) (br (K.2.2 != A.2.2) (some [.v (.bool (false))]) (br (A.2.2 == 0) (some [.v (.bool (true))]) (br (decide (0 ≤ (↑A.2.1 : Int)) && decide ((↑A.2.1 : Int) < (↑r.n : Int))) (some [.v (.bool (apE A.1 (stpAt r A.2.1) == A.2.2))]) (none)))))) (none)) (none)) (br (!(B.1.lv == A.1.lv && (B.1.ds == A.1.ds && (B.1.rm == A.1.rm && (B.1.cl == A.1.cl && (B.1.lev == A.1.lev && (B.1.st == A.1.st && (B.1.day == A.1.day && (B.1.due == A.1.due && (B.1.rd == A.1.rd && (B.1.w0 == A.1.w0 && (B.1.w1 == A.1.w1 && true) && (B.1.aw == A.1.aw && true)))))))))))) (some [.v (.bool (false))]) (br ((↑B.2.1 : Int) != (↑A.2.1 : Int)) (some [.v (.bool (false))]) (br (B.2.2 != A.2.2) (some [.v (.bool (false))]) (br (A.2.2 == 0) (some [.v (.bool (true))]) (br (decide (0 ≤ (↑A.2.1 : Int)) && decide ((↑A.2.1 : Int) < (↑r.n : Int))) (some [.v (.bool (apE A.1 (stpAt r A.2.1) == A.2.2))]) (none))))))))))) (none)))))
theorem trepl' (m : Ms) (at_ : Int) (r : Row) : evF C9 6 6 [msD m, .slice ksV r, .v (i64 at_)] =
    replT m (rpR m (winOf r 0 r.n)) (rpR m (winOf r 0 at_.toNat)) (rpR (rpR m (winOf r 0 at_.toNat)).1 (winOf r (0 + at_.toNat) (r.n - at_.toNat))) r at_ := by kernel_rfl
set_option maxHeartbeats 4000000 in
theorem law_repl (c : Ms) (at_ : Int) (r : Row) : evF C9 6 6 [msD c, .slice ksV r, .v (i64 at_)] = some [.v (.bool true)] := by
  rw [trepl']
  by_cases hg : goodM c
  · have cC := chk0 hg
    by_cases hn : r.n ≤ 100
    · by_cases hat : 0 ≤ at_ ∧ at_ ≤ r.n
      · obtain ⟨k, rfl⟩ : ∃ k : Nat, at_ = k := ⟨at_.toNat, by omega⟩
        have hk : k ≤ r.n := by omega
        obtain ⟨e1, e2, e3⟩ := rp_parts (c := c) (r := r) (a := k) hg hn hk
        rw [show ((k : Int)).toNat = k from rfl, Nat.zero_add, e1, e2]
        have lA := runG_le (e := rE r) (nx := rN r) (m := r.n) (j := 0) (c := c)
        have lB := runG_le (e := rE r) (nx := rN r) (m := k) (j := 0) (c := c)
        have herr := rp_err (c := c) (r := r)
        generalize runG (rE r) (rN r) r.n 0 c = A at *
        generalize runG (rE r) (rN r) k 0 c = B at *
        generalize rpR B.1 (winOf r k (r.n - k)) = K at *
        obtain ⟨A1, A2, A3⟩ := A
        obtain ⟨B1, B2, B3⟩ := B
        obtain ⟨K1, K2, K3⟩ := K
        dsimp only at *
        obtain ⟨lA1, lA2, lA3⟩ := lA
        obtain ⟨lB1, lB2, lB3⟩ := lB
        have bA : ((A3 == 0) == ((A2 : Int) == (r.n : Int))) = true := by
          rw [beq_iff_eq, Bool.eq_iff_iff]
          simp only [beq_iff_eq]
          omega
        have bB : ((B3 == 0) == ((B2 : Int) == (k : Int))) = true := by
          rw [beq_iff_eq, Bool.eq_iff_iff]
          simp only [beq_iff_eq]
          omega
        have hap : ¬ (A3 == 0) = true → (apE A1 (stpAt r A2) == A3) = true ∧ A2 < r.n := fun h => by
          have h' : A3 ≠ 0 := by simpa using h
          exact ⟨by rw [(herr h').2]; exact beq_self_eq_true _, (herr h').1⟩
        clear hg e1 e2
        unfold replT
        dsimp only
        by_cases hB : B3 = 0
        · rw [if_pos hB] at e3
          simp only [Prod.mk.injEq] at e3
          obtain ⟨rfl, rfl, rfl⟩ := e3
          rw [show IntKind.i64.wrap (((K2 + k : Nat) : Int) - (k : Int)) = (K2 : Int) from (by rw [wrap64 (by omega) (by omega)]; omega), bA, bB, cC, hB]
          simp only [beq_self_eq_true, bne_self_eq_false, Bool.and_self, Bool.and_true, Bool.not_true, Bool.not_false, br_true, br_false]
          repeat' refine br_split (fun h => ?_) (fun h => ?_)
          all_goals first | rfl | contradiction | (rw [(hap ‹¬ (A3 == 0) = true›).1]) | (exfalso; have := (hap ‹¬ (A3 == 0) = true›).2; (try simp only [not_tr, decide_eq_true_eq, Bool.and_eq_true, Bool.or_eq_true, beq_iff_eq, bne_iff_ne, ne_eq, and_true, true_and, Bool.not_eq_true', beq_eq_false_iff_ne, decide_eq_false_iff_not] at *) <;> omega) | (exfalso; (try simp only [not_tr, decide_eq_true_eq, Bool.and_eq_true, Bool.or_eq_true, beq_iff_eq, bne_iff_ne, ne_eq, and_true, true_and, Bool.not_eq_true', beq_eq_false_iff_ne, decide_eq_false_iff_not] at *) <;> omega) | fail "LEAF"
        · rw [if_neg hB] at e3
          simp only [Prod.mk.injEq] at e3
          obtain ⟨rfl, rfl, rfl⟩ := e3
          rw [bA, bB, cC, show (A3 == 0) = false by simpa using hB]
          simp only [beq_self_eq_true, bne_self_eq_false, Bool.and_self, Bool.and_true, Bool.not_true, Bool.not_false, br_true, br_false]
          have hap' := hap (by simpa using hB)
          rw [hap'.1]
          repeat' refine br_split (fun h => ?_) (fun h => ?_)
          all_goals first | rfl | contradiction | (exfalso; have := hap'.2; (try simp only [not_tr, decide_eq_true_eq, Bool.and_eq_true, Bool.or_eq_true, beq_iff_eq, bne_iff_ne, ne_eq, and_true, true_and, Bool.not_eq_true', beq_eq_false_iff_ne, decide_eq_false_iff_not] at *) <;> omega) | (exfalso; (try simp only [not_tr, decide_eq_true_eq, Bool.and_eq_true, Bool.or_eq_true, beq_iff_eq, bne_iff_ne, ne_eq, and_true, true_and, Bool.not_eq_true', beq_eq_false_iff_ne, decide_eq_false_iff_not] at *) <;> omega) | fail "LEAF"
      · unfold replT
        rw [cC]
        cases h1 : decide ((r.n : Int) > 100)
        · cases h2 : decide (at_ < 0)
          · cases h3 : decide (at_ > (r.n : Int))
            · exfalso
              simp only [decide_eq_false_iff_not] at h2 h3
              omega
            · rfl
          · rfl
        · rfl
    · unfold replT
      rw [cC, show decide ((r.n : Int) > 100) = true from decide_eq_true (by omega)]
      rfl
  · unfold replT
    rw [chk8 hg]
    rfl
end Go.Proofs.Ytlejhkmkdajneaa

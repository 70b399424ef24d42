/- The law DocketReplays: what its function comes to. No conditions. -/
import Derived.Test.YtiiaimghkmlhlaaD14
namespace Go.Proofs.Ytiiaimghkmlhlaa
open Go.Ev
set_option linter.all false
def replT (oe : Int) (c : Cs) (A B K : Cs × Nat × Int) (r : Row) (at_ : Int) : Option (List D) :=
  br (oe != 0) (some [.v (.bool (true))]) (br (decide ((↑r.n : Int) > 60)) (some [.v (.bool (true))]) (br (decide (at_ < 0)) (some [.v (.bool (true))]) (br (decide (at_ > (↑r.n : Int))) (some [.v (.bool (true))]) (br (u8B c.st) (br (decide (0 ≤ at_) && decide (at_ ≤ (↑r.n : Int))) (br (u8B c.st) (br (decide ((↑A.2.1 : Int) > (↑r.n : Int))) (some [.v (.bool (false))]) (br (decide ((↑B.2.1 : Int) > at_)) (some [.v (.bool (false))]) (br (!(A.2.2 == 0) == ((↑A.2.1 : Int) == (↑r.n : Int))) (some [.v (.bool (false))]) (br (!(B.2.2 == 0) == ((↑B.2.1 : Int) == at_)) (some [.v (.bool (false))]) (br (u8B A.1.st) (br (chkE A.1 != 0) (some [.v (.bool (false))]) (br (B.2.2 == 0) (br (decide (0 ≤ (↑r.n : Int)) && decide ((↑r.n : Int) ≤ (↑r.n : Int))) (br (decide (0 ≤ at_) && decide (at_ ≤ (↑(↑r.n : Int).toNat : Int))) (br (u8B B.1.st) (br (!(K.1.an == A.1.an && (K.1.ev == A.1.ev && (K.1.de == A.1.de && (K.1.ex == A.1.ex && true))) && (K.1.cl == A.1.cl && (K.1.st == A.1.st && (K.1.day == A.1.day && (K.1.due == A.1.due && (K.1.xd == A.1.xd && (K.1.e0 == A.1.e0 && (K.1.e1 == A.1.e1 && true) && (K.1.aw == A.1.aw && true))))))))) (some [.v (.bool (false))]) (br ((↑K.2.1 : Int) != IntKind.i64.wrap ((↑A.2.1 : Int) - at_)) (some [.v (.bool (false))]) (br (K.2.2 != A.2.2) (some [.v (.bool (false))]) (br (A.2.2 != 0) (br (decide (0 ≤ (↑A.2.1 : Int)) && decide ((↑A.2.1 : Int) < (↑r.n : Int))) (br (u8B A.1.st) (br (apE A.1 (evtAt r A.2.1) != A.2.2) (some [.v (.bool (false))]) (br (u8B A.1.st) (br (atE A.1 100000 == 0) (br (!liveB (atC A.1 100000).st) (br (!liveB A.1.st) (some [.v (.bool (true))]) (some [.v (.bool (decide (A.1.day ≤ 1635)))])) (some [.v (.bool (false))])) (some [.v (.bool (false))])) (none))) (none)) (none)) (br (u8B A.1.st) (br (atE A.1 100000 == 0) (br (!liveB (atC A.1 100000).st) (br (!liveB A.1.st) (some [.v (.bool (true))]) (some [.v (.bool (decide (A.1.day ≤ 1635)))])) (some [.v (.bool (false))])) (some [.v (.bool (false))])) (none)))))) (none)) (none)) (none)) (br (!(B.1.an == A.1.an && (B.1.ev == A.1.ev && (B.1.de == A.1.de && (B.1.ex == A.1.ex && true))) && (B.1.cl == A.1.cl && (B.1.st == A.1.st && (B.1.day == A.1.day && (B.1.due == A.1.due && (B.1.xd == A.1.xd && (B.1.e0 == A.1.e0 && (B.1.e1 == A.1.e1 && true) && (B.1.aw == A.1.aw && true))))))))) (some [.v (.bool (false))]) (br ((↑B.2.1 : Int) != (↑A.2.1 : Int)) (some [.v (.bool (false))]) (br (B.2.2 != A.2.2) (some [.v (.bool (false))]) (br (A.2.2 != 0) (br (decide (0 ≤ (↑A.2.1 : Int)) && decide ((↑A.2.1 : Int) < (↑r.n : Int))) (br (u8B A.1.st) (br (apE A.1 (evtAt r A.2.1) != A.2.2) (some [.v (.bool (false))]) (br (u8B A.1.st) (br (atE A.1 100000 == 0) (br (!liveB (atC A.1 100000).st) (br (!liveB A.1.st) (some [.v (.bool (true))]) (some [.v (.bool (decide (A.1.day ≤ 1635)))])) (some [.v (.bool (false))])) (some [.v (.bool (false))])) (none))) (none)) (none)) (br (u8B A.1.st) (br (atE A.1 100000 == 0) (br (!liveB (atC A.1 100000).st) (br (!liveB A.1.st) (some [.v (.bool (true))]) (some [.v (.bool (decide (A.1.day ≤ 1635)))])) (some [.v (.bool (false))])) (some [.v (.bool (false))])) (none)))))))) (none)))))) (none)) (none)) (none)))))
theorem trepl' (a e d x cl at_ : Int) (r : Row) : evF C31 6 8 [.agg [.v (i64 a), .v (i64 e), .v (i64 d), .v (i64 x)], .v (i64 cl), .slice ksV r, .v (i64 at_)] =
    replT (opE a e d x cl 0) (opC a e d x cl 0) (rpR (opC a e d x cl 0) (winOf r 0 r.n)) (rpR (opC a e d x cl 0) (winOf r 0 at_.toNat)) (rpR (rpR (opC a e d x cl 0) (winOf r 0 at_.toNat)).1 (winOf r (0 + at_.toNat) (r.n - at_.toNat))) r at_ := by kernel_rfl
set_option maxHeartbeats 4000000 in
theorem law_repl (a e d x cl at_ : Int) (r : Row) : evF C31 6 8 [.agg [.v (i64 a), .v (i64 e), .v (i64 d), .v (i64 x)], .v (i64 cl), .slice ksV r, .v (i64 at_)] = some [.v (.bool true)] := by
  rw [trepl']
  by_cases ho : opE a e d x cl 0 = 0
  · have hI := inv_open ho
    rw [ho]
    generalize opC a e d x cl 0 = c at *
    by_cases hn : r.n ≤ 60
    · by_cases hat : 0 ≤ at_ ∧ at_ ≤ r.n
      · obtain ⟨k, rfl⟩ : ∃ k : Nat, at_ = k := ⟨at_.toNat, by omega⟩
        have hk : k ≤ r.n := by omega
        have hg := hI.1
        obtain ⟨e1, e2, e3⟩ := rp_parts (c := c) (r := r) (a := k) hg (by omega) hk
        rw [show ((k : Int)).toNat = k from rfl, Nat.zero_add, e1, e2]
        have hA1 : invI (runG (rE r) (rN r) r.n 0 c).1 := runG_inv rN_inv hI
        have hB1 : invI (runG (rE r) (rN r) k 0 c).1 := runG_inv rN_inv hI
        have lA := runG_le (e := rE r) (nx := rN r) (m := r.n) (j := 0) (c := c)
        have lB := runG_le (e := rE r) (nx := rN r) (m := k) (j := 0) (c := c)
        have hend := inv_end hA1
        have herr := rp_err (c := c) (r := r)
        generalize runG (rE r) (rN r) r.n 0 c = A at *
        generalize runG (rE r) (rN r) k 0 c = B at *
        generalize rpR B.1 (winOf r k (r.n - k)) = K at *
        obtain ⟨A1, A2, A3⟩ := A
        obtain ⟨B1, B2, B3⟩ := B
        obtain ⟨K1, K2, K3⟩ := K
        dsimp only at *
        obtain ⟨lA1, lA2, lA3⟩ := lA
        obtain ⟨lB1, lB2, lB3⟩ := lB
        obtain ⟨h1, h2, h3⟩ := hend
        have bA : ((A3 == 0) == ((A2 : Int) == (r.n : Int))) = true := by
          rw [beq_iff_eq, Bool.eq_iff_iff]
          simp only [beq_iff_eq]
          omega
        have bB : ((B3 == 0) == ((B2 : Int) == (k : Int))) = true := by
          rw [beq_iff_eq, Bool.eq_iff_iff]
          simp only [beq_iff_eq]
          omega
        have hday : (!liveB A1.st) = false → decide (A1.day ≤ 1635) = true := fun h => decide_eq_true (h3 (by simpa using h))
        have uA := gd_u8 hA1.1
        have uC := gd_u8 hg
        have uB := gd_u8 hB1.1
        have cA := chk0 hA1.1
        clear hA1 hB1 hI ho hg e1 e2 h3
        unfold replT
        dsimp only
        by_cases hB : B3 = 0
        · rw [if_pos hB] at e3
          simp only [Prod.mk.injEq] at e3
          obtain ⟨rfl, rfl, rfl⟩ := e3
          rw [show IntKind.i64.wrap (((K2 + k : Nat) : Int) - (k : Int)) = (K2 : Int) from (by rw [wrap64 (by omega) (by omega)]; omega), bA, bB, uA, uB, uC, cA, h1, h2, hB]
          simp only [beq_self_eq_true, bne_self_eq_false, Bool.and_self, Bool.and_true, Bool.not_true, Bool.not_false, br_true, br_false]
          cases hd : (!liveB A1.st)
          · rw [hday hd]
            repeat' refine br_split (fun h => ?_) (fun h => ?_)
            all_goals first | rfl | contradiction | (exfalso; have := herr (by simpa using ‹(A3 != 0) = true›); (try simp only [not_tr, decide_eq_true_eq, Bool.and_eq_true, Bool.or_eq_true, beq_iff_eq, bne_iff_ne, ne_eq, and_true, true_and, Bool.not_eq_true', beq_eq_false_iff_ne, decide_eq_false_iff_not] at *) <;> omega) | (exfalso; (try simp only [not_tr, decide_eq_true_eq, Bool.and_eq_true, Bool.or_eq_true, beq_iff_eq, bne_iff_ne, ne_eq, and_true, true_and, Bool.not_eq_true', beq_eq_false_iff_ne, decide_eq_false_iff_not] at *) <;> omega) | fail "LEAF"
          · repeat' refine br_split (fun h => ?_) (fun h => ?_)
            all_goals first | rfl | contradiction | (exfalso; have := herr (by simpa using ‹(A3 != 0) = true›); (try simp only [not_tr, decide_eq_true_eq, Bool.and_eq_true, Bool.or_eq_true, beq_iff_eq, bne_iff_ne, ne_eq, and_true, true_and, Bool.not_eq_true', beq_eq_false_iff_ne, decide_eq_false_iff_not] at *) <;> omega) | (exfalso; (try simp only [not_tr, decide_eq_true_eq, Bool.and_eq_true, Bool.or_eq_true, beq_iff_eq, bne_iff_ne, ne_eq, and_true, true_and, Bool.not_eq_true', beq_eq_false_iff_ne, decide_eq_false_iff_not] at *) <;> omega) | fail "LEAF"
        · rw [if_neg hB] at e3
          simp only [Prod.mk.injEq] at e3
          obtain ⟨rfl, rfl, rfl⟩ := e3
          rw [bA, bB, uA, uC, cA, h1, h2, show (A3 == 0) = false by simpa using hB]
          simp only [beq_self_eq_true, bne_self_eq_false, Bool.and_self, Bool.and_true, Bool.not_true, Bool.not_false, br_true, br_false]
          cases hd : (!liveB A1.st)
          · rw [hday hd]
            repeat' refine br_split (fun h => ?_) (fun h => ?_)
            all_goals first | rfl | contradiction | (exfalso; have := herr hB; (try simp only [not_tr, decide_eq_true_eq, Bool.and_eq_true, Bool.or_eq_true, beq_iff_eq, bne_iff_ne, ne_eq, and_true, true_and, Bool.not_eq_true', beq_eq_false_iff_ne, decide_eq_false_iff_not] at *) <;> omega) | (exfalso; (try simp only [not_tr, decide_eq_true_eq, Bool.and_eq_true, Bool.or_eq_true, beq_iff_eq, bne_iff_ne, ne_eq, and_true, true_and, Bool.not_eq_true', beq_eq_false_iff_ne, decide_eq_false_iff_not] at *) <;> omega) | fail "LEAF"
          · repeat' refine br_split (fun h => ?_) (fun h => ?_)
            all_goals first | rfl | contradiction | (exfalso; have := herr hB; (try simp only [not_tr, decide_eq_true_eq, Bool.and_eq_true, Bool.or_eq_true, beq_iff_eq, bne_iff_ne, ne_eq, and_true, true_and, Bool.not_eq_true', beq_eq_false_iff_ne, decide_eq_false_iff_not] at *) <;> omega) | (exfalso; (try simp only [not_tr, decide_eq_true_eq, Bool.and_eq_true, Bool.or_eq_true, beq_iff_eq, bne_iff_ne, ne_eq, and_true, true_and, Bool.not_eq_true', beq_eq_false_iff_ne, decide_eq_false_iff_not] at *) <;> omega) | fail "LEAF"
      · unfold replT
        cases h1 : decide ((r.n : Int) > 60)
        · cases h2 : decide (at_ < 0)
          · cases h3 : decide (at_ > (r.n : Int))
            · exfalso
              simp only [decide_eq_false_iff_not] at h2 h3
              omega
            · rfl
          · rfl
        · rfl
    · unfold replT
      rw [show decide ((r.n : Int) > 60) = true from decide_eq_true (by omega)]
      rfl
  · unfold replT
    rw [show (opE a e d x cl 0 != 0) = true by simpa using ho]
    rfl
end Go.Proofs.Ytiiaimghkmlhlaa

/- The laws AppealFinal and AppealReplays: what their functions come to. No conditions. -/
import Derived.Test.YtlejhkmkdajneaaA8
namespace Go.Proofs.Ytlejhkmkdajneaa
open Go.Ev
set_option linter.all false
theorem at_at {m : Ms} {d e : Int} (h1 : atE m d = 0) (h3 : d ≤ e) : atE (atC m d) e = atE m e ∧ atC (atC m d) e = atC m e := by
  obtain ⟨hg, hg2, _, _, _, _, f5, f6, f7, f8⟩ := at_good h1
  have u1 : ∀ q : Ms, goodM q → q.day ≤ e → atE q e = if e < 0 ∨ 100000 < e then 2 else 0 := fun q hq hd => by
    unfold atE
    rw [if_neg (by simpa using hq)]
    split
    · rfl
    · rw [if_neg (by omega)]
  have h4 : atE (atC m d) e = atE m e := by rw [u1 _ hg2 (by omega), u1 _ hg (by omega)]
  refine ⟨h4, ?_⟩
  by_cases h5 : atE m e = 0
  · rw [show atC (atC m d) e = stepC (atC m d) e from if_pos (by rw [h4]; exact h5), show atC m e = stepC m e from if_pos h5, show atC m d = stepC m d from if_pos h1]
    unfold stepC
    by_cases a1 : m.st = 2
    · by_cases a2 : m.due < d
      · have a3 : m.due < e := by omega
        simp [a1, a2, a3]
      · by_cases a3 : m.due < e <;> simp [a1, a2, a3]
    · simp [a1]
  · rw [show atC (atC m d) e = zeroM from if_neg (by rw [h4]; exact h5), show atC m e = zeroM from if_neg h5]
theorem at_st {m : Ms} {d : Int} (h1 : atE m d = 0) : (atC m d).st = 3 ∨ (atC m d).st = m.st := by
  rw [show atC m d = stepC m d from if_pos h1]
  unfold stepC
  split
  · exact .inl rfl
  · exact .inr rfl
theorem at_err {m : Ms} {d : Int} (hg : goodM m) (h : atE m d ≠ 0) : atE m d = 2 ∨ atE m d = 32 := by
  unfold atE at h ⊢
  rw [if_neg (by simpa using hg)] at h ⊢
  split
  · exact .inl rfl
  · rename_i k1
    rw [if_neg k1] at h
    split
    · exact .inr rfl
    · rename_i k2
      rw [if_neg k2] at h
      exact absurd rfl h
theorem fin_step {m : Ms} {d : Int} (hs : m.st = 3) (h : atE m d = 0) : atC m d = { m with day := d } := by
  rw [show atC m d = stepC m d from if_pos h]
  unfold stepC
  rw [if_neg (by omega)]
theorem fin_ap {m : Ms} {x : Stp} (hs : m.st = 3) : apE m x ≠ 0 := by
  intro h0
  obtain ⟨_, _, h3, h4, _⟩ := ap_zero h0
  rw [fin_step hs h3] at h4
  unfold allP at h4
  dsimp only at h4
  omega
theorem fin_al {m : Ms} {d : Int} (hs : m.st = 3) : (alR m d).n = 0 := by
  unfold alR
  split
  · rename_i h
    rw [fin_step hs h]
    unfold kR
    dsimp only
    rw [if_neg (by omega), if_neg (by omega)]
    rfl
  · rfl
theorem rp_run {c : Ms} {r : Row} (hg : goodM c) (hn : r.n ≤ 100) : rpR c r = runG (rE r) (rN r) r.n 0 c := by
  unfold rpR
  rw [if_neg (by simpa using hg), if_neg (by omega)]
theorem stp_win (r : Row) (e n j : Nat) : stpAt (winOf r e n) j = stpAt r (j + e) := by
  unfold stpAt
  simp only [winOf_I, Nat.zero_add]
  rw [Nat.add_comm e j]
/-- Steps in two parts. -/
theorem rp_parts {c : Ms} {r : Row} {a : Nat} (hg : goodM c) (hn : r.n ≤ 100) (ha : a ≤ r.n) :
    rpR c (winOf r 0 r.n) = runG (rE r) (rN r) r.n 0 c ∧ rpR c (winOf r 0 a) = runG (rE r) (rN r) a 0 c ∧
    (if (runG (rE r) (rN r) a 0 c).2.2 = 0 then
      runG (rE r) (rN r) r.n 0 c = ((rpR (runG (rE r) (rN r) a 0 c).1 (winOf r a (r.n - a))).1, (rpR (runG (rE r) (rN r) a 0 c).1 (winOf r a (r.n - a))).2.1 + a, (rpR (runG (rE r) (rN r) a 0 c).1 (winOf r a (r.n - a))).2.2)
    else runG (rE r) (rN r) r.n 0 c = runG (rE r) (rN r) a 0 c) := by
  have e1 : rpR c (winOf r 0 r.n) = runG (rE r) (rN r) r.n 0 c := rp_run (r := winOf r 0 r.n) hg hn
  have e2 : rpR c (winOf r 0 a) = runG (rE r) (rN r) a 0 c := rp_run (r := winOf r 0 a) hg (by show a ≤ 100; omega)
  refine ⟨e1, e2, ?_⟩
  have e3 := runG_split (e := rE r) (nx := rN r) (a := a) (b := r.n - a) (j := 0) (c := c)
  rw [show a + (r.n - a) = r.n by omega] at e3
  rw [e3]
  split
  · rename_i h0
    have hg2 : goodM (runG (rE r) (rN r) a 0 c).1 := runG_inv rN_good hg
    have e4 : rpR (runG (rE r) (rN r) a 0 c).1 (winOf r a (r.n - a)) = runG (rE (winOf r a (r.n - a))) (rN (winOf r a (r.n - a))) (r.n - a) 0 (runG (rE r) (rN r) a 0 c).1 := by
      have := rp_run (r := winOf r a (r.n - a)) hg2 (by rw [winOf_n]; omega)
      rw [winOf_n] at this
      exact this
    rw [e4]
    exact runG_shift a (fun c j => by unfold rE; rw [stp_win]) (fun c j => by unfold rN; rw [stp_win])
  · rfl
theorem rp_err {c : Ms} {r : Row} (h : (runG (rE r) (rN r) r.n 0 c).2.2 ≠ 0) : (runG (rE r) (rN r) r.n 0 c).2.1 < r.n ∧ apE (runG (rE r) (rN r) r.n 0 c).1 (stpAt r (runG (rE r) (rN r) r.n 0 c).2.1) = (runG (rE r) (rN r) r.n 0 c).2.2 := by
  have h1 := runG_le (e := rE r) (nx := rN r) (m := r.n) (j := 0) (c := c)
  refine ⟨?_, runG_err h⟩
  have := h1.2.1
  have h2 : (runG (rE r) (rN r) r.n 0 c).2.1 ≠ 0 + r.n := fun h3 => h (h1.2.2.2 h3)
  omega
set_option maxHeartbeats 4000000 in
theorem law_final (m : Ms) (d e : Int) (x : Stp) : evF C9 6 8 [msD m, .v (i64 d), .v (i64 e), stD x] = some [.v (.bool true)] := by
  rw [tfinal]
  by_cases hg : goodM m
  · rw [chk0 hg]
    simp only [bne_self_eq_false, br_false]
    by_cases ha : atE m d = 0
    · obtain ⟨_, hq, f1, f2, f3, f4, f5, f6, f7, f8⟩ := at_good ha
      rw [ha, chk0 hq, f5]
      simp only [bne_self_eq_false, br_false, br_true]
      by_cases hle : d ≤ e
      · obtain ⟨k1, k2⟩ := at_at ha hle
        rw [k1, k2]
        by_cases hs : (atC m d).st = 3
        · have hd0 : atE (atC m d) d = 0 := by rw [(at_at ha (Int.le_refl d)).1]; exact ha
          rw [hd0, fin_al hs, hs]
          have hap := fin_ap (m := atC m d) (x := x) hs
          rw [show (apE (atC m d) x == 0) = false by simpa using hap]
          simp only [beq_self_eq_true, bne_self_eq_false, Bool.and_self, Bool.and_true, br_true, br_false, Bool.not_true]
          cases hme : (atE m e == 0)
          · repeat' refine br_split (fun h => ?_) (fun h => ?_)
            all_goals first | rfl | contradiction | exact absurd (beq_self_eq_true _) h | (exfalso; (try simp only [not_tr, decide_eq_true_eq, Bool.and_eq_true, Bool.or_eq_true, beq_iff_eq, bne_iff_ne, ne_eq, and_true, true_and, Bool.not_eq_true', beq_eq_false_iff_ne, decide_eq_false_iff_not] at *) <;> omega) | fail "LEAF"
          · have hme' : atE m e = 0 := by simpa using hme
            have k3 : atC m e = { atC m d with day := e } := by rw [← k2]; exact fin_step hs (by rw [k1]; exact hme')
            rw [k3, hs]
            simp only [beq_self_eq_true, bne_self_eq_false, Bool.and_self, Bool.and_true, br_true, br_false, Bool.not_true]
            repeat' refine br_split (fun h => ?_) (fun h => ?_)
            all_goals first | rfl | contradiction | exact absurd (beq_self_eq_true _) h | (exfalso; (try simp only [not_tr, decide_eq_true_eq, Bool.and_eq_true, Bool.or_eq_true, beq_iff_eq, bne_iff_ne, ne_eq, and_true, true_and, Bool.not_eq_true', beq_eq_false_iff_ne, decide_eq_false_iff_not] at *) <;> omega) | fail "LEAF"
        · have hs' : (atC m d).st = m.st := (at_st ha).resolve_left hs
          rw [show ((atC m d).st != 3) = true by simpa using hs, hs']
          simp only [beq_self_eq_true, bne_self_eq_false, Bool.and_self, Bool.and_true, br_true, br_false, Bool.not_true]
          repeat' refine br_split (fun h => ?_) (fun h => ?_)
          all_goals first | rfl | contradiction | exact absurd (beq_self_eq_true _) h | (exfalso; (try simp only [not_tr, decide_eq_true_eq, Bool.and_eq_true, Bool.or_eq_true, beq_iff_eq, bne_iff_ne, ne_eq, and_true, true_and, Bool.not_eq_true', beq_eq_false_iff_ne, decide_eq_false_iff_not] at *) <;> omega) | fail "LEAF"
      · rw [show decide (e ≥ d) = false from decide_eq_false hle]
        simp only [br_false]
        by_cases hs : (atC m d).st = 3
        · have hd0 : atE (atC m d) d = 0 := by rw [(at_at ha (Int.le_refl d)).1]; exact ha
          have hne : atE (atC m d) e ≠ 0 := by
            intro h0
            obtain ⟨_, _, _, _, _, _, _, _, _, k⟩ := at_good h0
            omega
          rw [hd0, fin_al hs, hs]
          have hap := fin_ap (m := atC m d) (x := x) hs
          rw [show (apE (atC m d) x == 0) = false by simpa using hap, show (atE (atC m d) e == 0) = false by simpa using hne]
          rfl
        · have hs' : (atC m d).st = m.st := (at_st ha).resolve_left hs
          rw [show ((atC m d).st != 3) = true by simpa using hs, hs']
          simp only [beq_self_eq_true]
          rfl
    · rcases at_err hg ha with h1 | h1
      · rw [h1]; rfl
      · rw [h1]; rfl
  · rw [chk8 hg]
    rfl
end Go.Proofs.Ytlejhkmkdajneaa

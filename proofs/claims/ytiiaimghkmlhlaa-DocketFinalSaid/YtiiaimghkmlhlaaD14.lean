/- What stays true of a case that was opened on the day 0; events in two parts. No conditions. -/
import Derived.Test.YtiiaimghkmlhlaaD13
namespace Go.Proofs.Ytiiaimghkmlhlaa
open Go.Ev
set_option linter.all false
def invI (c : Cs) : Prop := goodC c ∧ (c.st = 1 → c.due ≤ c.an + 60 * c.xd) ∧ (c.st = 2 → c.due ≤ c.an + c.ev + 60 * c.xd) ∧ (c.st = 3 → c.due ≤ c.an + c.ev + c.de + 60 * c.xd)
theorem inv_open {a e d x cl : Int} (h : opE a e d x cl 0 = 0) : invI (opC a e d x cl 0) := by
  have ht : termsP a e d x := by
    unfold opE at h
    by_cases ht : termsP a e d x
    · exact ht
    · rw [if_pos ht] at h; cases h
  have hc : 1 ≤ cl ∧ cl ≤ 1000000000 := by
    unfold opE at h
    rw [if_neg (by simpa using ht)] at h
    split at h
    · cases h
    · omega
  unfold opC
  rw [if_pos h]
  simp only [termsP] at ht
  refine ⟨?_, fun _ => ?_, fun h2 => ?_, fun h2 => ?_⟩
  · unfold goodC termsP; dsimp only; omega
  · show 0 + a ≤ a + 60 * 0; omega
  · cases h2
  · cases h2
set_option maxHeartbeats 4000000 in
theorem inv_at {c : Cs} {d : Int} (hI : invI c) (h : atE c d = 0) : invI (atC c d) := by
  obtain ⟨_, h1, _⟩ := at_good h
  refine ⟨h1, ?_⟩
  rw [show atC c d = stepC c d from if_pos h]
  obtain ⟨hg, i1, i2, i3⟩ := hI
  simp only [goodC, termsP] at hg
  unfold stepC
  repeat' split
  all_goals (dsimp only; omega)
set_option maxHeartbeats 4000000 in
theorem inv_ap {c : Cs} {x : Evt} (hI : invI c) (h : apE c x = 0) : invI (apC c x) := by
  refine ⟨ap_good h, ?_⟩
  obtain ⟨h1, h2, h3, h4, h5, h6, h7⟩ := ap_zero h
  have hq := inv_at hI h3
  obtain ⟨_, _, _, _, _, _, _, f6, _⟩ := at_good h3
  rw [h7]
  generalize atC c x.day = q at *
  obtain ⟨hg, i1, i2, i3⟩ := hq
  simp only [evtP] at h2
  simp only [allP, liveP] at h4
  obtain ⟨⟨g1, g2, g3, g4⟩, g5, g6, g7, g8, g9, g10, g11, g12, _, _, _, _⟩ := hg
  clear h h1 h3 h5 h6 h7 hI
  unfold doC
  repeat' split
  all_goals (dsimp only; omega)
theorem inv_end {c : Cs} (hI : invI c) : atE c 100000 = 0 ∧ liveB (atC c 100000).st = false ∧ (liveB c.st = true → c.day ≤ 1635) := by
  obtain ⟨hg, i1, i2, i3⟩ := hI
  have hg' := hg
  simp only [goodC, termsP] at hg'
  have h0 : atE c 100000 = 0 := by
    unfold atE
    rw [if_neg (by simpa using hg), if_neg (by omega), if_neg (by omega)]
  refine ⟨h0, ?_, ?_⟩
  · rw [liveB, decide_eq_false_iff_not, show atC c 100000 = stepC c 100000 from if_pos h0]
    unfold liveP stepC
    repeat' split
    all_goals (dsimp only; omega)
  · intro hl
    simp only [liveB, decide_eq_true_eq] at hl
    unfold liveP at hl
    omega
theorem rN_inv {r : Row} (c : Cs) (j : Nat) (hc : invI c) (h : rE r c j = 0) : invI (rN r c j) := inv_ap hc h

theorem rp_run {c : Cs} {r : Row} (hg : goodC c) (hn : r.n ≤ 100) : rpR c r = runG (rE r) (rN r) r.n 0 c := by
  unfold rpR
  rw [if_neg (by simpa using hg), if_neg (by omega)]
theorem evt_win (r : Row) (e n j : Nat) : evtAt (winOf r e n) j = evtAt r (j + e) := by
  unfold evtAt
  simp only [winOf_I, Nat.zero_add]
  rw [Nat.add_comm e j]
/-- Events in two parts. -/
theorem rp_parts {c : Cs} {r : Row} {a : Nat} (hg : goodC c) (hn : r.n ≤ 100) (ha : a ≤ r.n) :
    rpR c (winOf r 0 r.n) = runG (rE r) (rN r) r.n 0 c ∧ rpR c (winOf r 0 a) = runG (rE r) (rN r) a 0 c ∧
    (if (runG (rE r) (rN r) a 0 c).2.2 = 0 then
      runG (rE r) (rN r) r.n 0 c = ((rpR (runG (rE r) (rN r) a 0 c).1 (winOf r a (r.n - a))).1, (rpR (runG (rE r) (rN r) a 0 c).1 (winOf r a (r.n - a))).2.1 + a, (rpR (runG (rE r) (rN r) a 0 c).1 (winOf r a (r.n - a))).2.2)
    else runG (rE r) (rN r) r.n 0 c = runG (rE r) (rN r) a 0 c) := by
  have e1 : rpR c (winOf r 0 r.n) = runG (rE r) (rN r) r.n 0 c := rp_run (r := winOf r 0 r.n) hg hn
  have e2 : rpR c (winOf r 0 a) = runG (rE r) (rN r) a 0 c := rp_run (r := winOf r 0 a) hg (by show a ≤ 100; omega)
  refine ⟨e1, e2, ?_⟩
  have e3 := runG_split (e := rE r) (nx := rN r) (a := a) (b := r.n - a) (j := 0) (c := c)
  rw [show a + (r.n - a) = r.n by omega] at e3
  rw [e3]
  split
  · rename_i h0
    have hg2 : goodC (runG (rE r) (rN r) a 0 c).1 := runG_inv rN_good hg
    have e4 : rpR (runG (rE r) (rN r) a 0 c).1 (winOf r a (r.n - a)) = runG (rE (winOf r a (r.n - a))) (rN (winOf r a (r.n - a))) (r.n - a) 0 (runG (rE r) (rN r) a 0 c).1 := by
      have := rp_run (r := winOf r a (r.n - a)) hg2 (by rw [winOf_n]; omega)
      rw [winOf_n] at this
      exact this
    rw [e4]
    exact runG_shift a (fun c j => by unfold rE; rw [evt_win]) (fun c j => by unfold rN; rw [evt_win])
  · rfl
theorem rp_err {c : Cs} {r : Row} (h : (runG (rE r) (rN r) r.n 0 c).2.2 ≠ 0) : (runG (rE r) (rN r) r.n 0 c).2.1 < r.n ∧ apE (runG (rE r) (rN r) r.n 0 c).1 (evtAt r (runG (rE r) (rN r) r.n 0 c).2.1) = (runG (rE r) (rN r) r.n 0 c).2.2 := by
  have h1 := runG_le (e := rE r) (nx := rN r) (m := r.n) (j := 0) (c := c)
  refine ⟨?_, runG_err h⟩
  have := h1.2.1
  have h2 : (runG (rE r) (rN r) r.n 0 c).2.1 ≠ 0 + r.n := fun h3 => h (h1.2.2.2 h3)
  omega
end Go.Proofs.Ytiiaimghkmlhlaa

/- Replays, in plain words; what an event that is applied leaves. No conditions. -/
import Derived.Test.YtiiaimghkmlhlaaD10
import Derived.Test.YtiiaimghkmlhlaaEvZ
namespace Go.Proofs.Ytiiaimghkmlhlaa
open Go.Ev
set_option linter.all false
def evtAt (r : Row) (j : Nat) : Evt := ⟨r.I (0 + j) 0, r.I (0 + j) 1, r.I (0 + j) 2, r.I (0 + j) 3, r.I (0 + j) 4⟩
def rE (r : Row) (c : Cs) (j : Nat) : Int := apE c (evtAt r j)
def rN (r : Row) (c : Cs) (j : Nat) : Cs := apC c (evtAt r j)
def rpR (c : Cs) (r : Row) : Cs × Nat × Int := if ¬ goodC c then (zeroC, 0, 8) else if 100 < r.n then (zeroC, 0, 4) else runG (rE r) (rN r) r.n 0 c

theorem ap_zero {c : Cs} {x : Evt} (h : apE c x = 0) : goodC c ∧ evtP x ∧ atE c x.day = 0 ∧ allP x.kind (atC c x.day).st ∧ ¬ (x.kind = 2 ∧ evid (atC c x.day) x = 9 ∨ x.kind = 7 ∧ (atC c x.day).xd = (atC c x.day).ex) ∧
    ¬ (x.cents > (atC c x.day).cl ∨ x.kind = 7 ∧ (atC c x.day).due + x.days > 200000) ∧ apC c x = doC (atC c x.day) x := by
  have h0 := h
  unfold apE at h
  split at h
  · cases h
  · rename_i h1
    split at h
    · contradiction
    · rename_i h2
      split at h
      · cases h
      · rename_i h3
        split at h
        · cases h
        · rename_i h4
          split at h
          · cases h
          · rename_i h5
            refine ⟨Decidable.byContradiction fun h' => h1 (.inl h'), Decidable.byContradiction fun h' => h1 (.inr h'), Decidable.byContradiction fun h' => h2 h', Decidable.byContradiction fun h' => h3 h', h4, h5, if_pos h0⟩
set_option maxHeartbeats 4000000 in
theorem ap_good {c : Cs} {x : Evt} (h : apE c x = 0) : goodC (apC c x) := by
  obtain ⟨h1, h2, h3, h4, h5, h6, h7⟩ := ap_zero h
  obtain ⟨_, hg, f1, f2, f3, f4, f5, f6, f7, f8, f9⟩ := at_good h3
  rw [h7]
  generalize atC c x.day = q at *
  clear h h1 h3 h7 f1 f2 f3 f4 f5 f9
  simp only [goodC, termsP] at hg
  simp only [evtP] at h2
  simp only [allP, liveP] at h4
  obtain ⟨⟨g1, g2, g3, g4⟩, g5, g6, g7, g8, g9, g10, g11, g12, g13, g14, g15, g16⟩ := hg
  unfold doC
  split
  · simp only [goodC, termsP]; omega
  · split
    · simp only [evid] at h5
      split
      · rename_i hp; rw [if_pos hp] at h5; simp only [goodC, termsP]; omega
      · rename_i hp; rw [if_neg hp] at h5; simp only [goodC, termsP]; omega
    · split
      · simp only [goodC, termsP]; omega
      · split
        · simp only [goodC, termsP]; omega
        · split
          · simp only [goodC, termsP]; omega
          · split
            · simp only [goodC, termsP]; omega
            · simp only [goodC, termsP]; omega
theorem gd_u8 {c : Cs} (h : goodC c) : u8B c.st = true := by
  simp only [goodC] at h
  simp only [u8B, Bool.and_eq_true, decide_eq_true_eq]
  omega
theorem rN_good {r : Row} (c : Cs) (j : Nat) (_ : goodC c) (h : rE r c j = 0) : goodC (rN r c j) := ap_good h
end Go.Proofs.Ytiiaimghkmlhlaa

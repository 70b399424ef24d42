/- Check, of the program and of the reference. No conditions. -/
import Derived.Test.YtiiaimghkmlhlaaD2
namespace Go.Proofs.Ytiiaimghkmlhlaa
open Go.Ev
set_option linter.all false
set_option maxHeartbeats 2000000 in
theorem den_chk : Den Try.prog 16 Fchk := evF_den C2_ok fun ds rs h => by
  unfold Fchk at h
  split at h
  · rename_i an ev de ex cl st day due xd e0 e1 aw
    simp only [Option.some.injEq, Prod.mk.injEq, u8B, Bool.and_eq_true, decide_eq_true_eq] at h
    obtain ⟨⟨h1, h2⟩, rfl⟩ := h
    refine (tchk ⟨an, ev, de, ex, cl, st, day, due, xd, e0, e1, aw⟩).trans ?_
    dsimp only
    rw [wrap8 h1 h2]
    by_cases hg : goodC ⟨an, ev, de, ex, cl, st, day, due, xd, e0, e1, aw⟩
    · rw [show chkE ⟨an, ev, de, ex, cl, st, day, due, xd, e0, e1, aw⟩ = 0 from if_pos hg]
      repeat' refine br_split (fun h => ?_) (fun h => ?_)
      all_goals first | rfl | (exfalso; (try simp only [and_true, true_and, not_tr, decide_eq_true_eq, Bool.and_eq_true, Bool.or_eq_true, beq_iff_eq, bne_iff_ne, ne_eq, inB_iff, termsB, liveB, evtB, allB] at *); (try simp only [liveP, goodC, termsP] at *); omega)
    · rw [show chkE ⟨an, ev, de, ex, cl, st, day, due, xd, e0, e1, aw⟩ = 8 from if_neg hg]
      repeat' refine br_split (fun h => ?_) (fun h => ?_)
      all_goals first | rfl | (exfalso; (try simp only [and_true, true_and, not_tr, decide_eq_true_eq, Bool.and_eq_true, Bool.or_eq_true, beq_iff_eq, bne_iff_ne, ne_eq, inB_iff, termsB, liveB, evtB, allB] at *); (try simp only [liveP, goodC, termsP] at *); omega)
  · cases h
set_option maxHeartbeats 2000000 in
theorem den_chkr : Den Try.prog 17 Fchk := evF_den C2_ok fun ds rs h => by
  unfold Fchk at h
  split at h
  · rename_i an ev de ex cl st day due xd e0 e1 aw
    simp only [Option.some.injEq, Prod.mk.injEq, u8B, Bool.and_eq_true, decide_eq_true_eq] at h
    obtain ⟨⟨h1, h2⟩, rfl⟩ := h
    refine (tchkr ⟨an, ev, de, ex, cl, st, day, due, xd, e0, e1, aw⟩).trans ?_
    dsimp only
    by_cases hg : goodC ⟨an, ev, de, ex, cl, st, day, due, xd, e0, e1, aw⟩
    · rw [show chkE ⟨an, ev, de, ex, cl, st, day, due, xd, e0, e1, aw⟩ = 0 from if_pos hg]
      repeat' refine br_split (fun h => ?_) (fun h => ?_)
      all_goals first | rfl | (exfalso; (try simp only [and_true, true_and, not_tr, decide_eq_true_eq, Bool.and_eq_true, Bool.or_eq_true, beq_iff_eq, bne_iff_ne, ne_eq, inB_iff, termsB, liveB, evtB, allB] at *); (try simp only [liveP, goodC, termsP] at *); omega)
    · rw [show chkE ⟨an, ev, de, ex, cl, st, day, due, xd, e0, e1, aw⟩ = 8 from if_neg hg]
      repeat' refine br_split (fun h => ?_) (fun h => ?_)
      all_goals first | rfl | (exfalso; (try simp only [and_true, true_and, not_tr, decide_eq_true_eq, Bool.and_eq_true, Bool.or_eq_true, beq_iff_eq, bne_iff_ne, ne_eq, inB_iff, termsB, liveB, evtB, allB] at *); (try simp only [liveP, goodC, termsP] at *); omega)
  · cases h
end Go.Proofs.Ytiiaimghkmlhlaa

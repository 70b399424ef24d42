/- Package docket and its reference: Open, At. No conditions. -/
import Derived.Test.YtiiaimghkmlhlaaD2p
namespace Go.Proofs.Ytiiaimghkmlhlaa
open Go.Ev
set_option linter.all false
def Fop : List D → Option (Bool × List D)
  | [.agg [.v (.int .i64 a), .v (.int .i64 e), .v (.int .i64 d), .v (.int .i64 x)], .v (.int .i64 cl), .v (.int .i64 day)] => some (true, [csD (opC a e d x cl day), .v (i64 (opE a e d x cl day))])
  | _ => none
theorem top (a e d x cl day : Int) : evF C2 6 10 [.agg [.v (i64 a), .v (i64 e), .v (i64 d), .v (i64 x)], .v (i64 cl), .v (i64 day)] =
    br (!termsB a e d x) (some [.agg [.v (i64 (0)), .v (i64 (0)), .v (i64 (0)), .v (i64 (0)), .v (i64 (0)), .v (.int .u8 (0)), .v (i64 (0)), .v (i64 (0)), .v (i64 (0)), .v (i64 (0)), .v (i64 (0)), .v (i64 (0))], .v (i64 (8))]) (br (!inB cl 1 1000000000) (some [.agg [.v (i64 (0)), .v (i64 (0)), .v (i64 (0)), .v (i64 (0)), .v (i64 (0)), .v (.int .u8 (0)), .v (i64 (0)), .v (i64 (0)), .v (i64 (0)), .v (i64 (0)), .v (i64 (0)), .v (i64 (0))], .v (i64 (2))]) (br (!inB day 0 100000) (some [.agg [.v (i64 (0)), .v (i64 (0)), .v (i64 (0)), .v (i64 (0)), .v (i64 (0)), .v (.int .u8 (0)), .v (i64 (0)), .v (i64 (0)), .v (i64 (0)), .v (i64 (0)), .v (i64 (0)), .v (i64 (0))], .v (i64 (2))]) (some [.agg [.v (i64 (a)), .v (i64 (e)), .v (i64 (d)), .v (i64 (x)), .v (i64 (cl)), .v (.int .u8 (1)), .v (i64 (day)), .v (i64 (IntKind.i64.wrap (day + a))), .v (i64 (0)), .v (i64 (0)), .v (i64 (0)), .v (i64 (0))], .v (i64 (0))]))) := by kernel_rfl
theorem topr (a e d x cl day : Int) : evF C2 6 11 [.agg [.v (i64 a), .v (i64 e), .v (i64 d), .v (i64 x)], .v (i64 cl), .v (i64 day)] =
    br (!termsB a e d x) (some [.agg [.v (i64 (0)), .v (i64 (0)), .v (i64 (0)), .v (i64 (0)), .v (i64 (0)), .v (.int .u8 (0)), .v (i64 (0)), .v (i64 (0)), .v (i64 (0)), .v (i64 (0)), .v (i64 (0)), .v (i64 (0))], .v (i64 (8))]) (br (!inB cl 1 1000000000) (some [.agg [.v (i64 (0)), .v (i64 (0)), .v (i64 (0)), .v (i64 (0)), .v (i64 (0)), .v (.int .u8 (0)), .v (i64 (0)), .v (i64 (0)), .v (i64 (0)), .v (i64 (0)), .v (i64 (0)), .v (i64 (0))], .v (i64 (2))]) (br (!inB day 0 100000) (some [.agg [.v (i64 (0)), .v (i64 (0)), .v (i64 (0)), .v (i64 (0)), .v (i64 (0)), .v (.int .u8 (0)), .v (i64 (0)), .v (i64 (0)), .v (i64 (0)), .v (i64 (0)), .v (i64 (0)), .v (i64 (0))], .v (i64 (2))]) (some [.agg [.v (i64 (a)), .v (i64 (e)), .v (i64 (d)), .v (i64 (x)), .v (i64 (cl)), .v (.int .u8 (1)), .v (i64 (day)), .v (i64 (IntKind.i64.wrap (day + a))), .v (i64 (0)), .v (i64 (0)), .v (i64 (0)), .v (i64 (0))], .v (i64 (0))]))) := by kernel_rfl
theorem den_op : Den Try.prog 10 Fop := evF_den C2_ok fun ds rs h => by
  unfold Fop at h
  split at h
  · rename_i a e d x cl day
    cases h
    refine (top a e d x cl day).trans ?_
    by_cases hq : termsP a e d x ∧ 0 ≤ day ∧ day ≤ 100000
    · rw [show IntKind.i64.wrap (day + a) = day + a from wrap64 (by simp only [termsP] at hq; omega) (by simp only [termsP] at hq; omega)]
      repeat' refine br_split (fun h => ?_) (fun h => ?_)
      all_goals first | rfl | (exfalso; (try simp only [br_ite, not_tr, decide_eq_true_eq, Bool.and_eq_true, Bool.or_eq_true, beq_iff_eq, bne_iff_ne, ne_eq, inB_iff, termsB, liveB, evtB, allB] at *); (try simp only [liveP, goodC, termsP] at *); omega) | ((try simp only [br_ite, not_tr, decide_eq_true_eq, Bool.and_eq_true, Bool.or_eq_true, beq_iff_eq, bne_iff_ne, ne_eq, inB_iff, termsB, liveB, evtB, allB] at *); simp only [opC, opE]; (repeat' split); all_goals first | rfl | contradiction | (exfalso; (try simp only [liveP, goodC, termsP] at *); omega))
    · repeat' refine br_split (fun h => ?_) (fun h => ?_)
      all_goals first | rfl | (exfalso; (try simp only [br_ite, not_tr, decide_eq_true_eq, Bool.and_eq_true, Bool.or_eq_true, beq_iff_eq, bne_iff_ne, ne_eq, inB_iff, termsB, liveB, evtB, allB] at *); (try simp only [liveP, goodC, termsP] at *); omega) | ((try simp only [br_ite, not_tr, decide_eq_true_eq, Bool.and_eq_true, Bool.or_eq_true, beq_iff_eq, bne_iff_ne, ne_eq, inB_iff, termsB, liveB, evtB, allB] at *); simp only [opC, opE]; (repeat' split); all_goals first | rfl | contradiction | (exfalso; (try simp only [liveP, goodC, termsP] at *); omega))
  · cases h
theorem den_opr : Den Try.prog 11 Fop := evF_den C2_ok fun ds rs h => by
  unfold Fop at h
  split at h
  · rename_i a e d x cl day
    cases h
    refine (topr a e d x cl day).trans ?_
    by_cases hq : termsP a e d x ∧ 0 ≤ day ∧ day ≤ 100000
    · rw [show IntKind.i64.wrap (day + a) = day + a from wrap64 (by simp only [termsP] at hq; omega) (by simp only [termsP] at hq; omega)]
      repeat' refine br_split (fun h => ?_) (fun h => ?_)
      all_goals first | rfl | (exfalso; (try simp only [br_ite, not_tr, decide_eq_true_eq, Bool.and_eq_true, Bool.or_eq_true, beq_iff_eq, bne_iff_ne, ne_eq, inB_iff, termsB, liveB, evtB, allB] at *); (try simp only [liveP, goodC, termsP] at *); omega) | ((try simp only [br_ite, not_tr, decide_eq_true_eq, Bool.and_eq_true, Bool.or_eq_true, beq_iff_eq, bne_iff_ne, ne_eq, inB_iff, termsB, liveB, evtB, allB] at *); simp only [opC, opE]; (repeat' split); all_goals first | rfl | contradiction | (exfalso; (try simp only [liveP, goodC, termsP] at *); omega))
    · repeat' refine br_split (fun h => ?_) (fun h => ?_)
      all_goals first | rfl | (exfalso; (try simp only [br_ite, not_tr, decide_eq_true_eq, Bool.and_eq_true, Bool.or_eq_true, beq_iff_eq, bne_iff_ne, ne_eq, inB_iff, termsB, liveB, evtB, allB] at *); (try simp only [liveP, goodC, termsP] at *); omega) | ((try simp only [br_ite, not_tr, decide_eq_true_eq, Bool.and_eq_true, Bool.or_eq_true, beq_iff_eq, bne_iff_ne, ne_eq, inB_iff, termsB, liveB, evtB, allB] at *); simp only [opC, opE]; (repeat' split); all_goals first | rfl | contradiction | (exfalso; (try simp only [liveP, goodC, termsP] at *); omega))
  · cases h

/-! ### At -/
def Fat : List D → Option (Bool × List D)
  | [.agg [.v (.int .i64 an), .v (.int .i64 ev), .v (.int .i64 de), .v (.int .i64 ex), .v (.int .i64 cl), .v (.int .u8 st), .v (.int .i64 day), .v (.int .i64 due), .v (.int .i64 xd), .v (.int .i64 e0), .v (.int .i64 e1), .v (.int .i64 aw)], .v (.int .i64 d)] => some (u8B st, [csD (atC ⟨an, ev, de, ex, cl, st, day, due, xd, e0, e1, aw⟩ d), .v (i64 (atE ⟨an, ev, de, ex, cl, st, day, due, xd, e0, e1, aw⟩ d))])
  | _ => none
noncomputable def C3 : Cx := mkCx Try.prog fns [(30, Fin), (32, Fin), (16, Fchk), (17, Fchk), (20, Flive)] []
theorem C3_ok : CxOk C3 := mkCx_ok enter mixed (fun p h => by
  simp only [List.mem_cons, List.not_mem_nil, or_false] at h
  rcases h with rfl | rfl | rfl | rfl | rfl
  · exact den_in
  · exact den_inr
  · exact den_chk
  · exact den_chkr
  · exact den_liver) (fun l h => by cases h)
theorem tat (c : Cs) (d : Int) : evF C3 6 12 [csD c, .v (i64 d)] =
    br (u8B c.st) (br (chkE c != 0) (some [.agg [.v (i64 (0)), .v (i64 (0)), .v (i64 (0)), .v (i64 (0)), .v (i64 (0)), .v (.int .u8 (0)), .v (i64 (0)), .v (i64 (0)), .v (i64 (0)), .v (i64 (0)), .v (i64 (0)), .v (i64 (0))], .v (i64 (chkE c))]) (br (!inB d 0 100000) (some [.agg [.v (i64 (0)), .v (i64 (0)), .v (i64 (0)), .v (i64 (0)), .v (i64 (0)), .v (.int .u8 (0)), .v (i64 (0)), .v (i64 (0)), .v (i64 (0)), .v (i64 (0)), .v (i64 (0)), .v (i64 (0))], .v (i64 (2))]) (br (decide (d < c.day)) (some [.agg [.v (i64 (0)), .v (i64 (0)), .v (i64 (0)), .v (i64 (0)), .v (i64 (0)), .v (.int .u8 (0)), .v (i64 (0)), .v (i64 (0)), .v (i64 (0)), .v (i64 (0)), .v (i64 (0)), .v (i64 (0))], .v (i64 (32))]) (br (c.st == 1) (br (decide (c.due < d)) (some [.agg [.v (i64 (c.an)), .v (i64 (c.ev)), .v (i64 (c.de)), .v (i64 (c.ex)), .v (i64 (c.cl)), .v (.int .u8 (6)), .v (i64 (d)), .v (i64 (c.due)), .v (i64 (c.xd)), .v (i64 (c.e0)), .v (i64 (c.e1)), .v (i64 (c.cl))], .v (i64 (0))]) (br (c.st == 2) (br (decide (c.due < d)) (br (decide (IntKind.i64.wrap (c.due + c.de) < d)) (some [.agg [.v (i64 (c.an)), .v (i64 (c.ev)), .v (i64 (c.de)), .v (i64 (c.ex)), .v (i64 (c.cl)), .v (.int .u8 (7)), .v (i64 (d)), .v (i64 (IntKind.i64.wrap (c.due + c.de))), .v (i64 (c.xd)), .v (i64 (c.e0)), .v (i64 (c.e1)), .v (i64 (c.aw))], .v (i64 (0))]) (some [.agg [.v (i64 (c.an)), .v (i64 (c.ev)), .v (i64 (c.de)), .v (i64 (c.ex)), .v (i64 (c.cl)), .v (.int .u8 (3)), .v (i64 (d)), .v (i64 (IntKind.i64.wrap (c.due + c.de))), .v (i64 (c.xd)), .v (i64 (c.e0)), .v (i64 (c.e1)), .v (i64 (c.aw))], .v (i64 (0))])) (br (c.st == 3) (br (decide (c.due < d)) (some [.agg [.v (i64 (c.an)), .v (i64 (c.ev)), .v (i64 (c.de)), .v (i64 (c.ex)), .v (i64 (c.cl)), .v (.int .u8 (7)), .v (i64 (d)), .v (i64 (c.due)), .v (i64 (c.xd)), .v (i64 (c.e0)), .v (i64 (c.e1)), .v (i64 (c.aw))], .v (i64 (0))]) (some [.agg [.v (i64 (c.an)), .v (i64 (c.ev)), .v (i64 (c.de)), .v (i64 (c.ex)), .v (i64 (c.cl)), .v (.int .u8 (c.st)), .v (i64 (d)), .v (i64 (c.due)), .v (i64 (c.xd)), .v (i64 (c.e0)), .v (i64 (c.e1)), .v (i64 (c.aw))], .v (i64 (0))])) (some [.agg [.v (i64 (c.an)), .v (i64 (c.ev)), .v (i64 (c.de)), .v (i64 (c.ex)), .v (i64 (c.cl)), .v (.int .u8 (c.st)), .v (i64 (d)), .v (i64 (c.due)), .v (i64 (c.xd)), .v (i64 (c.e0)), .v (i64 (c.e1)), .v (i64 (c.aw))], .v (i64 (0))]))) (br (c.st == 3) (br (decide (c.due < d)) (some [.agg [.v (i64 (c.an)), .v (i64 (c.ev)), .v (i64 (c.de)), .v (i64 (c.ex)), .v (i64 (c.cl)), .v (.int .u8 (7)), .v (i64 (d)), .v (i64 (c.due)), .v (i64 (c.xd)), .v (i64 (c.e0)), .v (i64 (c.e1)), .v (i64 (c.aw))], .v (i64 (0))]) (some [.agg [.v (i64 (c.an)), .v (i64 (c.ev)), .v (i64 (c.de)), .v (i64 (c.ex)), .v (i64 (c.cl)), .v (.int .u8 (c.st)), .v (i64 (d)), .v (i64 (c.due)), .v (i64 (c.xd)), .v (i64 (c.e0)), .v (i64 (c.e1)), .v (i64 (c.aw))], .v (i64 (0))])) (some [.agg [.v (i64 (c.an)), .v (i64 (c.ev)), .v (i64 (c.de)), .v (i64 (c.ex)), .v (i64 (c.cl)), .v (.int .u8 (c.st)), .v (i64 (d)), .v (i64 (c.due)), .v (i64 (c.xd)), .v (i64 (c.e0)), .v (i64 (c.e1)), .v (i64 (c.aw))], .v (i64 (0))])))) (br (c.st == 2) (br (decide (c.due < d)) (br (decide (IntKind.i64.wrap (c.due + c.de) < d)) (some [.agg [.v (i64 (c.an)), .v (i64 (c.ev)), .v (i64 (c.de)), .v (i64 (c.ex)), .v (i64 (c.cl)), .v (.int .u8 (7)), .v (i64 (d)), .v (i64 (IntKind.i64.wrap (c.due + c.de))), .v (i64 (c.xd)), .v (i64 (c.e0)), .v (i64 (c.e1)), .v (i64 (c.aw))], .v (i64 (0))]) (some [.agg [.v (i64 (c.an)), .v (i64 (c.ev)), .v (i64 (c.de)), .v (i64 (c.ex)), .v (i64 (c.cl)), .v (.int .u8 (3)), .v (i64 (d)), .v (i64 (IntKind.i64.wrap (c.due + c.de))), .v (i64 (c.xd)), .v (i64 (c.e0)), .v (i64 (c.e1)), .v (i64 (c.aw))], .v (i64 (0))])) (br (c.st == 3) (br (decide (c.due < d)) (some [.agg [.v (i64 (c.an)), .v (i64 (c.ev)), .v (i64 (c.de)), .v (i64 (c.ex)), .v (i64 (c.cl)), .v (.int .u8 (7)), .v (i64 (d)), .v (i64 (c.due)), .v (i64 (c.xd)), .v (i64 (c.e0)), .v (i64 (c.e1)), .v (i64 (c.aw))], .v (i64 (0))]) (some [.agg [.v (i64 (c.an)), .v (i64 (c.ev)), .v (i64 (c.de)), .v (i64 (c.ex)), .v (i64 (c.cl)), .v (.int .u8 (c.st)), .v (i64 (d)), .v (i64 (c.due)), .v (i64 (c.xd)), .v (i64 (c.e0)), .v (i64 (c.e1)), .v (i64 (c.aw))], .v (i64 (0))])) (some [.agg [.v (i64 (c.an)), .v (i64 (c.ev)), .v (i64 (c.de)), .v (i64 (c.ex)), .v (i64 (c.cl)), .v (.int .u8 (c.st)), .v (i64 (d)), .v (i64 (c.due)), .v (i64 (c.xd)), .v (i64 (c.e0)), .v (i64 (c.e1)), .v (i64 (c.aw))], .v (i64 (0))]))) (br (c.st == 3) (br (decide (c.due < d)) (some [.agg [.v (i64 (c.an)), .v (i64 (c.ev)), .v (i64 (c.de)), .v (i64 (c.ex)), .v (i64 (c.cl)), .v (.int .u8 (7)), .v (i64 (d)), .v (i64 (c.due)), .v (i64 (c.xd)), .v (i64 (c.e0)), .v (i64 (c.e1)), .v (i64 (c.aw))], .v (i64 (0))]) (some [.agg [.v (i64 (c.an)), .v (i64 (c.ev)), .v (i64 (c.de)), .v (i64 (c.ex)), .v (i64 (c.cl)), .v (.int .u8 (c.st)), .v (i64 (d)), .v (i64 (c.due)), .v (i64 (c.xd)), .v (i64 (c.e0)), .v (i64 (c.e1)), .v (i64 (c.aw))], .v (i64 (0))])) (some [.agg [.v (i64 (c.an)), .v (i64 (c.ev)), .v (i64 (c.de)), .v (i64 (c.ex)), .v (i64 (c.cl)), .v (.int .u8 (c.st)), .v (i64 (d)), .v (i64 (c.due)), .v (i64 (c.xd)), .v (i64 (c.e0)), .v (i64 (c.e1)), .v (i64 (c.aw))], .v (i64 (0))]))))))) (none) := by kernel_rfl
set_option maxHeartbeats 2000000 in
theorem den_at : Den Try.prog 12 Fat := evF_den C3_ok fun ds rs h => by
  unfold Fat at h
  split at h
  · rename_i an ev de ex cl st day due xd e0 e1 aw d
    simp only [Option.some.injEq, Prod.mk.injEq] at h
    obtain ⟨h1, rfl⟩ := h
    refine (tat ⟨an, ev, de, ex, cl, st, day, due, xd, e0, e1, aw⟩ d).trans ?_
    dsimp only
    rw [h1]
    by_cases hg : goodC ⟨an, ev, de, ex, cl, st, day, due, xd, e0, e1, aw⟩
    · rw [show chkE ⟨an, ev, de, ex, cl, st, day, due, xd, e0, e1, aw⟩ = 0 from if_pos hg]
      have hg' := hg
      simp only [goodC, termsP] at hg'
      have hw : IntKind.i64.wrap (due + de) = due + de := wrap64 (by omega) (by omega)
      rw [hw]
      repeat' refine br_split (fun h => ?_) (fun h => ?_)
      all_goals first | rfl | contradiction | (exfalso; (try simp only [br_ite, not_tr, decide_eq_true_eq, Bool.and_eq_true, Bool.or_eq_true, beq_iff_eq, bne_iff_ne, ne_eq, inB_iff, termsB, liveB, evtB, allB] at *); omega) | ((try simp only [br_ite, not_tr, decide_eq_true_eq, Bool.and_eq_true, Bool.or_eq_true, beq_iff_eq, bne_iff_ne, ne_eq, inB_iff, termsB, liveB, evtB, allB] at *); simp only [atC, atE, stepC, hg]; (repeat' split); all_goals first | rfl | contradiction | (exfalso; omega))
    · rw [show chkE ⟨an, ev, de, ex, cl, st, day, due, xd, e0, e1, aw⟩ = 8 from if_neg hg]
      simp only [atC, atE, hg]
      rfl
  · cases h

end Go.Proofs.Ytiiaimghkmlhlaa

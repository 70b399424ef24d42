/- A step is applied: contracts. No conditions. -/
import Derived.Test.YtlejhkmkdajneaaA4
namespace Go.Proofs.Ytlejhkmkdajneaa
open Go.Ev
set_option linter.all false
theorem chk0 {m : Ms} (h : goodM m) : chkE m = 0 := if_pos h
theorem chk8 {m : Ms} (h : ¬ goodM m) : chkE m = 8 := if_neg h
theorem ap_bad {m : Ms} {x : Stp} (h : ¬ goodM m ∨ ¬ stpP x) : apE m x = 8 ∧ apC m x = zeroM := by
  have e : apE m x = 8 := if_pos h
  exact ⟨e, if_neg (by rw [e]; decide)⟩
theorem ap_at {m : Ms} {x : Stp} (hg : goodM m) (hx : stpP x) (h : atE m x.day ≠ 0) : apE m x = atE m x.day ∧ apC m x = zeroM := by
  have e : apE m x = atE m x.day := by
    unfold apE
    rw [if_neg (by simp [hg, hx]), if_pos h]
  exact ⟨e, if_neg (by rw [e]; exact h)⟩
theorem ap_go {m : Ms} {x : Stp} (hg : goodM m) (hx : stpP x) (h : atE m x.day = 0) : apE m x = if ¬ allP x.kind (atC m x.day) then 36
  else if (x.kind = 2 ∨ x.kind = 6) ∧ wvd (atC m x.day) x = true then 14 else if x.cents > (atC m x.day).cl then 16 else 0 := by
  unfold apE
  rw [if_neg (by simp [hg, hx]), if_neg (by simp [h])]
theorem ap_no {m : Ms} {x : Stp} {e : Int} (h : apE m x = e) (he : e ≠ 0) : apC m x = zeroM := if_neg (by rw [h]; exact he)
theorem ap_yes {m : Ms} {x : Stp} (h : apE m x = 0) : apC m x = doC (atC m x.day) x := if_pos h
theorem doC_a (q : Ms) (x : Stp) (h : x.kind = 1 ∨ x.kind = 4) : doC q x = dec { q with aw := x.cents } x.day := if_pos h
theorem doC_2 (q : Ms) (x : Stp) (h : x.kind = 2) : doC q x = { q with lev := q.lev + 1, st := 1, w0 := false, w1 := false } := by unfold doC; rw [if_neg (by omega), if_pos h]
theorem doC_3 (q : Ms) (x : Stp) (h : x.kind = 3) : doC q x = dec q x.day := by unfold doC; rw [if_neg (by omega), if_neg (by omega), if_pos h]
theorem doC_5 (q : Ms) (x : Stp) (h : x.kind = 5) : doC q x = { q with lev := q.lev - 1, rd := q.rd + 1 } := by unfold doC; rw [if_neg (by omega), if_neg (by omega), if_neg (by omega), if_pos h]
theorem doC_6 (q : Ms) (x : Stp) (h : x.kind = 6) : doC q x = if x.party = 0 then (if q.w1 = true then { q with w0 := true, st := 3 } else { q with w0 := true }) else (if q.w0 = true then { q with w1 := true, st := 3 } else { q with w1 := true }) := by
  unfold doC; rw [if_neg (by omega), if_neg (by omega), if_neg (by omega), if_neg (by omega)]
def FapK (kk : Int) : List D → Option (Bool × List D)
  | [.agg [.v (.int .i64 lv), .v (.int .i64 ds_), .v (.int .i64 rm), .v (.int .i64 cl), .v (.int .i64 lev), .v (.int .u8 st), .v (.int .i64 day), .v (.int .i64 due), .v (.int .i64 rd), .v (.bool w0), .v (.bool w1), .v (.int .i64 aw)], .agg [.v (.int .u8 k), .v (.int .i64 xday), .v (.int .i64 party), .v (.int .i64 cents)]] => some (decide (k = kk), [msD (apC ⟨lv, ds_, rm, cl, lev, st, day, due, rd, w0, w1, aw⟩ ⟨k, xday, party, cents⟩), .v (i64 (apE ⟨lv, ds_, rm, cl, lev, st, day, due, rd, w0, w1, aw⟩ ⟨k, xday, party, cents⟩))])
  | _ => none
def FapF : List D → Option (Bool × List D)
  | [.agg [.v (.int .i64 lv), .v (.int .i64 ds_), .v (.int .i64 rm), .v (.int .i64 cl), .v (.int .i64 lev), .v (.int .u8 st), .v (.int .i64 day), .v (.int .i64 due), .v (.int .i64 rd), .v (.bool w0), .v (.bool w1), .v (.int .i64 aw)], .agg [.v (.int .u8 k), .v (.int .i64 xday), .v (.int .i64 party), .v (.int .i64 cents)]] => some (decide (k < 1 ∨ k > 6), [msD (apC ⟨lv, ds_, rm, cl, lev, st, day, due, rd, w0, w1, aw⟩ ⟨k, xday, party, cents⟩), .v (i64 (apE ⟨lv, ds_, rm, cl, lev, st, day, due, rd, w0, w1, aw⟩ ⟨k, xday, party, cents⟩))])
  | _ => none
def Fap : List D → Option (Bool × List D)
  | [.agg [.v (.int .i64 lv), .v (.int .i64 ds_), .v (.int .i64 rm), .v (.int .i64 cl), .v (.int .i64 lev), .v (.int .u8 st), .v (.int .i64 day), .v (.int .i64 due), .v (.int .i64 rd), .v (.bool w0), .v (.bool w1), .v (.int .i64 aw)], .agg [.v (.int .u8 k), .v (.int .i64 xday), .v (.int .i64 party), .v (.int .i64 cents)]] => some (true, [msD (apC ⟨lv, ds_, rm, cl, lev, st, day, due, rd, w0, w1, aw⟩ ⟨k, xday, party, cents⟩), .v (i64 (apE ⟨lv, ds_, rm, cl, lev, st, day, due, rd, w0, w1, aw⟩ ⟨k, xday, party, cents⟩))])
  | _ => none
set_option maxHeartbeats 4000000 in
theorem den_tap1 : Den Try.prog 21 (FapK 1) := evF_den C5_ok fun ds rs h => by
  unfold FapK at h
  split at h
  · rename_i lv ds_ rm cl lev st day due rd w0 w1 aw k xday party cents
    simp only [Option.some.injEq, Prod.mk.injEq, decide_eq_true_eq] at h
    obtain ⟨rfl, rfl⟩ := h
    refine (tap1 ⟨lv, ds_, rm, cl, lev, st, day, due, rd, w0, w1, aw⟩ xday party cents).trans ?_
    dsimp only
    by_cases hg : goodM ⟨lv, ds_, rm, cl, lev, st, day, due, rd, w0, w1, aw⟩
    · rw [chk0 hg]
      by_cases hx : stpP ⟨1, xday, party, cents⟩
      · (try rw [show stpB ⟨1, xday, party, cents⟩ = true from decide_eq_true hx])
        by_cases ha : atE ⟨lv, ds_, rm, cl, lev, st, day, due, rd, w0, w1, aw⟩ xday = 0
        · obtain ⟨_, f1, f2, f3, f4, f5, f6, f7⟩ := at_good ha
          have hE := ap_go hg hx ha
          have hN := @ap_no ⟨lv, ds_, rm, cl, lev, st, day, due, rd, w0, w1, aw⟩ ⟨1, xday, party, cents⟩
          have hY := @ap_yes ⟨lv, ds_, rm, cl, lev, st, day, due, rd, w0, w1, aw⟩ ⟨1, xday, party, cents⟩
          rw [ha]
          generalize apE ⟨lv, ds_, rm, cl, lev, st, day, due, rd, w0, w1, aw⟩ ⟨1, xday, party, cents⟩ = E at *
          generalize apC ⟨lv, ds_, rm, cl, lev, st, day, due, rd, w0, w1, aw⟩ ⟨1, xday, party, cents⟩ = R at *
          dsimp only at hE hN hY f1 f2 f3 f4 f5 f6 f7
          generalize atC ⟨lv, ds_, rm, cl, lev, st, day, due, rd, w0, w1, aw⟩ xday = q at *
          clear hg ha f2 f3 f4 f5
          obtain ⟨qlv, qds, qrm, qcl, qlev, qst, qday, qdue, qrd, qw0, qw1, qaw⟩ := q
          simp only [goodM] at f1
          obtain ⟨g1, g2, g3, g4, g5, g6, g7, g8, g9, g10, _, _⟩ := f1
          simp only [stpP, true_and, true_or, or_true] at hx
          dsimp only at hE hY f6 ⊢
          (try rw [show IntKind.i64.wrap (qlv - 1) = qlv - 1 from wrap64 (by omega) (by omega)])
          (try rw [show IntKind.i64.wrap (xday + qds) = xday + qds from wrap64 (by omega) (by omega)])
          (try rw [show IntKind.i64.wrap (qlev + 1) = qlev + 1 from wrap64 (by omega) (by omega)])
          (try rw [show IntKind.i64.wrap (qlev - 1) = qlev - 1 from wrap64 (by omega) (by omega)])
          (try rw [show IntKind.i64.wrap (qrd + 1) = qrd + 1 from wrap64 (by omega) (by omega)])
          have hb : ∀ q : Ms, allB 1 q = decide (allP 1 q) := fun _ => rfl
          (try rw [hb])
          clear hb
          rw [if_neg (show ¬ (((1 : Int) = 2 ∨ (1 : Int) = 6) ∧ wvd ⟨qlv, qds, qrm, qcl, qlev, qst, qday, qdue, qrd, qw0, qw1, qaw⟩ ⟨1, xday, party, cents⟩ = true) from fun h => absurd h.1 (by decide))] at hE
          unfold allP at hE
          (try unfold allP)
          repeat' (split at hE)
          all_goals first
            | (rw [hN hE (by decide), hE]; clear hE hN hY; (repeat' (first | refine br_splitP (fun h => ?_) (fun h => ?_) | refine br_split (fun h => ?_) (fun h => ?_))); all_goals first | rfl | contradiction | (exfalso; omega) | (exfalso; (try simp only [true_and, and_true, true_or, or_true, not_tr, decide_eq_true_eq, Bool.and_eq_true, Bool.or_eq_true, beq_iff_eq, bne_iff_ne, ne_eq, inB_iff, stpB, allB] at *); (try simp only [allP, true_and, true_or, or_true, false_or] at *); omega) | (exfalso; simp_all; omega) | fail "LEAF")
            | (rw [hY hE, hE, doC_a _ _ (.inl rfl)]; clear hE hN hY; unfold dec; dsimp only; by_cases hl : qlev = qlv - 1
               · (rw [if_pos hl]; (repeat' (first | refine br_splitP (fun h => ?_) (fun h => ?_) | refine br_split (fun h => ?_) (fun h => ?_))); all_goals first | rfl | contradiction | (exfalso; omega) | (exfalso; (try simp only [true_and, and_true, true_or, or_true, not_tr, decide_eq_true_eq, Bool.and_eq_true, Bool.or_eq_true, beq_iff_eq, bne_iff_ne, ne_eq, inB_iff, stpB, allB] at *); (try simp only [allP, true_and, true_or, or_true, false_or] at *); omega) | (exfalso; simp_all; omega) | fail "LEAF")
               · (rw [if_neg hl]; (repeat' (first | refine br_splitP (fun h => ?_) (fun h => ?_) | refine br_split (fun h => ?_) (fun h => ?_))); all_goals first | rfl | contradiction | (exfalso; omega) | (exfalso; (try simp only [true_and, and_true, true_or, or_true, not_tr, decide_eq_true_eq, Bool.and_eq_true, Bool.or_eq_true, beq_iff_eq, bne_iff_ne, ne_eq, inB_iff, stpB, allB] at *); (try simp only [allP, true_and, true_or, or_true, false_or] at *); omega) | (exfalso; simp_all; omega) | fail "LEAF"))
        · rw [(ap_at hg hx ha).1, (ap_at hg hx ha).2, show (atE ⟨lv, ds_, rm, cl, lev, st, day, due, rd, w0, w1, aw⟩ xday != 0) = true by simpa using ha]
          simp only [stpP, true_and, true_or, or_true] at hx
          repeat' (first | refine br_splitP (fun h => ?_) (fun h => ?_) | refine br_split (fun h => ?_) (fun h => ?_))
          all_goals first | rfl | contradiction | (exfalso; omega) | (exfalso; (try simp only [true_and, and_true, true_or, or_true, not_tr, decide_eq_true_eq, Bool.and_eq_true, Bool.or_eq_true, beq_iff_eq, bne_iff_ne, ne_eq, inB_iff, stpB, allB] at *); (try simp only [allP, true_and, true_or, or_true, false_or] at *); omega) | (exfalso; simp_all; omega) | fail "LEAF"
      · (try rw [show stpB ⟨1, xday, party, cents⟩ = false from decide_eq_false hx])
        rw [(ap_bad (.inr hx)).1, (ap_bad (.inr hx)).2]
        simp only [stpP, true_and, true_or, or_true] at hx
        first
          | rfl
          | (cases h0 : (atE ⟨lv, ds_, rm, cl, lev, st, day, due, rd, w0, w1, aw⟩ xday != 0)
             · ((repeat' (first | refine br_splitP (fun h => ?_) (fun h => ?_) | refine br_split (fun h => ?_) (fun h => ?_)))
                all_goals first | rfl | contradiction | (exfalso; omega) | (exfalso; (try simp only [true_and, and_true, true_or, or_true, not_tr, decide_eq_true_eq, Bool.and_eq_true, Bool.or_eq_true, beq_iff_eq, bne_iff_ne, ne_eq, inB_iff, stpB, allB] at *); (try simp only [allP, true_and, true_or, or_true, false_or] at *); omega) | (exfalso; simp_all; omega) | fail "LEAF")
             · ((repeat' (first | refine br_splitP (fun h => ?_) (fun h => ?_) | refine br_split (fun h => ?_) (fun h => ?_)))
                all_goals first | rfl | contradiction | (exfalso; omega) | (exfalso; (try simp only [true_and, and_true, true_or, or_true, not_tr, decide_eq_true_eq, Bool.and_eq_true, Bool.or_eq_true, beq_iff_eq, bne_iff_ne, ne_eq, inB_iff, stpB, allB] at *); (try simp only [allP, true_and, true_or, or_true, false_or] at *); omega) | (exfalso; simp_all; omega) | fail "LEAF"))
    · rw [chk8 hg, (ap_bad (.inl hg)).1, (ap_bad (.inl hg)).2]
      rfl
  · cases h
set_option maxHeartbeats 4000000 in
theorem den_tap2 : Den Try.prog 21 (FapK 2) := evF_den C5_ok fun ds rs h => by
  unfold FapK at h
  split at h
  · rename_i lv ds_ rm cl lev st day due rd w0 w1 aw k xday party cents
    simp only [Option.some.injEq, Prod.mk.injEq, decide_eq_true_eq] at h
    obtain ⟨rfl, rfl⟩ := h
    refine (tap2 ⟨lv, ds_, rm, cl, lev, st, day, due, rd, w0, w1, aw⟩ xday party cents).trans ?_
    dsimp only
    by_cases hg : goodM ⟨lv, ds_, rm, cl, lev, st, day, due, rd, w0, w1, aw⟩
    · rw [chk0 hg]
      by_cases hx : stpP ⟨2, xday, party, cents⟩
      · (try rw [show stpB ⟨2, xday, party, cents⟩ = true from decide_eq_true hx])
        by_cases ha : atE ⟨lv, ds_, rm, cl, lev, st, day, due, rd, w0, w1, aw⟩ xday = 0
        · obtain ⟨_, f1, f2, f3, f4, f5, f6, f7⟩ := at_good ha
          have hE := ap_go hg hx ha
          have hN := @ap_no ⟨lv, ds_, rm, cl, lev, st, day, due, rd, w0, w1, aw⟩ ⟨2, xday, party, cents⟩
          have hY := @ap_yes ⟨lv, ds_, rm, cl, lev, st, day, due, rd, w0, w1, aw⟩ ⟨2, xday, party, cents⟩
          rw [ha]
          generalize apE ⟨lv, ds_, rm, cl, lev, st, day, due, rd, w0, w1, aw⟩ ⟨2, xday, party, cents⟩ = E at *
          generalize apC ⟨lv, ds_, rm, cl, lev, st, day, due, rd, w0, w1, aw⟩ ⟨2, xday, party, cents⟩ = R at *
          dsimp only at hE hN hY f1 f2 f3 f4 f5 f6 f7
          generalize atC ⟨lv, ds_, rm, cl, lev, st, day, due, rd, w0, w1, aw⟩ xday = q at *
          clear hg ha f2 f3 f4 f5
          obtain ⟨qlv, qds, qrm, qcl, qlev, qst, qday, qdue, qrd, qw0, qw1, qaw⟩ := q
          simp only [goodM] at f1
          obtain ⟨g1, g2, g3, g4, g5, g6, g7, g8, g9, g10, _, _⟩ := f1
          simp only [stpP, true_and, true_or, or_true] at hx
          dsimp only at hE hY f6 ⊢
          (try rw [show IntKind.i64.wrap (qlv - 1) = qlv - 1 from wrap64 (by omega) (by omega)])
          (try rw [show IntKind.i64.wrap (xday + qds) = xday + qds from wrap64 (by omega) (by omega)])
          (try rw [show IntKind.i64.wrap (qlev + 1) = qlev + 1 from wrap64 (by omega) (by omega)])
          (try rw [show IntKind.i64.wrap (qlev - 1) = qlev - 1 from wrap64 (by omega) (by omega)])
          (try rw [show IntKind.i64.wrap (qrd + 1) = qrd + 1 from wrap64 (by omega) (by omega)])
          have hb : ∀ q : Ms, allB 2 q = decide (allP 2 q) := fun _ => rfl
          (try rw [hb])
          clear hb
          unfold allP wvd at hE
          (try unfold allP)
          cases qw0 <;> cases qw1 <;> (by_cases hp : party = 0)
          all_goals (simp [hp] at hE)
          all_goals (repeat' (split at hE))
          all_goals first
            | (rw [hN hE (by decide), hE]; clear hE hN hY; (repeat' (first | refine br_splitP (fun h => ?_) (fun h => ?_) | refine br_split (fun h => ?_) (fun h => ?_))); all_goals first | rfl | contradiction | (exfalso; omega) | (exfalso; (try simp only [true_and, and_true, true_or, or_true, not_tr, decide_eq_true_eq, Bool.and_eq_true, Bool.or_eq_true, beq_iff_eq, bne_iff_ne, ne_eq, inB_iff, stpB, allB] at *); (try simp only [allP, true_and, true_or, or_true, false_or] at *); omega) | (exfalso; simp_all; omega) | fail "LEAF")
            | (rw [hY hE, hE, doC_2 _ _ rfl]; clear hE hN hY; (try simp only [hp, if_true, if_false]); (repeat' (first | refine br_splitP (fun h => ?_) (fun h => ?_) | refine br_split (fun h => ?_) (fun h => ?_))); all_goals first | rfl | contradiction | (exfalso; omega) | (exfalso; (try simp only [true_and, and_true, true_or, or_true, not_tr, decide_eq_true_eq, Bool.and_eq_true, Bool.or_eq_true, beq_iff_eq, bne_iff_ne, ne_eq, inB_iff, stpB, allB] at *); (try simp only [allP, true_and, true_or, or_true, false_or] at *); omega) | (exfalso; simp_all; omega) | fail "LEAF")
        · rw [(ap_at hg hx ha).1, (ap_at hg hx ha).2, show (atE ⟨lv, ds_, rm, cl, lev, st, day, due, rd, w0, w1, aw⟩ xday != 0) = true by simpa using ha]
          simp only [stpP, true_and, true_or, or_true] at hx
          repeat' (first | refine br_splitP (fun h => ?_) (fun h => ?_) | refine br_split (fun h => ?_) (fun h => ?_))
          all_goals first | rfl | contradiction | (exfalso; omega) | (exfalso; (try simp only [true_and, and_true, true_or, or_true, not_tr, decide_eq_true_eq, Bool.and_eq_true, Bool.or_eq_true, beq_iff_eq, bne_iff_ne, ne_eq, inB_iff, stpB, allB] at *); (try simp only [allP, true_and, true_or, or_true, false_or] at *); omega) | (exfalso; simp_all; omega) | fail "LEAF"
      · (try rw [show stpB ⟨2, xday, party, cents⟩ = false from decide_eq_false hx])
        rw [(ap_bad (.inr hx)).1, (ap_bad (.inr hx)).2]
        simp only [stpP, true_and, true_or, or_true] at hx
        first
          | rfl
          | (cases h0 : (atE ⟨lv, ds_, rm, cl, lev, st, day, due, rd, w0, w1, aw⟩ xday != 0)
             · ((repeat' (first | refine br_splitP (fun h => ?_) (fun h => ?_) | refine br_split (fun h => ?_) (fun h => ?_)))
                all_goals first | rfl | contradiction | (exfalso; omega) | (exfalso; (try simp only [true_and, and_true, true_or, or_true, not_tr, decide_eq_true_eq, Bool.and_eq_true, Bool.or_eq_true, beq_iff_eq, bne_iff_ne, ne_eq, inB_iff, stpB, allB] at *); (try simp only [allP, true_and, true_or, or_true, false_or] at *); omega) | (exfalso; simp_all; omega) | fail "LEAF")
             · ((repeat' (first | refine br_splitP (fun h => ?_) (fun h => ?_) | refine br_split (fun h => ?_) (fun h => ?_)))
                all_goals first | rfl | contradiction | (exfalso; omega) | (exfalso; (try simp only [true_and, and_true, true_or, or_true, not_tr, decide_eq_true_eq, Bool.and_eq_true, Bool.or_eq_true, beq_iff_eq, bne_iff_ne, ne_eq, inB_iff, stpB, allB] at *); (try simp only [allP, true_and, true_or, or_true, false_or] at *); omega) | (exfalso; simp_all; omega) | fail "LEAF"))
    · rw [chk8 hg, (ap_bad (.inl hg)).1, (ap_bad (.inl hg)).2]
      rfl
  · cases h
set_option maxHeartbeats 4000000 in
theorem den_tap3 : Den Try.prog 21 (FapK 3) := evF_den C5_ok fun ds rs h => by
  unfold FapK at h
  split at h
  · rename_i lv ds_ rm cl lev st day due rd w0 w1 aw k xday party cents
    simp only [Option.some.injEq, Prod.mk.injEq, decide_eq_true_eq] at h
    obtain ⟨rfl, rfl⟩ := h
    refine (tap3 ⟨lv, ds_, rm, cl, lev, st, day, due, rd, w0, w1, aw⟩ xday party cents).trans ?_
    dsimp only
    by_cases hg : goodM ⟨lv, ds_, rm, cl, lev, st, day, due, rd, w0, w1, aw⟩
    · rw [chk0 hg]
      by_cases hx : stpP ⟨3, xday, party, cents⟩
      · (try rw [show stpB ⟨3, xday, party, cents⟩ = true from decide_eq_true hx])
        by_cases ha : atE ⟨lv, ds_, rm, cl, lev, st, day, due, rd, w0, w1, aw⟩ xday = 0
        · obtain ⟨_, f1, f2, f3, f4, f5, f6, f7⟩ := at_good ha
          have hE := ap_go hg hx ha
          have hN := @ap_no ⟨lv, ds_, rm, cl, lev, st, day, due, rd, w0, w1, aw⟩ ⟨3, xday, party, cents⟩
          have hY := @ap_yes ⟨lv, ds_, rm, cl, lev, st, day, due, rd, w0, w1, aw⟩ ⟨3, xday, party, cents⟩
          rw [ha]
          generalize apE ⟨lv, ds_, rm, cl, lev, st, day, due, rd, w0, w1, aw⟩ ⟨3, xday, party, cents⟩ = E at *
          generalize apC ⟨lv, ds_, rm, cl, lev, st, day, due, rd, w0, w1, aw⟩ ⟨3, xday, party, cents⟩ = R at *
          dsimp only at hE hN hY f1 f2 f3 f4 f5 f6 f7
          generalize atC ⟨lv, ds_, rm, cl, lev, st, day, due, rd, w0, w1, aw⟩ xday = q at *
          clear hg ha f2 f3 f4 f5
          obtain ⟨qlv, qds, qrm, qcl, qlev, qst, qday, qdue, qrd, qw0, qw1, qaw⟩ := q
          simp only [goodM] at f1
          obtain ⟨g1, g2, g3, g4, g5, g6, g7, g8, g9, g10, _, _⟩ := f1
          simp only [stpP, true_and, true_or, or_true] at hx
          dsimp only at hE hY f6 ⊢
          (try rw [show IntKind.i64.wrap (qlv - 1) = qlv - 1 from wrap64 (by omega) (by omega)])
          (try rw [show IntKind.i64.wrap (xday + qds) = xday + qds from wrap64 (by omega) (by omega)])
          (try rw [show IntKind.i64.wrap (qlev + 1) = qlev + 1 from wrap64 (by omega) (by omega)])
          (try rw [show IntKind.i64.wrap (qlev - 1) = qlev - 1 from wrap64 (by omega) (by omega)])
          (try rw [show IntKind.i64.wrap (qrd + 1) = qrd + 1 from wrap64 (by omega) (by omega)])
          have hb : ∀ q : Ms, allB 3 q = decide (allP 3 q) := fun _ => rfl
          (try rw [hb])
          clear hb
          rw [if_neg (show ¬ (((3 : Int) = 2 ∨ (3 : Int) = 6) ∧ wvd ⟨qlv, qds, qrm, qcl, qlev, qst, qday, qdue, qrd, qw0, qw1, qaw⟩ ⟨3, xday, party, cents⟩ = true) from fun h => absurd h.1 (by decide))] at hE
          unfold allP at hE
          (try unfold allP)
          repeat' (split at hE)
          all_goals first
            | (rw [hN hE (by decide), hE]; clear hE hN hY; (repeat' (first | refine br_splitP (fun h => ?_) (fun h => ?_) | refine br_split (fun h => ?_) (fun h => ?_))); all_goals first | rfl | contradiction | (exfalso; omega) | (exfalso; (try simp only [true_and, and_true, true_or, or_true, not_tr, decide_eq_true_eq, Bool.and_eq_true, Bool.or_eq_true, beq_iff_eq, bne_iff_ne, ne_eq, inB_iff, stpB, allB] at *); (try simp only [allP, true_and, true_or, or_true, false_or] at *); omega) | (exfalso; simp_all; omega) | fail "LEAF")
            | (rw [hY hE, hE, doC_3 _ _ rfl]; clear hE hN hY; unfold dec; dsimp only; by_cases hl : qlev = qlv - 1
               · (rw [if_pos hl]; (repeat' (first | refine br_splitP (fun h => ?_) (fun h => ?_) | refine br_split (fun h => ?_) (fun h => ?_))); all_goals first | rfl | contradiction | (exfalso; omega) | (exfalso; (try simp only [true_and, and_true, true_or, or_true, not_tr, decide_eq_true_eq, Bool.and_eq_true, Bool.or_eq_true, beq_iff_eq, bne_iff_ne, ne_eq, inB_iff, stpB, allB] at *); (try simp only [allP, true_and, true_or, or_true, false_or] at *); omega) | (exfalso; simp_all; omega) | fail "LEAF")
               · (rw [if_neg hl]; (repeat' (first | refine br_splitP (fun h => ?_) (fun h => ?_) | refine br_split (fun h => ?_) (fun h => ?_))); all_goals first | rfl | contradiction | (exfalso; omega) | (exfalso; (try simp only [true_and, and_true, true_or, or_true, not_tr, decide_eq_true_eq, Bool.and_eq_true, Bool.or_eq_true, beq_iff_eq, bne_iff_ne, ne_eq, inB_iff, stpB, allB] at *); (try simp only [allP, true_and, true_or, or_true, false_or] at *); omega) | (exfalso; simp_all; omega) | fail "LEAF"))
        · rw [(ap_at hg hx ha).1, (ap_at hg hx ha).2, show (atE ⟨lv, ds_, rm, cl, lev, st, day, due, rd, w0, w1, aw⟩ xday != 0) = true by simpa using ha]
          simp only [stpP, true_and, true_or, or_true] at hx
          repeat' (first | refine br_splitP (fun h => ?_) (fun h => ?_) | refine br_split (fun h => ?_) (fun h => ?_))
          all_goals first | rfl | contradiction | (exfalso; omega) | (exfalso; (try simp only [true_and, and_true, true_or, or_true, not_tr, decide_eq_true_eq, Bool.and_eq_true, Bool.or_eq_true, beq_iff_eq, bne_iff_ne, ne_eq, inB_iff, stpB, allB] at *); (try simp only [allP, true_and, true_or, or_true, false_or] at *); omega) | (exfalso; simp_all; omega) | fail "LEAF"
      · (try rw [show stpB ⟨3, xday, party, cents⟩ = false from decide_eq_false hx])
        rw [(ap_bad (.inr hx)).1, (ap_bad (.inr hx)).2]
        simp only [stpP, true_and, true_or, or_true] at hx
        first
          | rfl
          | (cases h0 : (atE ⟨lv, ds_, rm, cl, lev, st, day, due, rd, w0, w1, aw⟩ xday != 0)
             · ((repeat' (first | refine br_splitP (fun h => ?_) (fun h => ?_) | refine br_split (fun h => ?_) (fun h => ?_)))
                all_goals first | rfl | contradiction | (exfalso; omega) | (exfalso; (try simp only [true_and, and_true, true_or, or_true, not_tr, decide_eq_true_eq, Bool.and_eq_true, Bool.or_eq_true, beq_iff_eq, bne_iff_ne, ne_eq, inB_iff, stpB, allB] at *); (try simp only [allP, true_and, true_or, or_true, false_or] at *); omega) | (exfalso; simp_all; omega) | fail "LEAF")
             · ((repeat' (first | refine br_splitP (fun h => ?_) (fun h => ?_) | refine br_split (fun h => ?_) (fun h => ?_)))
                all_goals first | rfl | contradiction | (exfalso; omega) | (exfalso; (try simp only [true_and, and_true, true_or, or_true, not_tr, decide_eq_true_eq, Bool.and_eq_true, Bool.or_eq_true, beq_iff_eq, bne_iff_ne, ne_eq, inB_iff, stpB, allB] at *); (try simp only [allP, true_and, true_or, or_true, false_or] at *); omega) | (exfalso; simp_all; omega) | fail "LEAF"))
    · rw [chk8 hg, (ap_bad (.inl hg)).1, (ap_bad (.inl hg)).2]
      rfl
  · cases h
set_option maxHeartbeats 4000000 in
theorem den_tap4 : Den Try.prog 21 (FapK 4) := evF_den C5_ok fun ds rs h => by
  unfold FapK at h
  split at h
  · rename_i lv ds_ rm cl lev st day due rd w0 w1 aw k xday party cents
    simp only [Option.some.injEq, Prod.mk.injEq, decide_eq_true_eq] at h
    obtain ⟨rfl, rfl⟩ := h
    refine (tap4 ⟨lv, ds_, rm, cl, lev, st, day, due, rd, w0, w1, aw⟩ xday party cents).trans ?_
    dsimp only
    by_cases hg : goodM ⟨lv, ds_, rm, cl, lev, st, day, due, rd, w0, w1, aw⟩
    · rw [chk0 hg]
      by_cases hx : stpP ⟨4, xday, party, cents⟩
      · (try rw [show stpB ⟨4, xday, party, cents⟩ = true from decide_eq_true hx])
        by_cases ha : atE ⟨lv, ds_, rm, cl, lev, st, day, due, rd, w0, w1, aw⟩ xday = 0
        · obtain ⟨_, f1, f2, f3, f4, f5, f6, f7⟩ := at_good ha
          have hE := ap_go hg hx ha
          have hN := @ap_no ⟨lv, ds_, rm, cl, lev, st, day, due, rd, w0, w1, aw⟩ ⟨4, xday, party, cents⟩
          have hY := @ap_yes ⟨lv, ds_, rm, cl, lev, st, day, due, rd, w0, w1, aw⟩ ⟨4, xday, party, cents⟩
          rw [ha]
          generalize apE ⟨lv, ds_, rm, cl, lev, st, day, due, rd, w0, w1, aw⟩ ⟨4, xday, party, cents⟩ = E at *
          generalize apC ⟨lv, ds_, rm, cl, lev, st, day, due, rd, w0, w1, aw⟩ ⟨4, xday, party, cents⟩ = R at *
          dsimp only at hE hN hY f1 f2 f3 f4 f5 f6 f7
          generalize atC ⟨lv, ds_, rm, cl, lev, st, day, due, rd, w0, w1, aw⟩ xday = q at *
          clear hg ha f2 f3 f4 f5
          obtain ⟨qlv, qds, qrm, qcl, qlev, qst, qday, qdue, qrd, qw0, qw1, qaw⟩ := q
          simp only [goodM] at f1
          obtain ⟨g1, g2, g3, g4, g5, g6, g7, g8, g9, g10, _, _⟩ := f1
          simp only [stpP, true_and, true_or, or_true] at hx
          dsimp only at hE hY f6 ⊢
          (try rw [show IntKind.i64.wrap (qlv - 1) = qlv - 1 from wrap64 (by omega) (by omega)])
          (try rw [show IntKind.i64.wrap (xday + qds) = xday + qds from wrap64 (by omega) (by omega)])
          (try rw [show IntKind.i64.wrap (qlev + 1) = qlev + 1 from wrap64 (by omega) (by omega)])
          (try rw [show IntKind.i64.wrap (qlev - 1) = qlev - 1 from wrap64 (by omega) (by omega)])
          (try rw [show IntKind.i64.wrap (qrd + 1) = qrd + 1 from wrap64 (by omega) (by omega)])
          have hb : ∀ q : Ms, allB 4 q = decide (allP 4 q) := fun _ => rfl
          (try rw [hb])
          clear hb
          rw [if_neg (show ¬ (((4 : Int) = 2 ∨ (4 : Int) = 6) ∧ wvd ⟨qlv, qds, qrm, qcl, qlev, qst, qday, qdue, qrd, qw0, qw1, qaw⟩ ⟨4, xday, party, cents⟩ = true) from fun h => absurd h.1 (by decide))] at hE
          unfold allP at hE
          (try unfold allP)
          repeat' (split at hE)
          all_goals first
            | (rw [hN hE (by decide), hE]; clear hE hN hY; (repeat' (first | refine br_splitP (fun h => ?_) (fun h => ?_) | refine br_split (fun h => ?_) (fun h => ?_))); all_goals first | rfl | contradiction | (exfalso; omega) | (exfalso; (try simp only [true_and, and_true, true_or, or_true, not_tr, decide_eq_true_eq, Bool.and_eq_true, Bool.or_eq_true, beq_iff_eq, bne_iff_ne, ne_eq, inB_iff, stpB, allB] at *); (try simp only [allP, true_and, true_or, or_true, false_or] at *); omega) | (exfalso; simp_all; omega) | fail "LEAF")
            | (rw [hY hE, hE, doC_a _ _ (.inr rfl)]; clear hE hN hY; unfold dec; dsimp only; by_cases hl : qlev = qlv - 1
               · (rw [if_pos hl]; (repeat' (first | refine br_splitP (fun h => ?_) (fun h => ?_) | refine br_split (fun h => ?_) (fun h => ?_))); all_goals first | rfl | contradiction | (exfalso; omega) | (exfalso; (try simp only [true_and, and_true, true_or, or_true, not_tr, decide_eq_true_eq, Bool.and_eq_true, Bool.or_eq_true, beq_iff_eq, bne_iff_ne, ne_eq, inB_iff, stpB, allB] at *); (try simp only [allP, true_and, true_or, or_true, false_or] at *); omega) | (exfalso; simp_all; omega) | fail "LEAF")
               · (rw [if_neg hl]; (repeat' (first | refine br_splitP (fun h => ?_) (fun h => ?_) | refine br_split (fun h => ?_) (fun h => ?_))); all_goals first | rfl | contradiction | (exfalso; omega) | (exfalso; (try simp only [true_and, and_true, true_or, or_true, not_tr, decide_eq_true_eq, Bool.and_eq_true, Bool.or_eq_true, beq_iff_eq, bne_iff_ne, ne_eq, inB_iff, stpB, allB] at *); (try simp only [allP, true_and, true_or, or_true, false_or] at *); omega) | (exfalso; simp_all; omega) | fail "LEAF"))
        · rw [(ap_at hg hx ha).1, (ap_at hg hx ha).2, show (atE ⟨lv, ds_, rm, cl, lev, st, day, due, rd, w0, w1, aw⟩ xday != 0) = true by simpa using ha]
          simp only [stpP, true_and, true_or, or_true] at hx
          repeat' (first | refine br_splitP (fun h => ?_) (fun h => ?_) | refine br_split (fun h => ?_) (fun h => ?_))
          all_goals first | rfl | contradiction | (exfalso; omega) | (exfalso; (try simp only [true_and, and_true, true_or, or_true, not_tr, decide_eq_true_eq, Bool.and_eq_true, Bool.or_eq_true, beq_iff_eq, bne_iff_ne, ne_eq, inB_iff, stpB, allB] at *); (try simp only [allP, true_and, true_or, or_true, false_or] at *); omega) | (exfalso; simp_all; omega) | fail "LEAF"
      · (try rw [show stpB ⟨4, xday, party, cents⟩ = false from decide_eq_false hx])
        rw [(ap_bad (.inr hx)).1, (ap_bad (.inr hx)).2]
        simp only [stpP, true_and, true_or, or_true] at hx
        first
          | rfl
          | (cases h0 : (atE ⟨lv, ds_, rm, cl, lev, st, day, due, rd, w0, w1, aw⟩ xday != 0)
             · ((repeat' (first | refine br_splitP (fun h => ?_) (fun h => ?_) | refine br_split (fun h => ?_) (fun h => ?_)))
                all_goals first | rfl | contradiction | (exfalso; omega) | (exfalso; (try simp only [true_and, and_true, true_or, or_true, not_tr, decide_eq_true_eq, Bool.and_eq_true, Bool.or_eq_true, beq_iff_eq, bne_iff_ne, ne_eq, inB_iff, stpB, allB] at *); (try simp only [allP, true_and, true_or, or_true, false_or] at *); omega) | (exfalso; simp_all; omega) | fail "LEAF")
             · ((repeat' (first | refine br_splitP (fun h => ?_) (fun h => ?_) | refine br_split (fun h => ?_) (fun h => ?_)))
                all_goals first | rfl | contradiction | (exfalso; omega) | (exfalso; (try simp only [true_and, and_true, true_or, or_true, not_tr, decide_eq_true_eq, Bool.and_eq_true, Bool.or_eq_true, beq_iff_eq, bne_iff_ne, ne_eq, inB_iff, stpB, allB] at *); (try simp only [allP, true_and, true_or, or_true, false_or] at *); omega) | (exfalso; simp_all; omega) | fail "LEAF"))
    · rw [chk8 hg, (ap_bad (.inl hg)).1, (ap_bad (.inl hg)).2]
      rfl
  · cases h
set_option maxHeartbeats 4000000 in
theorem den_tap5 : Den Try.prog 21 (FapK 5) := evF_den C5_ok fun ds rs h => by
  unfold FapK at h
  split at h
  · rename_i lv ds_ rm cl lev st day due rd w0 w1 aw k xday party cents
    simp only [Option.some.injEq, Prod.mk.injEq, decide_eq_true_eq] at h
    obtain ⟨rfl, rfl⟩ := h
    refine (tap5 ⟨lv, ds_, rm, cl, lev, st, day, due, rd, w0, w1, aw⟩ xday party cents).trans ?_
    dsimp only
    by_cases hg : goodM ⟨lv, ds_, rm, cl, lev, st, day, due, rd, w0, w1, aw⟩
    · rw [chk0 hg]
      by_cases hx : stpP ⟨5, xday, party, cents⟩
      · (try rw [show stpB ⟨5, xday, party, cents⟩ = true from decide_eq_true hx])
        by_cases ha : atE ⟨lv, ds_, rm, cl, lev, st, day, due, rd, w0, w1, aw⟩ xday = 0
        · obtain ⟨_, f1, f2, f3, f4, f5, f6, f7⟩ := at_good ha
          have hE := ap_go hg hx ha
          have hN := @ap_no ⟨lv, ds_, rm, cl, lev, st, day, due, rd, w0, w1, aw⟩ ⟨5, xday, party, cents⟩
          have hY := @ap_yes ⟨lv, ds_, rm, cl, lev, st, day, due, rd, w0, w1, aw⟩ ⟨5, xday, party, cents⟩
          rw [ha]
          generalize apE ⟨lv, ds_, rm, cl, lev, st, day, due, rd, w0, w1, aw⟩ ⟨5, xday, party, cents⟩ = E at *
          generalize apC ⟨lv, ds_, rm, cl, lev, st, day, due, rd, w0, w1, aw⟩ ⟨5, xday, party, cents⟩ = R at *
          dsimp only at hE hN hY f1 f2 f3 f4 f5 f6 f7
          generalize atC ⟨lv, ds_, rm, cl, lev, st, day, due, rd, w0, w1, aw⟩ xday = q at *
          clear hg ha f2 f3 f4 f5
          obtain ⟨qlv, qds, qrm, qcl, qlev, qst, qday, qdue, qrd, qw0, qw1, qaw⟩ := q
          simp only [goodM] at f1
          obtain ⟨g1, g2, g3, g4, g5, g6, g7, g8, g9, g10, _, _⟩ := f1
          simp only [stpP, true_and, true_or, or_true] at hx
          dsimp only at hE hY f6 ⊢
          (try rw [show IntKind.i64.wrap (qlv - 1) = qlv - 1 from wrap64 (by omega) (by omega)])
          (try rw [show IntKind.i64.wrap (xday + qds) = xday + qds from wrap64 (by omega) (by omega)])
          (try rw [show IntKind.i64.wrap (qlev + 1) = qlev + 1 from wrap64 (by omega) (by omega)])
          (try rw [show IntKind.i64.wrap (qlev - 1) = qlev - 1 from wrap64 (by omega) (by omega)])
          (try rw [show IntKind.i64.wrap (qrd + 1) = qrd + 1 from wrap64 (by omega) (by omega)])
          have hb : ∀ q : Ms, allB 5 q = decide (allP 5 q) := fun _ => rfl
          (try rw [hb])
          clear hb
          rw [if_neg (show ¬ (((5 : Int) = 2 ∨ (5 : Int) = 6) ∧ wvd ⟨qlv, qds, qrm, qcl, qlev, qst, qday, qdue, qrd, qw0, qw1, qaw⟩ ⟨5, xday, party, cents⟩ = true) from fun h => absurd h.1 (by decide))] at hE
          unfold allP at hE
          (try unfold allP)
          repeat' (split at hE)
          all_goals first
            | (rw [hN hE (by decide), hE]; clear hE hN hY; (repeat' (first | refine br_splitP (fun h => ?_) (fun h => ?_) | refine br_split (fun h => ?_) (fun h => ?_))); all_goals first | rfl | contradiction | (exfalso; omega) | (exfalso; (try simp only [true_and, and_true, true_or, or_true, not_tr, decide_eq_true_eq, Bool.and_eq_true, Bool.or_eq_true, beq_iff_eq, bne_iff_ne, ne_eq, inB_iff, stpB, allB] at *); (try simp only [allP, true_and, true_or, or_true, false_or] at *); omega) | (exfalso; simp_all; omega) | fail "LEAF")
            | (rw [hY hE, hE, doC_5 _ _ rfl]; clear hE hN hY; (repeat' (first | refine br_splitP (fun h => ?_) (fun h => ?_) | refine br_split (fun h => ?_) (fun h => ?_))); all_goals first | rfl | contradiction | (exfalso; omega) | (exfalso; (try simp only [true_and, and_true, true_or, or_true, not_tr, decide_eq_true_eq, Bool.and_eq_true, Bool.or_eq_true, beq_iff_eq, bne_iff_ne, ne_eq, inB_iff, stpB, allB] at *); (try simp only [allP, true_and, true_or, or_true, false_or] at *); omega) | (exfalso; simp_all; omega) | fail "LEAF")
        · rw [(ap_at hg hx ha).1, (ap_at hg hx ha).2, show (atE ⟨lv, ds_, rm, cl, lev, st, day, due, rd, w0, w1, aw⟩ xday != 0) = true by simpa using ha]
          simp only [stpP, true_and, true_or, or_true] at hx
          repeat' (first | refine br_splitP (fun h => ?_) (fun h => ?_) | refine br_split (fun h => ?_) (fun h => ?_))
          all_goals first | rfl | contradiction | (exfalso; omega) | (exfalso; (try simp only [true_and, and_true, true_or, or_true, not_tr, decide_eq_true_eq, Bool.and_eq_true, Bool.or_eq_true, beq_iff_eq, bne_iff_ne, ne_eq, inB_iff, stpB, allB] at *); (try simp only [allP, true_and, true_or, or_true, false_or] at *); omega) | (exfalso; simp_all; omega) | fail "LEAF"
      · (try rw [show stpB ⟨5, xday, party, cents⟩ = false from decide_eq_false hx])
        rw [(ap_bad (.inr hx)).1, (ap_bad (.inr hx)).2]
        simp only [stpP, true_and, true_or, or_true] at hx
        first
          | rfl
          | (cases h0 : (atE ⟨lv, ds_, rm, cl, lev, st, day, due, rd, w0, w1, aw⟩ xday != 0)
             · ((repeat' (first | refine br_splitP (fun h => ?_) (fun h => ?_) | refine br_split (fun h => ?_) (fun h => ?_)))
                all_goals first | rfl | contradiction | (exfalso; omega) | (exfalso; (try simp only [true_and, and_true, true_or, or_true, not_tr, decide_eq_true_eq, Bool.and_eq_true, Bool.or_eq_true, beq_iff_eq, bne_iff_ne, ne_eq, inB_iff, stpB, allB] at *); (try simp only [allP, true_and, true_or, or_true, false_or] at *); omega) | (exfalso; simp_all; omega) | fail "LEAF")
             · ((repeat' (first | refine br_splitP (fun h => ?_) (fun h => ?_) | refine br_split (fun h => ?_) (fun h => ?_)))
                all_goals first | rfl | contradiction | (exfalso; omega) | (exfalso; (try simp only [true_and, and_true, true_or, or_true, not_tr, decide_eq_true_eq, Bool.and_eq_true, Bool.or_eq_true, beq_iff_eq, bne_iff_ne, ne_eq, inB_iff, stpB, allB] at *); (try simp only [allP, true_and, true_or, or_true, false_or] at *); omega) | (exfalso; simp_all; omega) | fail "LEAF"))
    · rw [chk8 hg, (ap_bad (.inl hg)).1, (ap_bad (.inl hg)).2]
      rfl
  · cases h
set_option maxHeartbeats 4000000 in
theorem den_tap6 : Den Try.prog 21 (FapK 6) := evF_den C5_ok fun ds rs h => by
  unfold FapK at h
  split at h
  · rename_i lv ds_ rm cl lev st day due rd w0 w1 aw k xday party cents
    simp only [Option.some.injEq, Prod.mk.injEq, decide_eq_true_eq] at h
    obtain ⟨rfl, rfl⟩ := h
    refine (tap6 ⟨lv, ds_, rm, cl, lev, st, day, due, rd, w0, w1, aw⟩ xday party cents).trans ?_
    dsimp only
    by_cases hg : goodM ⟨lv, ds_, rm, cl, lev, st, day, due, rd, w0, w1, aw⟩
    · rw [chk0 hg]
      by_cases hx : stpP ⟨6, xday, party, cents⟩
      · (try rw [show stpB ⟨6, xday, party, cents⟩ = true from decide_eq_true hx])
        by_cases ha : atE ⟨lv, ds_, rm, cl, lev, st, day, due, rd, w0, w1, aw⟩ xday = 0
        · obtain ⟨_, f1, f2, f3, f4, f5, f6, f7⟩ := at_good ha
          have hE := ap_go hg hx ha
          have hN := @ap_no ⟨lv, ds_, rm, cl, lev, st, day, due, rd, w0, w1, aw⟩ ⟨6, xday, party, cents⟩
          have hY := @ap_yes ⟨lv, ds_, rm, cl, lev, st, day, due, rd, w0, w1, aw⟩ ⟨6, xday, party, cents⟩
          rw [ha]
          generalize apE ⟨lv, ds_, rm, cl, lev, st, day, due, rd, w0, w1, aw⟩ ⟨6, xday, party, cents⟩ = E at *
          generalize apC ⟨lv, ds_, rm, cl, lev, st, day, due, rd, w0, w1, aw⟩ ⟨6, xday, party, cents⟩ = R at *
          dsimp only at hE hN hY f1 f2 f3 f4 f5 f6 f7
          generalize atC ⟨lv, ds_, rm, cl, lev, st, day, due, rd, w0, w1, aw⟩ xday = q at *
          clear hg ha f2 f3 f4 f5
          obtain ⟨qlv, qds, qrm, qcl, qlev, qst, qday, qdue, qrd, qw0, qw1, qaw⟩ := q
          simp only [goodM] at f1
          obtain ⟨g1, g2, g3, g4, g5, g6, g7, g8, g9, g10, _, _⟩ := f1
          simp only [stpP, true_and, true_or, or_true] at hx
          dsimp only at hE hY f6 ⊢
          (try rw [show IntKind.i64.wrap (qlv - 1) = qlv - 1 from wrap64 (by omega) (by omega)])
          (try rw [show IntKind.i64.wrap (xday + qds) = xday + qds from wrap64 (by omega) (by omega)])
          (try rw [show IntKind.i64.wrap (qlev + 1) = qlev + 1 from wrap64 (by omega) (by omega)])
          (try rw [show IntKind.i64.wrap (qlev - 1) = qlev - 1 from wrap64 (by omega) (by omega)])
          (try rw [show IntKind.i64.wrap (qrd + 1) = qrd + 1 from wrap64 (by omega) (by omega)])
          have hb : ∀ q : Ms, allB 6 q = decide (allP 6 q) := fun _ => rfl
          (try rw [hb])
          clear hb
          unfold allP wvd at hE
          (try unfold allP)
          cases qw0 <;> cases qw1 <;> (by_cases hp : party = 0)
          all_goals (simp [hp] at hE)
          all_goals (repeat' (split at hE))
          all_goals first
            | (rw [hN hE (by decide), hE]; clear hE hN hY; (repeat' (first | refine br_splitP (fun h => ?_) (fun h => ?_) | refine br_split (fun h => ?_) (fun h => ?_))); all_goals first | rfl | contradiction | (exfalso; omega) | (exfalso; (try simp only [true_and, and_true, true_or, or_true, not_tr, decide_eq_true_eq, Bool.and_eq_true, Bool.or_eq_true, beq_iff_eq, bne_iff_ne, ne_eq, inB_iff, stpB, allB] at *); (try simp only [allP, true_and, true_or, or_true, false_or] at *); omega) | (exfalso; simp_all; omega) | fail "LEAF")
            | (rw [hY hE, hE, doC_6 _ _ rfl]; clear hE hN hY; (try simp only [hp, if_true, if_false]); (repeat' (first | refine br_splitP (fun h => ?_) (fun h => ?_) | refine br_split (fun h => ?_) (fun h => ?_))); all_goals first | rfl | contradiction | (exfalso; omega) | (exfalso; (try simp only [true_and, and_true, true_or, or_true, not_tr, decide_eq_true_eq, Bool.and_eq_true, Bool.or_eq_true, beq_iff_eq, bne_iff_ne, ne_eq, inB_iff, stpB, allB] at *); (try simp only [allP, true_and, true_or, or_true, false_or] at *); omega) | (exfalso; simp_all; omega) | fail "LEAF")
        · rw [(ap_at hg hx ha).1, (ap_at hg hx ha).2, show (atE ⟨lv, ds_, rm, cl, lev, st, day, due, rd, w0, w1, aw⟩ xday != 0) = true by simpa using ha]
          simp only [stpP, true_and, true_or, or_true] at hx
          repeat' (first | refine br_splitP (fun h => ?_) (fun h => ?_) | refine br_split (fun h => ?_) (fun h => ?_))
          all_goals first | rfl | contradiction | (exfalso; omega) | (exfalso; (try simp only [true_and, and_true, true_or, or_true, not_tr, decide_eq_true_eq, Bool.and_eq_true, Bool.or_eq_true, beq_iff_eq, bne_iff_ne, ne_eq, inB_iff, stpB, allB] at *); (try simp only [allP, true_and, true_or, or_true, false_or] at *); omega) | (exfalso; simp_all; omega) | fail "LEAF"
      · (try rw [show stpB ⟨6, xday, party, cents⟩ = false from decide_eq_false hx])
        rw [(ap_bad (.inr hx)).1, (ap_bad (.inr hx)).2]
        simp only [stpP, true_and, true_or, or_true] at hx
        first
          | rfl
          | (cases h0 : (atE ⟨lv, ds_, rm, cl, lev, st, day, due, rd, w0, w1, aw⟩ xday != 0)
             · ((repeat' (first | refine br_splitP (fun h => ?_) (fun h => ?_) | refine br_split (fun h => ?_) (fun h => ?_)))
                all_goals first | rfl | contradiction | (exfalso; omega) | (exfalso; (try simp only [true_and, and_true, true_or, or_true, not_tr, decide_eq_true_eq, Bool.and_eq_true, Bool.or_eq_true, beq_iff_eq, bne_iff_ne, ne_eq, inB_iff, stpB, allB] at *); (try simp only [allP, true_and, true_or, or_true, false_or] at *); omega) | (exfalso; simp_all; omega) | fail "LEAF")
             · ((repeat' (first | refine br_splitP (fun h => ?_) (fun h => ?_) | refine br_split (fun h => ?_) (fun h => ?_)))
                all_goals first | rfl | contradiction | (exfalso; omega) | (exfalso; (try simp only [true_and, and_true, true_or, or_true, not_tr, decide_eq_true_eq, Bool.and_eq_true, Bool.or_eq_true, beq_iff_eq, bne_iff_ne, ne_eq, inB_iff, stpB, allB] at *); (try simp only [allP, true_and, true_or, or_true, false_or] at *); omega) | (exfalso; simp_all; omega) | fail "LEAF"))
    · rw [chk8 hg, (ap_bad (.inl hg)).1, (ap_bad (.inl hg)).2]
      rfl
  · cases h
theorem den_tapf : Den Try.prog 21 FapF := evF_den C5f_ok fun ds rs h => by
  unfold FapF at h
  split at h
  · rename_i lv ds_ rm cl lev st day due rd w0 w1 aw k xday party cents
    simp only [Option.some.injEq, Prod.mk.injEq, decide_eq_true_eq] at h
    obtain ⟨h2, rfl⟩ := h
    refine (tapf ⟨lv, ds_, rm, cl, lev, st, day, due, rd, w0, w1, aw⟩ k xday party cents).trans ?_
    dsimp only
    have hx : ¬ stpP ⟨k, xday, party, cents⟩ := by simp only [stpP]; omega
    rw [(ap_bad (.inr hx)).1, (ap_bad (.inr hx)).2]
    by_cases hg : goodM ⟨lv, ds_, rm, cl, lev, st, day, due, rd, w0, w1, aw⟩
    · rw [chk0 hg]
      (try rw [decide_eq_true h2])
      repeat' (first | refine br_splitP (fun h => ?_) (fun h => ?_) | refine br_split (fun h => ?_) (fun h => ?_))
      all_goals first | rfl | contradiction | (exfalso; omega) | (exfalso; (try simp only [true_and, and_true, true_or, or_true, not_tr, decide_eq_true_eq, Bool.and_eq_true, Bool.or_eq_true, beq_iff_eq, bne_iff_ne, ne_eq, inB_iff, stpB, allB] at *); (try simp only [allP, true_and, true_or, or_true, false_or] at *); omega) | (exfalso; simp_all; omega) | fail "LEAF"
    · rw [chk8 hg]
      rfl
  · cases h
theorem den_tap : Den Try.prog 21 Fap := Den.cover fun ds rs h => by
  unfold Fap at h
  split at h
  · rename_i lv ds_ rm cl lev st day due rd w0 w1 aw k xday party cents
    simp only [Option.some.injEq, Prod.mk.injEq] at h
    obtain ⟨_, rfl⟩ := h
    by_cases h2 : k < 1 ∨ k > 6
    · exact ⟨FapF, den_tapf, by unfold FapF; simp only [decide_eq_true h2]⟩
    · have h3 : k = 1 ∨ k = 2 ∨ k = 3 ∨ k = 4 ∨ k = 5 ∨ k = 6 := by omega
      rcases h3 with h3 | h3 | h3 | h3 | h3 | h3
      · exact ⟨FapK 1, den_tap1, by unfold FapK; simp only [decide_eq_true h3]⟩
      · exact ⟨FapK 2, den_tap2, by unfold FapK; simp only [decide_eq_true h3]⟩
      · exact ⟨FapK 3, den_tap3, by unfold FapK; simp only [decide_eq_true h3]⟩
      · exact ⟨FapK 4, den_tap4, by unfold FapK; simp only [decide_eq_true h3]⟩
      · exact ⟨FapK 5, den_tap5, by unfold FapK; simp only [decide_eq_true h3]⟩
      · exact ⟨FapK 6, den_tap6, by unfold FapK; simp only [decide_eq_true h3]⟩
  · cases h
set_option maxHeartbeats 4000000 in
theorem den_tar1 : Den Try.prog 22 (FapK 1) := evF_den C5_ok fun ds rs h => by
  unfold FapK at h
  split at h
  · rename_i lv ds_ rm cl lev st day due rd w0 w1 aw k xday party cents
    simp only [Option.some.injEq, Prod.mk.injEq, decide_eq_true_eq] at h
    obtain ⟨rfl, rfl⟩ := h
    refine (tar1 ⟨lv, ds_, rm, cl, lev, st, day, due, rd, w0, w1, aw⟩ xday party cents).trans ?_
    dsimp only
    by_cases hg : goodM ⟨lv, ds_, rm, cl, lev, st, day, due, rd, w0, w1, aw⟩
    · rw [chk0 hg]
      by_cases hx : stpP ⟨1, xday, party, cents⟩
      · (try rw [show stpB ⟨1, xday, party, cents⟩ = true from decide_eq_true hx])
        by_cases ha : atE ⟨lv, ds_, rm, cl, lev, st, day, due, rd, w0, w1, aw⟩ xday = 0
        · obtain ⟨_, f1, f2, f3, f4, f5, f6, f7⟩ := at_good ha
          have hE := ap_go hg hx ha
          have hN := @ap_no ⟨lv, ds_, rm, cl, lev, st, day, due, rd, w0, w1, aw⟩ ⟨1, xday, party, cents⟩
          have hY := @ap_yes ⟨lv, ds_, rm, cl, lev, st, day, due, rd, w0, w1, aw⟩ ⟨1, xday, party, cents⟩
          rw [ha]
          generalize apE ⟨lv, ds_, rm, cl, lev, st, day, due, rd, w0, w1, aw⟩ ⟨1, xday, party, cents⟩ = E at *
          generalize apC ⟨lv, ds_, rm, cl, lev, st, day, due, rd, w0, w1, aw⟩ ⟨1, xday, party, cents⟩ = R at *
          dsimp only at hE hN hY f1 f2 f3 f4 f5 f6 f7
          generalize atC ⟨lv, ds_, rm, cl, lev, st, day, due, rd, w0, w1, aw⟩ xday = q at *
          clear hg ha f2 f3 f4 f5
          obtain ⟨qlv, qds, qrm, qcl, qlev, qst, qday, qdue, qrd, qw0, qw1, qaw⟩ := q
          simp only [goodM] at f1
          obtain ⟨g1, g2, g3, g4, g5, g6, g7, g8, g9, g10, _, _⟩ := f1
          simp only [stpP, true_and, true_or, or_true] at hx
          dsimp only at hE hY f6 ⊢
          (try rw [show IntKind.i64.wrap (qlv - 1) = qlv - 1 from wrap64 (by omega) (by omega)])
          (try rw [show IntKind.i64.wrap (xday + qds) = xday + qds from wrap64 (by omega) (by omega)])
          (try rw [show IntKind.i64.wrap (qlev + 1) = qlev + 1 from wrap64 (by omega) (by omega)])
          (try rw [show IntKind.i64.wrap (qlev - 1) = qlev - 1 from wrap64 (by omega) (by omega)])
          (try rw [show IntKind.i64.wrap (qrd + 1) = qrd + 1 from wrap64 (by omega) (by omega)])
          have hb : ∀ q : Ms, allB 1 q = decide (allP 1 q) := fun _ => rfl
          (try rw [hb])
          clear hb
          rw [if_neg (show ¬ (((1 : Int) = 2 ∨ (1 : Int) = 6) ∧ wvd ⟨qlv, qds, qrm, qcl, qlev, qst, qday, qdue, qrd, qw0, qw1, qaw⟩ ⟨1, xday, party, cents⟩ = true) from fun h => absurd h.1 (by decide))] at hE
          unfold allP at hE
          (try unfold allP)
          repeat' (split at hE)
          all_goals first
            | (rw [hN hE (by decide), hE]; clear hE hN hY; (repeat' (first | refine br_splitP (fun h => ?_) (fun h => ?_) | refine br_split (fun h => ?_) (fun h => ?_))); all_goals first | rfl | contradiction | (exfalso; omega) | (exfalso; (try simp only [true_and, and_true, true_or, or_true, not_tr, decide_eq_true_eq, Bool.and_eq_true, Bool.or_eq_true, beq_iff_eq, bne_iff_ne, ne_eq, inB_iff, stpB, allB] at *); (try simp only [allP, true_and, true_or, or_true, false_or] at *); omega) | (exfalso; simp_all; omega) | fail "LEAF")
            | (rw [hY hE, hE, doC_a _ _ (.inl rfl)]; clear hE hN hY; unfold dec; dsimp only; by_cases hl : qlev = qlv - 1
               · (rw [if_pos hl]; (repeat' (first | refine br_splitP (fun h => ?_) (fun h => ?_) | refine br_split (fun h => ?_) (fun h => ?_))); all_goals first | rfl | contradiction | (exfalso; omega) | (exfalso; (try simp only [true_and, and_true, true_or, or_true, not_tr, decide_eq_true_eq, Bool.and_eq_true, Bool.or_eq_true, beq_iff_eq, bne_iff_ne, ne_eq, inB_iff, stpB, allB] at *); (try simp only [allP, true_and, true_or, or_true, false_or] at *); omega) | (exfalso; simp_all; omega) | fail "LEAF")
               · (rw [if_neg hl]; (repeat' (first | refine br_splitP (fun h => ?_) (fun h => ?_) | refine br_split (fun h => ?_) (fun h => ?_))); all_goals first | rfl | contradiction | (exfalso; omega) | (exfalso; (try simp only [true_and, and_true, true_or, or_true, not_tr, decide_eq_true_eq, Bool.and_eq_true, Bool.or_eq_true, beq_iff_eq, bne_iff_ne, ne_eq, inB_iff, stpB, allB] at *); (try simp only [allP, true_and, true_or, or_true, false_or] at *); omega) | (exfalso; simp_all; omega) | fail "LEAF"))
        · rw [(ap_at hg hx ha).1, (ap_at hg hx ha).2, show (atE ⟨lv, ds_, rm, cl, lev, st, day, due, rd, w0, w1, aw⟩ xday != 0) = true by simpa using ha]
          simp only [stpP, true_and, true_or, or_true] at hx
          repeat' (first | refine br_splitP (fun h => ?_) (fun h => ?_) | refine br_split (fun h => ?_) (fun h => ?_))
          all_goals first | rfl | contradiction | (exfalso; omega) | (exfalso; (try simp only [true_and, and_true, true_or, or_true, not_tr, decide_eq_true_eq, Bool.and_eq_true, Bool.or_eq_true, beq_iff_eq, bne_iff_ne, ne_eq, inB_iff, stpB, allB] at *); (try simp only [allP, true_and, true_or, or_true, false_or] at *); omega) | (exfalso; simp_all; omega) | fail "LEAF"
      · (try rw [show stpB ⟨1, xday, party, cents⟩ = false from decide_eq_false hx])
        rw [(ap_bad (.inr hx)).1, (ap_bad (.inr hx)).2]
        simp only [stpP, true_and, true_or, or_true] at hx
        first
          | rfl
          | (cases h0 : (atE ⟨lv, ds_, rm, cl, lev, st, day, due, rd, w0, w1, aw⟩ xday != 0)
             · ((repeat' (first | refine br_splitP (fun h => ?_) (fun h => ?_) | refine br_split (fun h => ?_) (fun h => ?_)))
                all_goals first | rfl | contradiction | (exfalso; omega) | (exfalso; (try simp only [true_and, and_true, true_or, or_true, not_tr, decide_eq_true_eq, Bool.and_eq_true, Bool.or_eq_true, beq_iff_eq, bne_iff_ne, ne_eq, inB_iff, stpB, allB] at *); (try simp only [allP, true_and, true_or, or_true, false_or] at *); omega) | (exfalso; simp_all; omega) | fail "LEAF")
             · ((repeat' (first | refine br_splitP (fun h => ?_) (fun h => ?_) | refine br_split (fun h => ?_) (fun h => ?_)))
                all_goals first | rfl | contradiction | (exfalso; omega) | (exfalso; (try simp only [true_and, and_true, true_or, or_true, not_tr, decide_eq_true_eq, Bool.and_eq_true, Bool.or_eq_true, beq_iff_eq, bne_iff_ne, ne_eq, inB_iff, stpB, allB] at *); (try simp only [allP, true_and, true_or, or_true, false_or] at *); omega) | (exfalso; simp_all; omega) | fail "LEAF"))
    · rw [chk8 hg, (ap_bad (.inl hg)).1, (ap_bad (.inl hg)).2]
      rfl
  · cases h
set_option maxHeartbeats 4000000 in
theorem den_tar2 : Den Try.prog 22 (FapK 2) := evF_den C5_ok fun ds rs h => by
  unfold FapK at h
  split at h
  · rename_i lv ds_ rm cl lev st day due rd w0 w1 aw k xday party cents
    simp only [Option.some.injEq, Prod.mk.injEq, decide_eq_true_eq] at h
    obtain ⟨rfl, rfl⟩ := h
    refine (tar2 ⟨lv, ds_, rm, cl, lev, st, day, due, rd, w0, w1, aw⟩ xday party cents).trans ?_
    dsimp only
    by_cases hg : goodM ⟨lv, ds_, rm, cl, lev, st, day, due, rd, w0, w1, aw⟩
    · rw [chk0 hg]
      by_cases hx : stpP ⟨2, xday, party, cents⟩
      · (try rw [show stpB ⟨2, xday, party, cents⟩ = true from decide_eq_true hx])
        by_cases ha : atE ⟨lv, ds_, rm, cl, lev, st, day, due, rd, w0, w1, aw⟩ xday = 0
        · obtain ⟨_, f1, f2, f3, f4, f5, f6, f7⟩ := at_good ha
          have hE := ap_go hg hx ha
          have hN := @ap_no ⟨lv, ds_, rm, cl, lev, st, day, due, rd, w0, w1, aw⟩ ⟨2, xday, party, cents⟩
          have hY := @ap_yes ⟨lv, ds_, rm, cl, lev, st, day, due, rd, w0, w1, aw⟩ ⟨2, xday, party, cents⟩
          rw [ha]
          generalize apE ⟨lv, ds_, rm, cl, lev, st, day, due, rd, w0, w1, aw⟩ ⟨2, xday, party, cents⟩ = E at *
          generalize apC ⟨lv, ds_, rm, cl, lev, st, day, due, rd, w0, w1, aw⟩ ⟨2, xday, party, cents⟩ = R at *
          dsimp only at hE hN hY f1 f2 f3 f4 f5 f6 f7
          generalize atC ⟨lv, ds_, rm, cl, lev, st, day, due, rd, w0, w1, aw⟩ xday = q at *
          clear hg ha f2 f3 f4 f5
          obtain ⟨qlv, qds, qrm, qcl, qlev, qst, qday, qdue, qrd, qw0, qw1, qaw⟩ := q
          simp only [goodM] at f1
          obtain ⟨g1, g2, g3, g4, g5, g6, g7, g8, g9, g10, _, _⟩ := f1
          simp only [stpP, true_and, true_or, or_true] at hx
          dsimp only at hE hY f6 ⊢
          (try rw [show IntKind.i64.wrap (qlv - 1) = qlv - 1 from wrap64 (by omega) (by omega)])
          (try rw [show IntKind.i64.wrap (xday + qds) = xday + qds from wrap64 (by omega) (by omega)])
          (try rw [show IntKind.i64.wrap (qlev + 1) = qlev + 1 from wrap64 (by omega) (by omega)])
          (try rw [show IntKind.i64.wrap (qlev - 1) = qlev - 1 from wrap64 (by omega) (by omega)])
          (try rw [show IntKind.i64.wrap (qrd + 1) = qrd + 1 from wrap64 (by omega) (by omega)])
          have hb : ∀ q : Ms, allB 2 q = decide (allP 2 q) := fun _ => rfl
          (try rw [hb])
          clear hb
          unfold allP wvd at hE
          (try unfold allP)
          cases qw0 <;> cases qw1 <;> (by_cases hp : party = 0)
          all_goals (simp [hp] at hE)
          all_goals (repeat' (split at hE))
          all_goals first
            | (rw [hN hE (by decide), hE]; clear hE hN hY; (repeat' (first | refine br_splitP (fun h => ?_) (fun h => ?_) | refine br_split (fun h => ?_) (fun h => ?_))); all_goals first | rfl | contradiction | (exfalso; omega) | (exfalso; (try simp only [true_and, and_true, true_or, or_true, not_tr, decide_eq_true_eq, Bool.and_eq_true, Bool.or_eq_true, beq_iff_eq, bne_iff_ne, ne_eq, inB_iff, stpB, allB] at *); (try simp only [allP, true_and, true_or, or_true, false_or] at *); omega) | (exfalso; simp_all; omega) | fail "LEAF")
            | (rw [hY hE, hE, doC_2 _ _ rfl]; clear hE hN hY; (try simp only [hp, if_true, if_false]); (repeat' (first | refine br_splitP (fun h => ?_) (fun h => ?_) | refine br_split (fun h => ?_) (fun h => ?_))); all_goals first | rfl | contradiction | (exfalso; omega) | (exfalso; (try simp only [true_and, and_true, true_or, or_true, not_tr, decide_eq_true_eq, Bool.and_eq_true, Bool.or_eq_true, beq_iff_eq, bne_iff_ne, ne_eq, inB_iff, stpB, allB] at *); (try simp only [allP, true_and, true_or, or_true, false_or] at *); omega) | (exfalso; simp_all; omega) | fail "LEAF")
        · rw [(ap_at hg hx ha).1, (ap_at hg hx ha).2, show (atE ⟨lv, ds_, rm, cl, lev, st, day, due, rd, w0, w1, aw⟩ xday != 0) = true by simpa using ha]
          simp only [stpP, true_and, true_or, or_true] at hx
          repeat' (first | refine br_splitP (fun h => ?_) (fun h => ?_) | refine br_split (fun h => ?_) (fun h => ?_))
          all_goals first | rfl | contradiction | (exfalso; omega) | (exfalso; (try simp only [true_and, and_true, true_or, or_true, not_tr, decide_eq_true_eq, Bool.and_eq_true, Bool.or_eq_true, beq_iff_eq, bne_iff_ne, ne_eq, inB_iff, stpB, allB] at *); (try simp only [allP, true_and, true_or, or_true, false_or] at *); omega) | (exfalso; simp_all; omega) | fail "LEAF"
      · (try rw [show stpB ⟨2, xday, party, cents⟩ = false from decide_eq_false hx])
        rw [(ap_bad (.inr hx)).1, (ap_bad (.inr hx)).2]
        simp only [stpP, true_and, true_or, or_true] at hx
        first
          | rfl
          | (cases h0 : (atE ⟨lv, ds_, rm, cl, lev, st, day, due, rd, w0, w1, aw⟩ xday != 0)
             · ((repeat' (first | refine br_splitP (fun h => ?_) (fun h => ?_) | refine br_split (fun h => ?_) (fun h => ?_)))
                all_goals first | rfl | contradiction | (exfalso; omega) | (exfalso; (try simp only [true_and, and_true, true_or, or_true, not_tr, decide_eq_true_eq, Bool.and_eq_true, Bool.or_eq_true, beq_iff_eq, bne_iff_ne, ne_eq, inB_iff, stpB, allB] at *); (try simp only [allP, true_and, true_or, or_true, false_or] at *); omega) | (exfalso; simp_all; omega) | fail "LEAF")
             · ((repeat' (first | refine br_splitP (fun h => ?_) (fun h => ?_) | refine br_split (fun h => ?_) (fun h => ?_)))
                all_goals first | rfl | contradiction | (exfalso; omega) | (exfalso; (try simp only [true_and, and_true, true_or, or_true, not_tr, decide_eq_true_eq, Bool.and_eq_true, Bool.or_eq_true, beq_iff_eq, bne_iff_ne, ne_eq, inB_iff, stpB, allB] at *); (try simp only [allP, true_and, true_or, or_true, false_or] at *); omega) | (exfalso; simp_all; omega) | fail "LEAF"))
    · rw [chk8 hg, (ap_bad (.inl hg)).1, (ap_bad (.inl hg)).2]
      rfl
  · cases h
set_option maxHeartbeats 4000000 in
theorem den_tar3 : Den Try.prog 22 (FapK 3) := evF_den C5_ok fun ds rs h => by
  unfold FapK at h
  split at h
  · rename_i lv ds_ rm cl lev st day due rd w0 w1 aw k xday party cents
    simp only [Option.some.injEq, Prod.mk.injEq, decide_eq_true_eq] at h
    obtain ⟨rfl, rfl⟩ := h
    refine (tar3 ⟨lv, ds_, rm, cl, lev, st, day, due, rd, w0, w1, aw⟩ xday party cents).trans ?_
    dsimp only
    by_cases hg : goodM ⟨lv, ds_, rm, cl, lev, st, day, due, rd, w0, w1, aw⟩
    · rw [chk0 hg]
      by_cases hx : stpP ⟨3, xday, party, cents⟩
      · (try rw [show stpB ⟨3, xday, party, cents⟩ = true from decide_eq_true hx])
        by_cases ha : atE ⟨lv, ds_, rm, cl, lev, st, day, due, rd, w0, w1, aw⟩ xday = 0
        · obtain ⟨_, f1, f2, f3, f4, f5, f6, f7⟩ := at_good ha
          have hE := ap_go hg hx ha
          have hN := @ap_no ⟨lv, ds_, rm, cl, lev, st, day, due, rd, w0, w1, aw⟩ ⟨3, xday, party, cents⟩
          have hY := @ap_yes ⟨lv, ds_, rm, cl, lev, st, day, due, rd, w0, w1, aw⟩ ⟨3, xday, party, cents⟩
          rw [ha]
          generalize apE ⟨lv, ds_, rm, cl, lev, st, day, due, rd, w0, w1, aw⟩ ⟨3, xday, party, cents⟩ = E at *
          generalize apC ⟨lv, ds_, rm, cl, lev, st, day, due, rd, w0, w1, aw⟩ ⟨3, xday, party, cents⟩ = R at *
          dsimp only at hE hN hY f1 f2 f3 f4 f5 f6 f7
          generalize atC ⟨lv, ds_, rm, cl, lev, st, day, due, rd, w0, w1, aw⟩ xday = q at *
          clear hg ha f2 f3 f4 f5
          obtain ⟨qlv, qds, qrm, qcl, qlev, qst, qday, qdue, qrd, qw0, qw1, qaw⟩ := q
          simp only [goodM] at f1
          obtain ⟨g1, g2, g3, g4, g5, g6, g7, g8, g9, g10, _, _⟩ := f1
          simp only [stpP, true_and, true_or, or_true] at hx
          dsimp only at hE hY f6 ⊢
          (try rw [show IntKind.i64.wrap (qlv - 1) = qlv - 1 from wrap64 (by omega) (by omega)])
          (try rw [show IntKind.i64.wrap (xday + qds) = xday + qds from wrap64 (by omega) (by omega)])
          (try rw [show IntKind.i64.wrap (qlev + 1) = qlev + 1 from wrap64 (by omega) (by omega)])
          (try rw [show IntKind.i64.wrap (qlev - 1) = qlev - 1 from wrap64 (by omega) (by omega)])
          (try rw [show IntKind.i64.wrap (qrd + 1) = qrd + 1 from wrap64 (by omega) (by omega)])
          have hb : ∀ q : Ms, allB 3 q = decide (allP 3 q) := fun _ => rfl
          (try rw [hb])
          clear hb
          rw [if_neg (show ¬ (((3 : Int) = 2 ∨ (3 : Int) = 6) ∧ wvd ⟨qlv, qds, qrm, qcl, qlev, qst, qday, qdue, qrd, qw0, qw1, qaw⟩ ⟨3, xday, party, cents⟩ = true) from fun h => absurd h.1 (by decide))] at hE
          unfold allP at hE
          (try unfold allP)
          repeat' (split at hE)
          all_goals first
            | (rw [hN hE (by decide), hE]; clear hE hN hY; (repeat' (first | refine br_splitP (fun h => ?_) (fun h => ?_) | refine br_split (fun h => ?_) (fun h => ?_))); all_goals first | rfl | contradiction | (exfalso; omega) | (exfalso; (try simp only [true_and, and_true, true_or, or_true, not_tr, decide_eq_true_eq, Bool.and_eq_true, Bool.or_eq_true, beq_iff_eq, bne_iff_ne, ne_eq, inB_iff, stpB, allB] at *); (try simp only [allP, true_and, true_or, or_true, false_or] at *); omega) | (exfalso; simp_all; omega) | fail "LEAF")
            | (rw [hY hE, hE, doC_3 _ _ rfl]; clear hE hN hY; unfold dec; dsimp only; by_cases hl : qlev = qlv - 1
               · (rw [if_pos hl]; (repeat' (first | refine br_splitP (fun h => ?_) (fun h => ?_) | refine br_split (fun h => ?_) (fun h => ?_))); all_goals first | rfl | contradiction | (exfalso; omega) | (exfalso; (try simp only [true_and, and_true, true_or, or_true, not_tr, decide_eq_true_eq, Bool.and_eq_true, Bool.or_eq_true, beq_iff_eq, bne_iff_ne, ne_eq, inB_iff, stpB, allB] at *); (try simp only [allP, true_and, true_or, or_true, false_or] at *); omega) | (exfalso; simp_all; omega) | fail "LEAF")
               · (rw [if_neg hl]; (repeat' (first | refine br_splitP (fun h => ?_) (fun h => ?_) | refine br_split (fun h => ?_) (fun h => ?_))); all_goals first | rfl | contradiction | (exfalso; omega) | (exfalso; (try simp only [true_and, and_true, true_or, or_true, not_tr, decide_eq_true_eq, Bool.and_eq_true, Bool.or_eq_true, beq_iff_eq, bne_iff_ne, ne_eq, inB_iff, stpB, allB] at *); (try simp only [allP, true_and, true_or, or_true, false_or] at *); omega) | (exfalso; simp_all; omega) | fail "LEAF"))
        · rw [(ap_at hg hx ha).1, (ap_at hg hx ha).2, show (atE ⟨lv, ds_, rm, cl, lev, st, day, due, rd, w0, w1, aw⟩ xday != 0) = true by simpa using ha]
          simp only [stpP, true_and, true_or, or_true] at hx
          repeat' (first | refine br_splitP (fun h => ?_) (fun h => ?_) | refine br_split (fun h => ?_) (fun h => ?_))
          all_goals first | rfl | contradiction | (exfalso; omega) | (exfalso; (try simp only [true_and, and_true, true_or, or_true, not_tr, decide_eq_true_eq, Bool.and_eq_true, Bool.or_eq_true, beq_iff_eq, bne_iff_ne, ne_eq, inB_iff, stpB, allB] at *); (try simp only [allP, true_and, true_or, or_true, false_or] at *); omega) | (exfalso; simp_all; omega) | fail "LEAF"
      · (try rw [show stpB ⟨3, xday, party, cents⟩ = false from decide_eq_false hx])
        rw [(ap_bad (.inr hx)).1, (ap_bad (.inr hx)).2]
        simp only [stpP, true_and, true_or, or_true] at hx
        first
          | rfl
          | (cases h0 : (atE ⟨lv, ds_, rm, cl, lev, st, day, due, rd, w0, w1, aw⟩ xday != 0)
             · ((repeat' (first | refine br_splitP (fun h => ?_) (fun h => ?_) | refine br_split (fun h => ?_) (fun h => ?_)))
                all_goals first | rfl | contradiction | (exfalso; omega) | (exfalso; (try simp only [true_and, and_true, true_or, or_true, not_tr, decide_eq_true_eq, Bool.and_eq_true, Bool.or_eq_true, beq_iff_eq, bne_iff_ne, ne_eq, inB_iff, stpB, allB] at *); (try simp only [allP, true_and, true_or, or_true, false_or] at *); omega) | (exfalso; simp_all; omega) | fail "LEAF")
             · ((repeat' (first | refine br_splitP (fun h => ?_) (fun h => ?_) | refine br_split (fun h => ?_) (fun h => ?_)))
                all_goals first | rfl | contradiction | (exfalso; omega) | (exfalso; (try simp only [true_and, and_true, true_or, or_true, not_tr, decide_eq_true_eq, Bool.and_eq_true, Bool.or_eq_true, beq_iff_eq, bne_iff_ne, ne_eq, inB_iff, stpB, allB] at *); (try simp only [allP, true_and, true_or, or_true, false_or] at *); omega) | (exfalso; simp_all; omega) | fail "LEAF"))
    · rw [chk8 hg, (ap_bad (.inl hg)).1, (ap_bad (.inl hg)).2]
      rfl
  · cases h
set_option maxHeartbeats 4000000 in
theorem den_tar4 : Den Try.prog 22 (FapK 4) := evF_den C5_ok fun ds rs h => by
  unfold FapK at h
  split at h
  · rename_i lv ds_ rm cl lev st day due rd w0 w1 aw k xday party cents
    simp only [Option.some.injEq, Prod.mk.injEq, decide_eq_true_eq] at h
    obtain ⟨rfl, rfl⟩ := h
    refine (tar4 ⟨lv, ds_, rm, cl, lev, st, day, due, rd, w0, w1, aw⟩ xday party cents).trans ?_
    dsimp only
    by_cases hg : goodM ⟨lv, ds_, rm, cl, lev, st, day, due, rd, w0, w1, aw⟩
    · rw [chk0 hg]
      by_cases hx : stpP ⟨4, xday, party, cents⟩
      · (try rw [show stpB ⟨4, xday, party, cents⟩ = true from decide_eq_true hx])
        by_cases ha : atE ⟨lv, ds_, rm, cl, lev, st, day, due, rd, w0, w1, aw⟩ xday = 0
        · obtain ⟨_, f1, f2, f3, f4, f5, f6, f7⟩ := at_good ha
          have hE := ap_go hg hx ha
          have hN := @ap_no ⟨lv, ds_, rm, cl, lev, st, day, due, rd, w0, w1, aw⟩ ⟨4, xday, party, cents⟩
          have hY := @ap_yes ⟨lv, ds_, rm, cl, lev, st, day, due, rd, w0, w1, aw⟩ ⟨4, xday, party, cents⟩
          rw [ha]
          generalize apE ⟨lv, ds_, rm, cl, lev, st, day, due, rd, w0, w1, aw⟩ ⟨4, xday, party, cents⟩ = E at *
          generalize apC ⟨lv, ds_, rm, cl, lev, st, day, due, rd, w0, w1, aw⟩ ⟨4, xday, party, cents⟩ = R at *
          dsimp only at hE hN hY f1 f2 f3 f4 f5 f6 f7
          generalize atC ⟨lv, ds_, rm, cl, lev, st, day, due, rd, w0, w1, aw⟩ xday = q at *
          clear hg ha f2 f3 f4 f5
          obtain ⟨qlv, qds, qrm, qcl, qlev, qst, qday, qdue, qrd, qw0, qw1, qaw⟩ := q
          simp only [goodM] at f1
          obtain ⟨g1, g2, g3, g4, g5, g6, g7, g8, g9, g10, _, _⟩ := f1
          simp only [stpP, true_and, true_or, or_true] at hx
          dsimp only at hE hY f6 ⊢
          (try rw [show IntKind.i64.wrap (qlv - 1) = qlv - 1 from wrap64 (by omega) (by omega)])
          (try rw [show IntKind.i64.wrap (xday + qds) = xday + qds from wrap64 (by omega) (by omega)])
          (try rw [show IntKind.i64.wrap (qlev + 1) = qlev + 1 from wrap64 (by omega) (by omega)])
          (try rw [show IntKind.i64.wrap (qlev - 1) = qlev - 1 from wrap64 (by omega) (by omega)])
          (try rw [show IntKind.i64.wrap (qrd + 1) = qrd + 1 from wrap64 (by omega) (by omega)])
          have hb : ∀ q : Ms, allB 4 q = decide (allP 4 q) := fun _ => rfl
          (try rw [hb])
          clear hb
          rw [if_neg (show ¬ (((4 : Int) = 2 ∨ (4 : Int) = 6) ∧ wvd ⟨qlv, qds, qrm, qcl, qlev, qst, qday, qdue, qrd, qw0, qw1, qaw⟩ ⟨4, xday, party, cents⟩ = true) from fun h => absurd h.1 (by decide))] at hE
          unfold allP at hE
          (try unfold allP)
          repeat' (split at hE)
          all_goals first
            | (rw [hN hE (by decide), hE]; clear hE hN hY; (repeat' (first | refine br_splitP (fun h => ?_) (fun h => ?_) | refine br_split (fun h => ?_) (fun h => ?_))); all_goals first | rfl | contradiction | (exfalso; omega) | (exfalso; (try simp only [true_and, and_true, true_or, or_true, not_tr, decide_eq_true_eq, Bool.and_eq_true, Bool.or_eq_true, beq_iff_eq, bne_iff_ne, ne_eq, inB_iff, stpB, allB] at *); (try simp only [allP, true_and, true_or, or_true, false_or] at *); omega) | (exfalso; simp_all; omega) | fail "LEAF")
            | (rw [hY hE, hE, doC_a _ _ (.inr rfl)]; clear hE hN hY; unfold dec; dsimp only; by_cases hl : qlev = qlv - 1
               · (rw [if_pos hl]; (repeat' (first | refine br_splitP (fun h => ?_) (fun h => ?_) | refine br_split (fun h => ?_) (fun h => ?_))); all_goals first | rfl | contradiction | (exfalso; omega) | (exfalso; (try simp only [true_and, and_true, true_or, or_true, not_tr, decide_eq_true_eq, Bool.and_eq_true, Bool.or_eq_true, beq_iff_eq, bne_iff_ne, ne_eq, inB_iff, stpB, allB] at *); (try simp only [allP, true_and, true_or, or_true, false_or] at *); omega) | (exfalso; simp_all; omega) | fail "LEAF")
               · (rw [if_neg hl]; (repeat' (first | refine br_splitP (fun h => ?_) (fun h => ?_) | refine br_split (fun h => ?_) (fun h => ?_))); all_goals first | rfl | contradiction | (exfalso; omega) | (exfalso; (try simp only [true_and, and_true, true_or, or_true, not_tr, decide_eq_true_eq, Bool.and_eq_true, Bool.or_eq_true, beq_iff_eq, bne_iff_ne, ne_eq, inB_iff, stpB, allB] at *); (try simp only [allP, true_and, true_or, or_true, false_or] at *); omega) | (exfalso; simp_all; omega) | fail "LEAF"))
        · rw [(ap_at hg hx ha).1, (ap_at hg hx ha).2, show (atE ⟨lv, ds_, rm, cl, lev, st, day, due, rd, w0, w1, aw⟩ xday != 0) = true by simpa using ha]
          simp only [stpP, true_and, true_or, or_true] at hx
          repeat' (first | refine br_splitP (fun h => ?_) (fun h => ?_) | refine br_split (fun h => ?_) (fun h => ?_))
          all_goals first | rfl | contradiction | (exfalso; omega) | (exfalso; (try simp only [true_and, and_true, true_or, or_true, not_tr, decide_eq_true_eq, Bool.and_eq_true, Bool.or_eq_true, beq_iff_eq, bne_iff_ne, ne_eq, inB_iff, stpB, allB] at *); (try simp only [allP, true_and, true_or, or_true, false_or] at *); omega) | (exfalso; simp_all; omega) | fail "LEAF"
      · (try rw [show stpB ⟨4, xday, party, cents⟩ = false from decide_eq_false hx])
        rw [(ap_bad (.inr hx)).1, (ap_bad (.inr hx)).2]
        simp only [stpP, true_and, true_or, or_true] at hx
        first
          | rfl
          | (cases h0 : (atE ⟨lv, ds_, rm, cl, lev, st, day, due, rd, w0, w1, aw⟩ xday != 0)
             · ((repeat' (first | refine br_splitP (fun h => ?_) (fun h => ?_) | refine br_split (fun h => ?_) (fun h => ?_)))
                all_goals first | rfl | contradiction | (exfalso; omega) | (exfalso; (try simp only [true_and, and_true, true_or, or_true, not_tr, decide_eq_true_eq, Bool.and_eq_true, Bool.or_eq_true, beq_iff_eq, bne_iff_ne, ne_eq, inB_iff, stpB, allB] at *); (try simp only [allP, true_and, true_or, or_true, false_or] at *); omega) | (exfalso; simp_all; omega) | fail "LEAF")
             · ((repeat' (first | refine br_splitP (fun h => ?_) (fun h => ?_) | refine br_split (fun h => ?_) (fun h => ?_)))
                all_goals first | rfl | contradiction | (exfalso; omega) | (exfalso; (try simp only [true_and, and_true, true_or, or_true, not_tr, decide_eq_true_eq, Bool.and_eq_true, Bool.or_eq_true, beq_iff_eq, bne_iff_ne, ne_eq, inB_iff, stpB, allB] at *); (try simp only [allP, true_and, true_or, or_true, false_or] at *); omega) | (exfalso; simp_all; omega) | fail "LEAF"))
    · rw [chk8 hg, (ap_bad (.inl hg)).1, (ap_bad (.inl hg)).2]
      rfl
  · cases h
set_option maxHeartbeats 4000000 in
theorem den_tar5 : Den Try.prog 22 (FapK 5) := evF_den C5_ok fun ds rs h => by
  unfold FapK at h
  split at h
  · rename_i lv ds_ rm cl lev st day due rd w0 w1 aw k xday party cents
    simp only [Option.some.injEq, Prod.mk.injEq, decide_eq_true_eq] at h
    obtain ⟨rfl, rfl⟩ := h
    refine (tar5 ⟨lv, ds_, rm, cl, lev, st, day, due, rd, w0, w1, aw⟩ xday party cents).trans ?_
    dsimp only
    by_cases hg : goodM ⟨lv, ds_, rm, cl, lev, st, day, due, rd, w0, w1, aw⟩
    · rw [chk0 hg]
      by_cases hx : stpP ⟨5, xday, party, cents⟩
      · (try rw [show stpB ⟨5, xday, party, cents⟩ = true from decide_eq_true hx])
        by_cases ha : atE ⟨lv, ds_, rm, cl, lev, st, day, due, rd, w0, w1, aw⟩ xday = 0
        · obtain ⟨_, f1, f2, f3, f4, f5, f6, f7⟩ := at_good ha
          have hE := ap_go hg hx ha
          have hN := @ap_no ⟨lv, ds_, rm, cl, lev, st, day, due, rd, w0, w1, aw⟩ ⟨5, xday, party, cents⟩
          have hY := @ap_yes ⟨lv, ds_, rm, cl, lev, st, day, due, rd, w0, w1, aw⟩ ⟨5, xday, party, cents⟩
          rw [ha]
          generalize apE ⟨lv, ds_, rm, cl, lev, st, day, due, rd, w0, w1, aw⟩ ⟨5, xday, party, cents⟩ = E at *
          generalize apC ⟨lv, ds_, rm, cl, lev, st, day, due, rd, w0, w1, aw⟩ ⟨5, xday, party, cents⟩ = R at *
          dsimp only at hE hN hY f1 f2 f3 f4 f5 f6 f7
          generalize atC ⟨lv, ds_, rm, cl, lev, st, day, due, rd, w0, w1, aw⟩ xday = q at *
          clear hg ha f2 f3 f4 f5
          obtain ⟨qlv, qds, qrm, qcl, qlev, qst, qday, qdue, qrd, qw0, qw1, qaw⟩ := q
          simp only [goodM] at f1
          obtain ⟨g1, g2, g3, g4, g5, g6, g7, g8, g9, g10, _, _⟩ := f1
          simp only [stpP, true_and, true_or, or_true] at hx
          dsimp only at hE hY f6 ⊢
          (try rw [show IntKind.i64.wrap (qlv - 1) = qlv - 1 from wrap64 (by omega) (by omega)])
          (try rw [show IntKind.i64.wrap (xday + qds) = xday + qds from wrap64 (by omega) (by omega)])
          (try rw [show IntKind.i64.wrap (qlev + 1) = qlev + 1 from wrap64 (by omega) (by omega)])
          (try rw [show IntKind.i64.wrap (qlev - 1) = qlev - 1 from wrap64 (by omega) (by omega)])
          (try rw [show IntKind.i64.wrap (qrd + 1) = qrd + 1 from wrap64 (by omega) (by omega)])
          have hb : ∀ q : Ms, allB 5 q = decide (allP 5 q) := fun _ => rfl
          (try rw [hb])
          clear hb
          rw [if_neg (show ¬ (((5 : Int) = 2 ∨ (5 : Int) = 6) ∧ wvd ⟨qlv, qds, qrm, qcl, qlev, qst, qday, qdue, qrd, qw0, qw1, qaw⟩ ⟨5, xday, party, cents⟩ = true) from fun h => absurd h.1 (by decide))] at hE
          unfold allP at hE
          (try unfold allP)
          repeat' (split at hE)
          all_goals first
            | (rw [hN hE (by decide), hE]; clear hE hN hY; (repeat' (first | refine br_splitP (fun h => ?_) (fun h => ?_) | refine br_split (fun h => ?_) (fun h => ?_))); all_goals first | rfl | contradiction | (exfalso; omega) | (exfalso; (try simp only [true_and, and_true, true_or, or_true, not_tr, decide_eq_true_eq, Bool.and_eq_true, Bool.or_eq_true, beq_iff_eq, bne_iff_ne, ne_eq, inB_iff, stpB, allB] at *); (try simp only [allP, true_and, true_or, or_true, false_or] at *); omega) | (exfalso; simp_all; omega) | fail "LEAF")
            | (rw [hY hE, hE, doC_5 _ _ rfl]; clear hE hN hY; (repeat' (first | refine br_splitP (fun h => ?_) (fun h => ?_) | refine br_split (fun h => ?_) (fun h => ?_))); all_goals first | rfl | contradiction | (exfalso; omega) | (exfalso; (try simp only [true_and, and_true, true_or, or_true, not_tr, decide_eq_true_eq, Bool.and_eq_true, Bool.or_eq_true, beq_iff_eq, bne_iff_ne, ne_eq, inB_iff, stpB, allB] at *); (try simp only [allP, true_and, true_or, or_true, false_or] at *); omega) | (exfalso; simp_all; omega) | fail "LEAF")
        · rw [(ap_at hg hx ha).1, (ap_at hg hx ha).2, show (atE ⟨lv, ds_, rm, cl, lev, st, day, due, rd, w0, w1, aw⟩ xday != 0) = true by simpa using ha]
          simp only [stpP, true_and, true_or, or_true] at hx
          repeat' (first | refine br_splitP (fun h => ?_) (fun h => ?_) | refine br_split (fun h => ?_) (fun h => ?_))
          all_goals first | rfl | contradiction | (exfalso; omega) | (exfalso; (try simp only [true_and, and_true, true_or, or_true, not_tr, decide_eq_true_eq, Bool.and_eq_true, Bool.or_eq_true, beq_iff_eq, bne_iff_ne, ne_eq, inB_iff, stpB, allB] at *); (try simp only [allP, true_and, true_or, or_true, false_or] at *); omega) | (exfalso; simp_all; omega) | fail "LEAF"
      · (try rw [show stpB ⟨5, xday, party, cents⟩ = false from decide_eq_false hx])
        rw [(ap_bad (.inr hx)).1, (ap_bad (.inr hx)).2]
        simp only [stpP, true_and, true_or, or_true] at hx
        first
          | rfl
          | (cases h0 : (atE ⟨lv, ds_, rm, cl, lev, st, day, due, rd, w0, w1, aw⟩ xday != 0)
             · ((repeat' (first | refine br_splitP (fun h => ?_) (fun h => ?_) | refine br_split (fun h => ?_) (fun h => ?_)))
                all_goals first | rfl | contradiction | (exfalso; omega) | (exfalso; (try simp only [true_and, and_true, true_or, or_true, not_tr, decide_eq_true_eq, Bool.and_eq_true, Bool.or_eq_true, beq_iff_eq, bne_iff_ne, ne_eq, inB_iff, stpB, allB] at *); (try simp only [allP, true_and, true_or, or_true, false_or] at *); omega) | (exfalso; simp_all; omega) | fail "LEAF")
             · ((repeat' (first | refine br_splitP (fun h => ?_) (fun h => ?_) | refine br_split (fun h => ?_) (fun h => ?_)))
                all_goals first | rfl | contradiction | (exfalso; omega) | (exfalso; (try simp only [true_and, and_true, true_or, or_true, not_tr, decide_eq_true_eq, Bool.and_eq_true, Bool.or_eq_true, beq_iff_eq, bne_iff_ne, ne_eq, inB_iff, stpB, allB] at *); (try simp only [allP, true_and, true_or, or_true, false_or] at *); omega) | (exfalso; simp_all; omega) | fail "LEAF"))
    · rw [chk8 hg, (ap_bad (.inl hg)).1, (ap_bad (.inl hg)).2]
      rfl
  · cases h
set_option maxHeartbeats 4000000 in
theorem den_tar6 : Den Try.prog 22 (FapK 6) := evF_den C5_ok fun ds rs h => by
  unfold FapK at h
  split at h
  · rename_i lv ds_ rm cl lev st day due rd w0 w1 aw k xday party cents
    simp only [Option.some.injEq, Prod.mk.injEq, decide_eq_true_eq] at h
    obtain ⟨rfl, rfl⟩ := h
    refine (tar6 ⟨lv, ds_, rm, cl, lev, st, day, due, rd, w0, w1, aw⟩ xday party cents).trans ?_
    dsimp only
    by_cases hg : goodM ⟨lv, ds_, rm, cl, lev, st, day, due, rd, w0, w1, aw⟩
    · rw [chk0 hg]
      by_cases hx : stpP ⟨6, xday, party, cents⟩
      · (try rw [show stpB ⟨6, xday, party, cents⟩ = true from decide_eq_true hx])
        by_cases ha : atE ⟨lv, ds_, rm, cl, lev, st, day, due, rd, w0, w1, aw⟩ xday = 0
        · obtain ⟨_, f1, f2, f3, f4, f5, f6, f7⟩ := at_good ha
          have hE := ap_go hg hx ha
          have hN := @ap_no ⟨lv, ds_, rm, cl, lev, st, day, due, rd, w0, w1, aw⟩ ⟨6, xday, party, cents⟩
          have hY := @ap_yes ⟨lv, ds_, rm, cl, lev, st, day, due, rd, w0, w1, aw⟩ ⟨6, xday, party, cents⟩
          rw [ha]
          generalize apE ⟨lv, ds_, rm, cl, lev, st, day, due, rd, w0, w1, aw⟩ ⟨6, xday, party, cents⟩ = E at *
          generalize apC ⟨lv, ds_, rm, cl, lev, st, day, due, rd, w0, w1, aw⟩ ⟨6, xday, party, cents⟩ = R at *
          dsimp only at hE hN hY f1 f2 f3 f4 f5 f6 f7
          generalize atC ⟨lv, ds_, rm, cl, lev, st, day, due, rd, w0, w1, aw⟩ xday = q at *
          clear hg ha f2 f3 f4 f5
          obtain ⟨qlv, qds, qrm, qcl, qlev, qst, qday, qdue, qrd, qw0, qw1, qaw⟩ := q
          simp only [goodM] at f1
          obtain ⟨g1, g2, g3, g4, g5, g6, g7, g8, g9, g10, _, _⟩ := f1
          simp only [stpP, true_and, true_or, or_true] at hx
          dsimp only at hE hY f6 ⊢
          (try rw [show IntKind.i64.wrap (qlv - 1) = qlv - 1 from wrap64 (by omega) (by omega)])
          (try rw [show IntKind.i64.wrap (xday + qds) = xday + qds from wrap64 (by omega) (by omega)])
          (try rw [show IntKind.i64.wrap (qlev + 1) = qlev + 1 from wrap64 (by omega) (by omega)])
          (try rw [show IntKind.i64.wrap (qlev - 1) = qlev - 1 from wrap64 (by omega) (by omega)])
          (try rw [show IntKind.i64.wrap (qrd + 1) = qrd + 1 from wrap64 (by omega) (by omega)])
          have hb : ∀ q : Ms, allB 6 q = decide (allP 6 q) := fun _ => rfl
          (try rw [hb])
          clear hb
          unfold allP wvd at hE
          (try unfold allP)
          cases qw0 <;> cases qw1 <;> (by_cases hp : party = 0)
          all_goals (simp [hp] at hE)
          all_goals (repeat' (split at hE))
          all_goals first
            | (rw [hN hE (by decide), hE]; clear hE hN hY; (repeat' (first | refine br_splitP (fun h => ?_) (fun h => ?_) | refine br_split (fun h => ?_) (fun h => ?_))); all_goals first | rfl | contradiction | (exfalso; omega) | (exfalso; (try simp only [true_and, and_true, true_or, or_true, not_tr, decide_eq_true_eq, Bool.and_eq_true, Bool.or_eq_true, beq_iff_eq, bne_iff_ne, ne_eq, inB_iff, stpB, allB] at *); (try simp only [allP, true_and, true_or, or_true, false_or] at *); omega) | (exfalso; simp_all; omega) | fail "LEAF")
            | (rw [hY hE, hE, doC_6 _ _ rfl]; clear hE hN hY; (try simp only [hp, if_true, if_false]); (repeat' (first | refine br_splitP (fun h => ?_) (fun h => ?_) | refine br_split (fun h => ?_) (fun h => ?_))); all_goals first | rfl | contradiction | (exfalso; omega) | (exfalso; (try simp only [true_and, and_true, true_or, or_true, not_tr, decide_eq_true_eq, Bool.and_eq_true, Bool.or_eq_true, beq_iff_eq, bne_iff_ne, ne_eq, inB_iff, stpB, allB] at *); (try simp only [allP, true_and, true_or, or_true, false_or] at *); omega) | (exfalso; simp_all; omega) | fail "LEAF")
        · rw [(ap_at hg hx ha).1, (ap_at hg hx ha).2, show (atE ⟨lv, ds_, rm, cl, lev, st, day, due, rd, w0, w1, aw⟩ xday != 0) = true by simpa using ha]
          simp only [stpP, true_and, true_or, or_true] at hx
          repeat' (first | refine br_splitP (fun h => ?_) (fun h => ?_) | refine br_split (fun h => ?_) (fun h => ?_))
          all_goals first | rfl | contradiction | (exfalso; omega) | (exfalso; (try simp only [true_and, and_true, true_or, or_true, not_tr, decide_eq_true_eq, Bool.and_eq_true, Bool.or_eq_true, beq_iff_eq, bne_iff_ne, ne_eq, inB_iff, stpB, allB] at *); (try simp only [allP, true_and, true_or, or_true, false_or] at *); omega) | (exfalso; simp_all; omega) | fail "LEAF"
      · (try rw [show stpB ⟨6, xday, party, cents⟩ = false from decide_eq_false hx])
        rw [(ap_bad (.inr hx)).1, (ap_bad (.inr hx)).2]
        simp only [stpP, true_and, true_or, or_true] at hx
        first
          | rfl
          | (cases h0 : (atE ⟨lv, ds_, rm, cl, lev, st, day, due, rd, w0, w1, aw⟩ xday != 0)
             · ((repeat' (first | refine br_splitP (fun h => ?_) (fun h => ?_) | refine br_split (fun h => ?_) (fun h => ?_)))
                all_goals first | rfl | contradiction | (exfalso; omega) | (exfalso; (try simp only [true_and, and_true, true_or, or_true, not_tr, decide_eq_true_eq, Bool.and_eq_true, Bool.or_eq_true, beq_iff_eq, bne_iff_ne, ne_eq, inB_iff, stpB, allB] at *); (try simp only [allP, true_and, true_or, or_true, false_or] at *); omega) | (exfalso; simp_all; omega) | fail "LEAF")
             · ((repeat' (first | refine br_splitP (fun h => ?_) (fun h => ?_) | refine br_split (fun h => ?_) (fun h => ?_)))
                all_goals first | rfl | contradiction | (exfalso; omega) | (exfalso; (try simp only [true_and, and_true, true_or, or_true, not_tr, decide_eq_true_eq, Bool.and_eq_true, Bool.or_eq_true, beq_iff_eq, bne_iff_ne, ne_eq, inB_iff, stpB, allB] at *); (try simp only [allP, true_and, true_or, or_true, false_or] at *); omega) | (exfalso; simp_all; omega) | fail "LEAF"))
    · rw [chk8 hg, (ap_bad (.inl hg)).1, (ap_bad (.inl hg)).2]
      rfl
  · cases h
theorem den_tarf : Den Try.prog 22 FapF := evF_den C5f_ok fun ds rs h => by
  unfold FapF at h
  split at h
  · rename_i lv ds_ rm cl lev st day due rd w0 w1 aw k xday party cents
    simp only [Option.some.injEq, Prod.mk.injEq, decide_eq_true_eq] at h
    obtain ⟨h2, rfl⟩ := h
    refine (tarf ⟨lv, ds_, rm, cl, lev, st, day, due, rd, w0, w1, aw⟩ k xday party cents).trans ?_
    dsimp only
    have hx : ¬ stpP ⟨k, xday, party, cents⟩ := by simp only [stpP]; omega
    rw [(ap_bad (.inr hx)).1, (ap_bad (.inr hx)).2]
    by_cases hg : goodM ⟨lv, ds_, rm, cl, lev, st, day, due, rd, w0, w1, aw⟩
    · rw [chk0 hg]
      (try rw [decide_eq_true h2])
      repeat' (first | refine br_splitP (fun h => ?_) (fun h => ?_) | refine br_split (fun h => ?_) (fun h => ?_))
      all_goals first | rfl | contradiction | (exfalso; omega) | (exfalso; (try simp only [true_and, and_true, true_or, or_true, not_tr, decide_eq_true_eq, Bool.and_eq_true, Bool.or_eq_true, beq_iff_eq, bne_iff_ne, ne_eq, inB_iff, stpB, allB] at *); (try simp only [allP, true_and, true_or, or_true, false_or] at *); omega) | (exfalso; simp_all; omega) | fail "LEAF"
    · rw [chk8 hg]
      rfl
  · cases h
theorem den_tar : Den Try.prog 22 Fap := Den.cover fun ds rs h => by
  unfold Fap at h
  split at h
  · rename_i lv ds_ rm cl lev st day due rd w0 w1 aw k xday party cents
    simp only [Option.some.injEq, Prod.mk.injEq] at h
    obtain ⟨_, rfl⟩ := h
    by_cases h2 : k < 1 ∨ k > 6
    · exact ⟨FapF, den_tarf, by unfold FapF; simp only [decide_eq_true h2]⟩
    · have h3 : k = 1 ∨ k = 2 ∨ k = 3 ∨ k = 4 ∨ k = 5 ∨ k = 6 := by omega
      rcases h3 with h3 | h3 | h3 | h3 | h3 | h3
      · exact ⟨FapK 1, den_tar1, by unfold FapK; simp only [decide_eq_true h3]⟩
      · exact ⟨FapK 2, den_tar2, by unfold FapK; simp only [decide_eq_true h3]⟩
      · exact ⟨FapK 3, den_tar3, by unfold FapK; simp only [decide_eq_true h3]⟩
      · exact ⟨FapK 4, den_tar4, by unfold FapK; simp only [decide_eq_true h3]⟩
      · exact ⟨FapK 5, den_tar5, by unfold FapK; simp only [decide_eq_true h3]⟩
      · exact ⟨FapK 6, den_tar6, by unfold FapK; simp only [decide_eq_true h3]⟩
  · cases h
def stpAt (r : Row) (j : Nat) : Stp := ⟨r.I (0 + j) 0, r.I (0 + j) 1, r.I (0 + j) 2, r.I (0 + j) 3⟩
def rE (r : Row) (c : Ms) (j : Nat) : Int := apE c (stpAt r j)
def rN (r : Row) (c : Ms) (j : Nat) : Ms := apC c (stpAt r j)
def rpR (c : Ms) (r : Row) : Ms × Nat × Int := if ¬ goodM c then (zeroM, 0, 8) else if 100 < r.n then (zeroM, 0, 4) else runG (rE r) (rN r) r.n 0 c
theorem ap_zero {m : Ms} {x : Stp} (h : apE m x = 0) : goodM m ∧ stpP x ∧ atE m x.day = 0 ∧ allP x.kind (atC m x.day) ∧ ¬ ((x.kind = 2 ∨ x.kind = 6) ∧ wvd (atC m x.day) x = true) ∧ ¬ x.cents > (atC m x.day).cl ∧ apC m x = doC (atC m x.day) x := by
  have h0 := h
  unfold apE at h
  split at h
  · cases h
  · rename_i h1
    split at h
    · contradiction
    · rename_i h2
      split at h
      · cases h
      · rename_i h3
        split at h
        · cases h
        · rename_i h4
          split at h
          · cases h
          · rename_i h5
            exact ⟨Decidable.byContradiction fun h' => h1 (.inl h'), Decidable.byContradiction fun h' => h1 (.inr h'), Decidable.byContradiction fun h' => h2 h', Decidable.byContradiction fun h' => h3 h', h4, h5, if_pos h0⟩
set_option maxHeartbeats 4000000 in
theorem ap_good {m : Ms} {x : Stp} (h : apE m x = 0) : goodM (apC m x) := by
  obtain ⟨h1, h2, h3, h4, h5, h6, h7⟩ := ap_zero h
  obtain ⟨_, hg, _, _, _, _, f5, f6, f7, f8⟩ := at_good h3
  rw [h7]
  generalize atC m x.day = q at *
  clear h h1 h3 h7
  obtain ⟨qlv, qds, qrm, qcl, qlev, qst, qday, qdue, qrd, qw0, qw1, qaw⟩ := q
  obtain ⟨xk, xday, party, cents⟩ := x
  simp only [stpP] at h2
  simp only [allP] at h4
  simp only [wvd] at h5
  unfold goodM at hg
  dsimp only at *
  obtain ⟨g1, g2, g3, g4, g5, g6, g7, g8, g9, g10, g11, g12⟩ := hg
  have hk : xk = 1 ∨ xk = 4 ∨ xk = 2 ∨ xk = 3 ∨ xk = 5 ∨ xk = 6 := by omega
  rcases hk with hk | hk | hk | hk | hk | hk
  · have hw := g11 (by omega)
    rw [doC_a _ _ (.inl hk)]
    unfold dec goodM
    split <;> (dsimp only at *; refine ⟨g1, g2, g3, g4, g5, g6, ?_, g8, ?_, ?_, fun h => ?_, fun h => ?_⟩ <;> first | omega | exact hw | exact ⟨by omega, by omega, .inl hw.1⟩)
  · have hw := g11 (by omega)
    rw [doC_a _ _ (.inr hk)]
    unfold dec goodM
    split <;> (dsimp only at *; refine ⟨g1, g2, g3, g4, g5, g6, ?_, g8, ?_, ?_, fun h => ?_, fun h => ?_⟩ <;> first | omega | exact hw | exact ⟨by omega, by omega, .inl hw.1⟩)
  · have hw := g12 (by omega)
    rw [doC_2 _ _ hk]
    unfold goodM
    dsimp only
    refine ⟨g1, g2, g3, g4, ?_, g6, g7, g8, g9, ?_, fun h => ⟨rfl, rfl⟩, fun h => ?_⟩ <;> omega
  · have hw := g11 (by omega)
    rw [doC_3 _ _ hk]
    unfold dec goodM
    split <;> (dsimp only at *; refine ⟨g1, g2, g3, g4, g5, g6, ?_, g8, g9, ?_, fun h => ?_, fun h => ?_⟩ <;> first | omega | exact hw | exact ⟨by omega, by omega, .inl hw.1⟩)
  · have hw := g11 (by omega)
    rw [doC_5 _ _ hk]
    unfold goodM
    dsimp only
    refine ⟨g1, g2, g3, g4, ?_, g6, g7, ?_, g9, ?_, fun h => hw, fun h => ?_⟩ <;> omega
  · have hw := g12 (by omega)
    rw [doC_6 _ _ hk]
    unfold goodM
    dsimp only
    by_cases hp : party = 0
    · rw [if_pos hp]
      cases qw1
      · refine ⟨g1, g2, g3, g4, g5, g6, g7, g8, g9, g10, fun h => ?_, fun h => ⟨hw.1, hw.2.1, .inr rfl⟩⟩
        have h : qst = 1 := h
        omega
      · refine ⟨g1, g2, g3, g4, g5, g6, g7, g8, g9, .inr (.inr rfl), fun h => ?_, fun h => ?_⟩ <;> cases h
    · rw [if_neg hp]
      cases qw0
      · refine ⟨g1, g2, g3, g4, g5, g6, g7, g8, g9, g10, fun h => ?_, fun h => ⟨hw.1, hw.2.1, .inl rfl⟩⟩
        have h : qst = 1 := h
        omega
      · refine ⟨g1, g2, g3, g4, g5, g6, g7, g8, g9, .inr (.inr rfl), fun h => ?_, fun h => ?_⟩ <;> cases h
theorem rN_good {r : Row} (c : Ms) (j : Nat) (_ : goodM c) (h : rE r c j = 0) : goodM (rN r c j) := ap_good h
end Go.Proofs.Ytlejhkmkdajneaa

/- The steps that are allowed. No conditions. -/
import Derived.Test.YtlejhkmkdajneaaA2
namespace Go.Proofs.Ytlejhkmkdajneaa
open Go.Ev
set_option linter.all false
/-- A matter on a day is a valid one. -/
theorem at_good {m : Ms} {d : Int} (h : atE m d = 0) : goodM m ∧ goodM (atC m d) ∧ (atC m d).lv = m.lv ∧ (atC m d).ds = m.ds ∧ (atC m d).rm = m.rm ∧ (atC m d).cl = m.cl ∧ (atC m d).day = d ∧ 0 ≤ d ∧ d ≤ 100000 ∧ m.day ≤ d := by
  have hg : goodM m := by
    unfold atE at h
    by_cases hg : goodM m
    · exact hg
    · rw [if_pos hg] at h; omega
  have h2 : 0 ≤ d ∧ d ≤ 100000 ∧ m.day ≤ d := by
    unfold atE at h
    rw [if_neg (by simpa using hg)] at h
    split at h
    · omega
    · split at h
      · omega
      · omega
  refine ⟨hg, ?_⟩
  have e : atC m d = stepC m d := if_pos h
  rw [e]
  obtain ⟨g1, g2, g3, g4, g5, g6, g7, g8, g9, g10, g11, g12⟩ := hg
  unfold stepC
  split
  · refine ⟨⟨g1, g2, g3, g4, g5, ⟨h2.1, h2.2.1⟩, g7, g8, g9, .inr (.inr rfl), fun h => ?_, fun h => ?_⟩, rfl, rfl, rfl, rfl, rfl, h2⟩
    · cases h
    · cases h
  · rename_i hn
    refine ⟨⟨g1, g2, g3, g4, g5, ⟨h2.1, h2.2.1⟩, g7, g8, g9, g10, g11, fun h => ?_⟩, rfl, rfl, rfl, rfl, rfl, h2⟩
    have h3 := g12 h
    refine ⟨h3.1, ?_, h3.2.2⟩
    show d ≤ m.due
    have h4 : m.st = 2 := h
    omega
theorem at_bad {m : Ms} {d : Int} (h : atE m d ≠ 0) : atC m d = zeroM := if_neg h
def Fall : List D → Option (Bool × List D)
  | [.v (.int .u8 k), .agg [.v (.int .i64 lv), .v (.int .i64 ds_), .v (.int .i64 rm), .v (.int .i64 cl), .v (.int .i64 lev), .v (.int .u8 st), .v (.int .i64 day), .v (.int .i64 due), .v (.int .i64 rd), .v (.bool w0), .v (.bool w1), .v (.int .i64 aw)]] => some (true, [.v (.bool (allB k ⟨lv, ds_, rm, cl, lev, st, day, due, rd, w0, w1, aw⟩))])
  | _ => none
theorem tall (k : Int) (m : Ms) : evF C0 6 33 [.v (u8 k), msD m] =
    br (k == 1) (br (m.st == 1) (some [.v (.bool (m.lev == 0))]) (some [.v (.bool (false))])) (br (k == 2) (br (k == 2) (some [.v (.bool (m.st == 2))]) (br (k == 3) (br (k == 3) (br (m.st == 1) (some [.v (.bool (decide (m.lev > 0)))]) (some [.v (.bool (false))])) (br (k == 5) (br (m.st == 1) (br (decide (m.lev > 0)) (some [.v (.bool (decide (m.rd < m.rm)))]) (some [.v (.bool (false))])) (some [.v (.bool (false))])) (some [.v (.bool (false))]))) (br (k == 4) (br (m.st == 1) (some [.v (.bool (decide (m.lev > 0)))]) (some [.v (.bool (false))])) (br (k == 5) (br (m.st == 1) (br (decide (m.lev > 0)) (some [.v (.bool (decide (m.rd < m.rm)))]) (some [.v (.bool (false))])) (some [.v (.bool (false))])) (some [.v (.bool (false))]))))) (br (k == 6) (some [.v (.bool (m.st == 2))]) (br (k == 3) (br (k == 3) (br (m.st == 1) (some [.v (.bool (decide (m.lev > 0)))]) (some [.v (.bool (false))])) (br (k == 5) (br (m.st == 1) (br (decide (m.lev > 0)) (some [.v (.bool (decide (m.rd < m.rm)))]) (some [.v (.bool (false))])) (some [.v (.bool (false))])) (some [.v (.bool (false))]))) (br (k == 4) (br (m.st == 1) (some [.v (.bool (decide (m.lev > 0)))]) (some [.v (.bool (false))])) (br (k == 5) (br (m.st == 1) (br (decide (m.lev > 0)) (some [.v (.bool (decide (m.rd < m.rm)))]) (some [.v (.bool (false))])) (some [.v (.bool (false))])) (some [.v (.bool (false))])))))) := by kernel_rfl
theorem den_all : Den Try.prog 33 Fall := evF_den C0_ok fun ds rs h => by
  unfold Fall at h
  split at h
  · rename_i k lv ds_ rm cl lev st day due rd w0 w1 aw
    cases h
    refine (tall k ⟨lv, ds_, rm, cl, lev, st, day, due, rd, w0, w1, aw⟩).trans ?_
    (try dsimp only)
    repeat' refine br_split (fun h => ?_) (fun h => ?_)
    all_goals exact congrArg (fun b => some [D.v (.bool b)]) (by (try simp only [true_and, and_true, true_or, or_true, not_tr, decide_eq_true_eq, Bool.and_eq_true, Bool.or_eq_true, beq_iff_eq, bne_iff_ne, ne_eq, inB_iff, stpB, allB] at *); rw [Bool.eq_iff_iff]; simp only [true_and, and_true, true_or, or_true, not_tr, decide_eq_true_eq, Bool.and_eq_true, Bool.or_eq_true, beq_iff_eq, bne_iff_ne, ne_eq, inB_iff, stpB, allB, Bool.false_eq_true]; simp only [allP]; first | omega | (simp; omega) | (simp at *; omega))
  · cases h
def Fats (s : Int) : List D → Option (Bool × List D)
  | [.agg [.v (.int .i64 lv), .v (.int .i64 ds_), .v (.int .i64 rm), .v (.int .i64 cl), .v (.int .i64 lev), .v (.int .u8 st), .v (.int .i64 day), .v (.int .i64 due), .v (.int .i64 rd), .v (.bool w0), .v (.bool w1), .v (.int .i64 aw)], .v (.int .i64 d)] => some (decide ((atC ⟨lv, ds_, rm, cl, lev, st, day, due, rd, w0, w1, aw⟩ d).st = s), [msD { atC ⟨lv, ds_, rm, cl, lev, st, day, due, rd, w0, w1, aw⟩ d with st := s }, .v (i64 (atE ⟨lv, ds_, rm, cl, lev, st, day, due, rd, w0, w1, aw⟩ d))])
  | _ => none
theorem den_ats (s : Int) {f : FuncId} (hf : Den Try.prog f Fat) : Den Try.prog f (Fats s) := hf.less fun ds rs h => by
  unfold Fats at h
  split at h
  · rename_i lv ds_ rm cl lev st day due rd w0 w1 aw d
    simp only [Option.some.injEq, Prod.mk.injEq, decide_eq_true_eq] at h
    obtain ⟨h2, rfl⟩ := h
    subst h2
    unfold Fat
    rfl
  · cases h
noncomputable def C4 (s : Int) : Cx := mkCx Try.prog fns [(12, Fats s), (13, Fats s)] []
theorem C4_ok (s : Int) : CxOk (C4 s) := mkCx_ok enter mixed (fun p h => by
  simp only [List.mem_cons, List.not_mem_nil, or_false] at h
  rcases h with rfl | rfl
  · exact den_ats s den_at
  · exact den_ats s den_atr) (fun l h => by cases h)
theorem talp0 (m : Ms) (d : Int) : evF (C4 0) 6 14 [msD m, .v (i64 d)] =
    br (decide ((atC { lv := m.lv, ds := m.ds, rm := m.rm, cl := m.cl, lev := m.lev, st := m.st, day := m.day, due := m.due, rd := m.rd, w0 := m.w0, w1 := m.w1, aw := m.aw : Ms } d).st = 0)) (br (atE m d != 0) (some [.slice [.int .u8] (Row.nil), .v (i64 (atE m d))]) (some [.slice [.int .u8] (Row.nil), .v (i64 (0))])) (none) := by kernel_rfl
theorem talp1 (m : Ms) (d : Int) : evF (C4 1) 6 14 [msD m, .v (i64 d)] =
    br (decide ((atC { lv := m.lv, ds := m.ds, rm := m.rm, cl := m.cl, lev := m.lev, st := m.st, day := m.day, due := m.due, rd := m.rd, w0 := m.w0, w1 := m.w1, aw := m.aw : Ms } d).st = 1)) (br (atE m d != 0) (some [.slice [.int .u8] (Row.nil), .v (i64 (atE m d))]) (br (decide
  ((have __src := atC { lv := m.lv, ds := m.ds, rm := m.rm, cl := m.cl, lev := m.lev, st := m.st, day := m.day, due := m.due, rd := m.rd, w0 := m.w0, w1 := m.w1, aw := m.aw : Ms } d;
      { lv := __src.lv, ds := __src.ds, rm := __src.rm, cl := __src.cl, lev := __src.lev, st := 1, day := __src.day, due := __src.due, rd := __src.rd, w0 := __src.w0, w1 := __src.w1, aw := __src.aw : Ms }).lev >
    0)) (br ((have __src := atC { lv := m.lv, ds := m.ds, rm := m.rm, cl := m.cl, lev := m.lev, st := m.st, day := m.day, due := m.due, rd := m.rd, w0 := m.w0, w1 := m.w1, aw := m.aw : Ms } d;
    { lv := __src.lv, ds := __src.ds, rm := __src.rm, cl := __src.cl, lev := __src.lev, st := 1, day := __src.day, due := __src.due, rd := __src.rd, w0 := __src.w0, w1 := __src.w1, aw := __src.aw : Ms }).lev ==
  0) (br ((have __src := atC { lv := m.lv, ds := m.ds, rm := m.rm, cl := m.cl, lev := m.lev, st := m.st, day := m.day, due := m.due, rd := m.rd, w0 := m.w0, w1 := m.w1, aw := m.aw : Ms } d;
    { lv := __src.lv, ds := __src.ds, rm := __src.rm, cl := __src.cl, lev := __src.lev, st := 1, day := __src.day, due := __src.due, rd := __src.rd, w0 := __src.w0, w1 := __src.w1, aw := __src.aw : Ms }).lev ==
  0) (br ((have __src := atC { lv := m.lv, ds := m.ds, rm := m.rm, cl := m.cl, lev := m.lev, st := m.st, day := m.day, due := m.due, rd := m.rd, w0 := m.w0, w1 := m.w1, aw := m.aw : Ms } d;
    { lv := __src.lv, ds := __src.ds, rm := __src.rm, cl := __src.cl, lev := __src.lev, st := 1, day := __src.day, due := __src.due, rd := __src.rd, w0 := __src.w0, w1 := __src.w1, aw := __src.aw : Ms }).lev ==
  0) (some [.slice [.int .u8] (Row.nil), .v (i64 (0))]) (br (decide
  ((have __src := atC { lv := m.lv, ds := m.ds, rm := m.rm, cl := m.cl, lev := m.lev, st := m.st, day := m.day, due := m.due, rd := m.rd, w0 := m.w0, w1 := m.w1, aw := m.aw : Ms } d;
      { lv := __src.lv, ds := __src.ds, rm := __src.rm, cl := __src.cl, lev := __src.lev, st := 1, day := __src.day, due := __src.due, rd := __src.rd, w0 := __src.w0, w1 := __src.w1, aw := __src.aw : Ms }).rd <
    (have __src := atC { lv := m.lv, ds := m.ds, rm := m.rm, cl := m.cl, lev := m.lev, st := m.st, day := m.day, due := m.due, rd := m.rd, w0 := m.w0, w1 := m.w1, aw := m.aw : Ms } d;
      { lv := __src.lv, ds := __src.ds, rm := __src.rm, cl := __src.cl, lev := __src.lev, st := 1, day := __src.day, due := __src.due, rd := __src.rd, w0 := __src.w0, w1 := __src.w1, aw := __src.aw : Ms }).rm)) (some [.slice [.int .u8] (winOf (Row.nil.app (winOf ((Row.zeros 1).setI 0 0 5) 0 1)) 0 1), .v (i64 (0))]) (some [.slice [.int .u8] (Row.nil), .v (i64 (0))]))) (br ((have __src := atC { lv := m.lv, ds := m.ds, rm := m.rm, cl := m.cl, lev := m.lev, st := m.st, day := m.day, due := m.due, rd := m.rd, w0 := m.w0, w1 := m.w1, aw := m.aw : Ms } d;
    { lv := __src.lv, ds := __src.ds, rm := __src.rm, cl := __src.cl, lev := __src.lev, st := 1, day := __src.day, due := __src.due, rd := __src.rd, w0 := __src.w0, w1 := __src.w1, aw := __src.aw : Ms }).lev ==
  0) (some [.slice [.int .u8] (winOf (Row.nil.app (winOf ((Row.zeros 1).setI 0 0 4) 0 1)) 0 1), .v (i64 (0))]) (br (decide
  ((have __src := atC { lv := m.lv, ds := m.ds, rm := m.rm, cl := m.cl, lev := m.lev, st := m.st, day := m.day, due := m.due, rd := m.rd, w0 := m.w0, w1 := m.w1, aw := m.aw : Ms } d;
      { lv := __src.lv, ds := __src.ds, rm := __src.rm, cl := __src.cl, lev := __src.lev, st := 1, day := __src.day, due := __src.due, rd := __src.rd, w0 := __src.w0, w1 := __src.w1, aw := __src.aw : Ms }).rd <
    (have __src := atC { lv := m.lv, ds := m.ds, rm := m.rm, cl := m.cl, lev := m.lev, st := m.st, day := m.day, due := m.due, rd := m.rd, w0 := m.w0, w1 := m.w1, aw := m.aw : Ms } d;
      { lv := __src.lv, ds := __src.ds, rm := __src.rm, cl := __src.cl, lev := __src.lev, st := 1, day := __src.day, due := __src.due, rd := __src.rd, w0 := __src.w0, w1 := __src.w1, aw := __src.aw : Ms }).rm)) (some [.slice [.int .u8] (winOf ((winOf (Row.nil.app (winOf ((Row.zeros 1).setI 0 0 4) 0 1)) 0 1).app (winOf ((Row.zeros 1).setI 0 0 5) 0 1)) 0 2), .v (i64 (0))]) (some [.slice [.int .u8] (winOf (Row.nil.app (winOf ((Row.zeros 1).setI 0 0 4) 0 1)) 0 1), .v (i64 (0))])))) (br ((have __src := atC { lv := m.lv, ds := m.ds, rm := m.rm, cl := m.cl, lev := m.lev, st := m.st, day := m.day, due := m.due, rd := m.rd, w0 := m.w0, w1 := m.w1, aw := m.aw : Ms } d;
    { lv := __src.lv, ds := __src.ds, rm := __src.rm, cl := __src.cl, lev := __src.lev, st := 1, day := __src.day, due := __src.due, rd := __src.rd, w0 := __src.w0, w1 := __src.w1, aw := __src.aw : Ms }).lev ==
  0) (br ((have __src := atC { lv := m.lv, ds := m.ds, rm := m.rm, cl := m.cl, lev := m.lev, st := m.st, day := m.day, due := m.due, rd := m.rd, w0 := m.w0, w1 := m.w1, aw := m.aw : Ms } d;
    { lv := __src.lv, ds := __src.ds, rm := __src.rm, cl := __src.cl, lev := __src.lev, st := 1, day := __src.day, due := __src.due, rd := __src.rd, w0 := __src.w0, w1 := __src.w1, aw := __src.aw : Ms }).lev ==
  0) (some [.slice [.int .u8] (winOf (Row.nil.app (winOf ((Row.zeros 1).setI 0 0 3) 0 1)) 0 1), .v (i64 (0))]) (br (decide
  ((have __src := atC { lv := m.lv, ds := m.ds, rm := m.rm, cl := m.cl, lev := m.lev, st := m.st, day := m.day, due := m.due, rd := m.rd, w0 := m.w0, w1 := m.w1, aw := m.aw : Ms } d;
      { lv := __src.lv, ds := __src.ds, rm := __src.rm, cl := __src.cl, lev := __src.lev, st := 1, day := __src.day, due := __src.due, rd := __src.rd, w0 := __src.w0, w1 := __src.w1, aw := __src.aw : Ms }).rd <
    (have __src := atC { lv := m.lv, ds := m.ds, rm := m.rm, cl := m.cl, lev := m.lev, st := m.st, day := m.day, due := m.due, rd := m.rd, w0 := m.w0, w1 := m.w1, aw := m.aw : Ms } d;
      { lv := __src.lv, ds := __src.ds, rm := __src.rm, cl := __src.cl, lev := __src.lev, st := 1, day := __src.day, due := __src.due, rd := __src.rd, w0 := __src.w0, w1 := __src.w1, aw := __src.aw : Ms }).rm)) (some [.slice [.int .u8] (winOf ((winOf (Row.nil.app (winOf ((Row.zeros 1).setI 0 0 3) 0 1)) 0 1).app (winOf ((Row.zeros 1).setI 0 0 5) 0 1)) 0 2), .v (i64 (0))]) (some [.slice [.int .u8] (winOf (Row.nil.app (winOf ((Row.zeros 1).setI 0 0 3) 0 1)) 0 1), .v (i64 (0))]))) (br ((have __src := atC { lv := m.lv, ds := m.ds, rm := m.rm, cl := m.cl, lev := m.lev, st := m.st, day := m.day, due := m.due, rd := m.rd, w0 := m.w0, w1 := m.w1, aw := m.aw : Ms } d;
    { lv := __src.lv, ds := __src.ds, rm := __src.rm, cl := __src.cl, lev := __src.lev, st := 1, day := __src.day, due := __src.due, rd := __src.rd, w0 := __src.w0, w1 := __src.w1, aw := __src.aw : Ms }).lev ==
  0) (some [.slice [.int .u8] (winOf ((winOf (Row.nil.app (winOf ((Row.zeros 1).setI 0 0 3) 0 1)) 0 1).app (winOf ((Row.zeros 1).setI 0 0 4) 0 1)) 0 2), .v (i64 (0))]) (br (decide
  ((have __src := atC { lv := m.lv, ds := m.ds, rm := m.rm, cl := m.cl, lev := m.lev, st := m.st, day := m.day, due := m.due, rd := m.rd, w0 := m.w0, w1 := m.w1, aw := m.aw : Ms } d;
      { lv := __src.lv, ds := __src.ds, rm := __src.rm, cl := __src.cl, lev := __src.lev, st := 1, day := __src.day, due := __src.due, rd := __src.rd, w0 := __src.w0, w1 := __src.w1, aw := __src.aw : Ms }).rd <
    (have __src := atC { lv := m.lv, ds := m.ds, rm := m.rm, cl := m.cl, lev := m.lev, st := m.st, day := m.day, due := m.due, rd := m.rd, w0 := m.w0, w1 := m.w1, aw := m.aw : Ms } d;
      { lv := __src.lv, ds := __src.ds, rm := __src.rm, cl := __src.cl, lev := __src.lev, st := 1, day := __src.day, due := __src.due, rd := __src.rd, w0 := __src.w0, w1 := __src.w1, aw := __src.aw : Ms }).rm)) (some [.slice [.int .u8] (winOf ((winOf ((winOf (Row.nil.app (winOf ((Row.zeros 1).setI 0 0 3) 0 1)) 0 1).app (winOf ((Row.zeros 1).setI 0 0 4) 0 1)) 0 2).app (winOf ((Row.zeros 1).setI 0 0 5) 0 1)) 0 3), .v (i64 (0))]) (some [.slice [.int .u8] (winOf ((winOf (Row.nil.app (winOf ((Row.zeros 1).setI 0 0 3) 0 1)) 0 1).app (winOf ((Row.zeros 1).setI 0 0 4) 0 1)) 0 2), .v (i64 (0))]))))) (br ((have __src := atC { lv := m.lv, ds := m.ds, rm := m.rm, cl := m.cl, lev := m.lev, st := m.st, day := m.day, due := m.due, rd := m.rd, w0 := m.w0, w1 := m.w1, aw := m.aw : Ms } d;
    { lv := __src.lv, ds := __src.ds, rm := __src.rm, cl := __src.cl, lev := __src.lev, st := 1, day := __src.day, due := __src.due, rd := __src.rd, w0 := __src.w0, w1 := __src.w1, aw := __src.aw : Ms }).lev ==
  0) (br ((have __src := atC { lv := m.lv, ds := m.ds, rm := m.rm, cl := m.cl, lev := m.lev, st := m.st, day := m.day, due := m.due, rd := m.rd, w0 := m.w0, w1 := m.w1, aw := m.aw : Ms } d;
    { lv := __src.lv, ds := __src.ds, rm := __src.rm, cl := __src.cl, lev := __src.lev, st := 1, day := __src.day, due := __src.due, rd := __src.rd, w0 := __src.w0, w1 := __src.w1, aw := __src.aw : Ms }).lev ==
  0) (br ((have __src := atC { lv := m.lv, ds := m.ds, rm := m.rm, cl := m.cl, lev := m.lev, st := m.st, day := m.day, due := m.due, rd := m.rd, w0 := m.w0, w1 := m.w1, aw := m.aw : Ms } d;
    { lv := __src.lv, ds := __src.ds, rm := __src.rm, cl := __src.cl, lev := __src.lev, st := 1, day := __src.day, due := __src.due, rd := __src.rd, w0 := __src.w0, w1 := __src.w1, aw := __src.aw : Ms }).lev ==
  0) (some [.slice [.int .u8] (winOf (Row.nil.app (winOf ((Row.zeros 1).setI 0 0 1) 0 1)) 0 1), .v (i64 (0))]) (br (decide
  ((have __src := atC { lv := m.lv, ds := m.ds, rm := m.rm, cl := m.cl, lev := m.lev, st := m.st, day := m.day, due := m.due, rd := m.rd, w0 := m.w0, w1 := m.w1, aw := m.aw : Ms } d;
      { lv := __src.lv, ds := __src.ds, rm := __src.rm, cl := __src.cl, lev := __src.lev, st := 1, day := __src.day, due := __src.due, rd := __src.rd, w0 := __src.w0, w1 := __src.w1, aw := __src.aw : Ms }).rd <
    (have __src := atC { lv := m.lv, ds := m.ds, rm := m.rm, cl := m.cl, lev := m.lev, st := m.st, day := m.day, due := m.due, rd := m.rd, w0 := m.w0, w1 := m.w1, aw := m.aw : Ms } d;
      { lv := __src.lv, ds := __src.ds, rm := __src.rm, cl := __src.cl, lev := __src.lev, st := 1, day := __src.day, due := __src.due, rd := __src.rd, w0 := __src.w0, w1 := __src.w1, aw := __src.aw : Ms }).rm)) (some [.slice [.int .u8] (winOf ((winOf (Row.nil.app (winOf ((Row.zeros 1).setI 0 0 1) 0 1)) 0 1).app (winOf ((Row.zeros 1).setI 0 0 5) 0 1)) 0 2), .v (i64 (0))]) (some [.slice [.int .u8] (winOf (Row.nil.app (winOf ((Row.zeros 1).setI 0 0 1) 0 1)) 0 1), .v (i64 (0))]))) (br ((have __src := atC { lv := m.lv, ds := m.ds, rm := m.rm, cl := m.cl, lev := m.lev, st := m.st, day := m.day, due := m.due, rd := m.rd, w0 := m.w0, w1 := m.w1, aw := m.aw : Ms } d;
    { lv := __src.lv, ds := __src.ds, rm := __src.rm, cl := __src.cl, lev := __src.lev, st := 1, day := __src.day, due := __src.due, rd := __src.rd, w0 := __src.w0, w1 := __src.w1, aw := __src.aw : Ms }).lev ==
  0) (some [.slice [.int .u8] (winOf ((winOf (Row.nil.app (winOf ((Row.zeros 1).setI 0 0 1) 0 1)) 0 1).app (winOf ((Row.zeros 1).setI 0 0 4) 0 1)) 0 2), .v (i64 (0))]) (br (decide
  ((have __src := atC { lv := m.lv, ds := m.ds, rm := m.rm, cl := m.cl, lev := m.lev, st := m.st, day := m.day, due := m.due, rd := m.rd, w0 := m.w0, w1 := m.w1, aw := m.aw : Ms } d;
      { lv := __src.lv, ds := __src.ds, rm := __src.rm, cl := __src.cl, lev := __src.lev, st := 1, day := __src.day, due := __src.due, rd := __src.rd, w0 := __src.w0, w1 := __src.w1, aw := __src.aw : Ms }).rd <
    (have __src := atC { lv := m.lv, ds := m.ds, rm := m.rm, cl := m.cl, lev := m.lev, st := m.st, day := m.day, due := m.due, rd := m.rd, w0 := m.w0, w1 := m.w1, aw := m.aw : Ms } d;
      { lv := __src.lv, ds := __src.ds, rm := __src.rm, cl := __src.cl, lev := __src.lev, st := 1, day := __src.day, due := __src.due, rd := __src.rd, w0 := __src.w0, w1 := __src.w1, aw := __src.aw : Ms }).rm)) (some [.slice [.int .u8] (winOf ((winOf ((winOf (Row.nil.app (winOf ((Row.zeros 1).setI 0 0 1) 0 1)) 0 1).app (winOf ((Row.zeros 1).setI 0 0 4) 0 1)) 0 2).app (winOf ((Row.zeros 1).setI 0 0 5) 0 1)) 0 3), .v (i64 (0))]) (some [.slice [.int .u8] (winOf ((winOf (Row.nil.app (winOf ((Row.zeros 1).setI 0 0 1) 0 1)) 0 1).app (winOf ((Row.zeros 1).setI 0 0 4) 0 1)) 0 2), .v (i64 (0))])))) (br ((have __src := atC { lv := m.lv, ds := m.ds, rm := m.rm, cl := m.cl, lev := m.lev, st := m.st, day := m.day, due := m.due, rd := m.rd, w0 := m.w0, w1 := m.w1, aw := m.aw : Ms } d;
    { lv := __src.lv, ds := __src.ds, rm := __src.rm, cl := __src.cl, lev := __src.lev, st := 1, day := __src.day, due := __src.due, rd := __src.rd, w0 := __src.w0, w1 := __src.w1, aw := __src.aw : Ms }).lev ==
  0) (br ((have __src := atC { lv := m.lv, ds := m.ds, rm := m.rm, cl := m.cl, lev := m.lev, st := m.st, day := m.day, due := m.due, rd := m.rd, w0 := m.w0, w1 := m.w1, aw := m.aw : Ms } d;
    { lv := __src.lv, ds := __src.ds, rm := __src.rm, cl := __src.cl, lev := __src.lev, st := 1, day := __src.day, due := __src.due, rd := __src.rd, w0 := __src.w0, w1 := __src.w1, aw := __src.aw : Ms }).lev ==
  0) (some [.slice [.int .u8] (winOf ((winOf (Row.nil.app (winOf ((Row.zeros 1).setI 0 0 1) 0 1)) 0 1).app (winOf ((Row.zeros 1).setI 0 0 3) 0 1)) 0 2), .v (i64 (0))]) (br (decide
  ((have __src := atC { lv := m.lv, ds := m.ds, rm := m.rm, cl := m.cl, lev := m.lev, st := m.st, day := m.day, due := m.due, rd := m.rd, w0 := m.w0, w1 := m.w1, aw := m.aw : Ms } d;
      { lv := __src.lv, ds := __src.ds, rm := __src.rm, cl := __src.cl, lev := __src.lev, st := 1, day := __src.day, due := __src.due, rd := __src.rd, w0 := __src.w0, w1 := __src.w1, aw := __src.aw : Ms }).rd <
    (have __src := atC { lv := m.lv, ds := m.ds, rm := m.rm, cl := m.cl, lev := m.lev, st := m.st, day := m.day, due := m.due, rd := m.rd, w0 := m.w0, w1 := m.w1, aw := m.aw : Ms } d;
      { lv := __src.lv, ds := __src.ds, rm := __src.rm, cl := __src.cl, lev := __src.lev, st := 1, day := __src.day, due := __src.due, rd := __src.rd, w0 := __src.w0, w1 := __src.w1, aw := __src.aw : Ms }).rm)) (some [.slice [.int .u8] (winOf ((winOf ((winOf (Row.nil.app (winOf ((Row.zeros 1).setI 0 0 1) 0 1)) 0 1).app (winOf ((Row.zeros 1).setI 0 0 3) 0 1)) 0 2).app (winOf ((Row.zeros 1).setI 0 0 5) 0 1)) 0 3), .v (i64 (0))]) (some [.slice [.int .u8] (winOf ((winOf (Row.nil.app (winOf ((Row.zeros 1).setI 0 0 1) 0 1)) 0 1).app (winOf ((Row.zeros 1).setI 0 0 3) 0 1)) 0 2), .v (i64 (0))]))) (br ((have __src := atC { lv := m.lv, ds := m.ds, rm := m.rm, cl := m.cl, lev := m.lev, st := m.st, day := m.day, due := m.due, rd := m.rd, w0 := m.w0, w1 := m.w1, aw := m.aw : Ms } d;
    { lv := __src.lv, ds := __src.ds, rm := __src.rm, cl := __src.cl, lev := __src.lev, st := 1, day := __src.day, due := __src.due, rd := __src.rd, w0 := __src.w0, w1 := __src.w1, aw := __src.aw : Ms }).lev ==
  0) (some [.slice [.int .u8] (winOf ((winOf ((winOf (Row.nil.app (winOf ((Row.zeros 1).setI 0 0 1) 0 1)) 0 1).app (winOf ((Row.zeros 1).setI 0 0 3) 0 1)) 0 2).app (winOf ((Row.zeros 1).setI 0 0 4) 0 1)) 0 3), .v (i64 (0))]) (br (decide
  ((have __src := atC { lv := m.lv, ds := m.ds, rm := m.rm, cl := m.cl, lev := m.lev, st := m.st, day := m.day, due := m.due, rd := m.rd, w0 := m.w0, w1 := m.w1, aw := m.aw : Ms } d;
      { lv := __src.lv, ds := __src.ds, rm := __src.rm, cl := __src.cl, lev := __src.lev, st := 1, day := __src.day, due := __src.due, rd := __src.rd, w0 := __src.w0, w1 := __src.w1, aw := __src.aw : Ms }).rd <
    (have __src := atC { lv := m.lv, ds := m.ds, rm := m.rm, cl := m.cl, lev := m.lev, st := m.st, day := m.day, due := m.due, rd := m.rd, w0 := m.w0, w1 := m.w1, aw := m.aw : Ms } d;
      { lv := __src.lv, ds := __src.ds, rm := __src.rm, cl := __src.cl, lev := __src.lev, st := 1, day := __src.day, due := __src.due, rd := __src.rd, w0 := __src.w0, w1 := __src.w1, aw := __src.aw : Ms }).rm)) (some [.slice [.int .u8] (winOf ((winOf ((winOf ((winOf (Row.nil.app (winOf ((Row.zeros 1).setI 0 0 1) 0 1)) 0 1).app (winOf ((Row.zeros 1).setI 0 0 3) 0 1)) 0 2).app (winOf ((Row.zeros 1).setI 0 0 4) 0 1)) 0 3).app (winOf ((Row.zeros 1).setI 0 0 5) 0 1)) 0 4), .v (i64 (0))]) (some [.slice [.int .u8] (winOf ((winOf ((winOf (Row.nil.app (winOf ((Row.zeros 1).setI 0 0 1) 0 1)) 0 1).app (winOf ((Row.zeros 1).setI 0 0 3) 0 1)) 0 2).app (winOf ((Row.zeros 1).setI 0 0 4) 0 1)) 0 3), .v (i64 (0))]))))))) (none) := by kernel_rfl
theorem talp2 (m : Ms) (d : Int) : evF (C4 2) 6 14 [msD m, .v (i64 d)] =
    br (decide ((atC { lv := m.lv, ds := m.ds, rm := m.rm, cl := m.cl, lev := m.lev, st := m.st, day := m.day, due := m.due, rd := m.rd, w0 := m.w0, w1 := m.w1, aw := m.aw : Ms } d).st = 2)) (br (atE m d != 0) (some [.slice [.int .u8] (Row.nil), .v (i64 (atE m d))]) (some [.slice [.int .u8] (winOf ((winOf (Row.nil.app (winOf ((Row.zeros 1).setI 0 0 2) 0 1)) 0 1).app (winOf ((Row.zeros 1).setI 0 0 6) 0 1)) 0 2), .v (i64 (0))])) (none) := by kernel_rfl
theorem talp3 (m : Ms) (d : Int) : evF (C4 3) 6 14 [msD m, .v (i64 d)] =
    br (decide ((atC { lv := m.lv, ds := m.ds, rm := m.rm, cl := m.cl, lev := m.lev, st := m.st, day := m.day, due := m.due, rd := m.rd, w0 := m.w0, w1 := m.w1, aw := m.aw : Ms } d).st = 3)) (br (atE m d != 0) (some [.slice [.int .u8] (Row.nil), .v (i64 (atE m d))]) (some [.slice [.int .u8] (Row.nil), .v (i64 (0))])) (none) := by kernel_rfl
theorem talr0 (m : Ms) (d : Int) : evF (C4 0) 6 15 [msD m, .v (i64 d)] =
    br (decide ((atC { lv := m.lv, ds := m.ds, rm := m.rm, cl := m.cl, lev := m.lev, st := m.st, day := m.day, due := m.due, rd := m.rd, w0 := m.w0, w1 := m.w1, aw := m.aw : Ms } d).st = 0)) (br (atE m d != 0) (some [.slice [.int .u8] (Row.nil), .v (i64 (atE m d))]) (some [.slice [.int .u8] (Row.nil), .v (i64 (0))])) (none) := by kernel_rfl
theorem talr1 (m : Ms) (d : Int) : evF (C4 1) 6 15 [msD m, .v (i64 d)] =
    br (decide ((atC { lv := m.lv, ds := m.ds, rm := m.rm, cl := m.cl, lev := m.lev, st := m.st, day := m.day, due := m.due, rd := m.rd, w0 := m.w0, w1 := m.w1, aw := m.aw : Ms } d).st = 1)) (br (atE m d != 0) (some [.slice [.int .u8] (Row.nil), .v (i64 (atE m d))]) (br ((have __src := atC { lv := m.lv, ds := m.ds, rm := m.rm, cl := m.cl, lev := m.lev, st := m.st, day := m.day, due := m.due, rd := m.rd, w0 := m.w0, w1 := m.w1, aw := m.aw : Ms } d;
    { lv := __src.lv, ds := __src.ds, rm := __src.rm, cl := __src.cl, lev := __src.lev, st := 1, day := __src.day, due := __src.due, rd := __src.rd, w0 := __src.w0, w1 := __src.w1, aw := __src.aw : Ms }).lev ==
  0) (br (decide
  ((have __src := atC { lv := m.lv, ds := m.ds, rm := m.rm, cl := m.cl, lev := m.lev, st := m.st, day := m.day, due := m.due, rd := m.rd, w0 := m.w0, w1 := m.w1, aw := m.aw : Ms } d;
      { lv := __src.lv, ds := __src.ds, rm := __src.rm, cl := __src.cl, lev := __src.lev, st := 1, day := __src.day, due := __src.due, rd := __src.rd, w0 := __src.w0, w1 := __src.w1, aw := __src.aw : Ms }).lev >
    0)) (br (decide
  ((have __src := atC { lv := m.lv, ds := m.ds, rm := m.rm, cl := m.cl, lev := m.lev, st := m.st, day := m.day, due := m.due, rd := m.rd, w0 := m.w0, w1 := m.w1, aw := m.aw : Ms } d;
      { lv := __src.lv, ds := __src.ds, rm := __src.rm, cl := __src.cl, lev := __src.lev, st := 1, day := __src.day, due := __src.due, rd := __src.rd, w0 := __src.w0, w1 := __src.w1, aw := __src.aw : Ms }).lev >
    0)) (br (decide
  ((have __src := atC { lv := m.lv, ds := m.ds, rm := m.rm, cl := m.cl, lev := m.lev, st := m.st, day := m.day, due := m.due, rd := m.rd, w0 := m.w0, w1 := m.w1, aw := m.aw : Ms } d;
      { lv := __src.lv, ds := __src.ds, rm := __src.rm, cl := __src.cl, lev := __src.lev, st := 1, day := __src.day, due := __src.due, rd := __src.rd, w0 := __src.w0, w1 := __src.w1, aw := __src.aw : Ms }).lev >
    0)) (br (decide
  ((have __src := atC { lv := m.lv, ds := m.ds, rm := m.rm, cl := m.cl, lev := m.lev, st := m.st, day := m.day, due := m.due, rd := m.rd, w0 := m.w0, w1 := m.w1, aw := m.aw : Ms } d;
      { lv := __src.lv, ds := __src.ds, rm := __src.rm, cl := __src.cl, lev := __src.lev, st := 1, day := __src.day, due := __src.due, rd := __src.rd, w0 := __src.w0, w1 := __src.w1, aw := __src.aw : Ms }).rd <
    (have __src := atC { lv := m.lv, ds := m.ds, rm := m.rm, cl := m.cl, lev := m.lev, st := m.st, day := m.day, due := m.due, rd := m.rd, w0 := m.w0, w1 := m.w1, aw := m.aw : Ms } d;
      { lv := __src.lv, ds := __src.ds, rm := __src.rm, cl := __src.cl, lev := __src.lev, st := 1, day := __src.day, due := __src.due, rd := __src.rd, w0 := __src.w0, w1 := __src.w1, aw := __src.aw : Ms }).rm)) (some [.slice [.int .u8] (winOf ((winOf ((winOf ((winOf (Row.nil.app (winOf ((Row.zeros 1).setI 0 0 1) 0 1)) 0 1).app (winOf ((Row.zeros 1).setI 0 0 (IntKind.u8.wrap (IntKind.u8.wrap (1 + 1) + 1))) 0 1)) 0 2).app (winOf ((Row.zeros 1).setI 0 0 (IntKind.u8.wrap (IntKind.u8.wrap (IntKind.u8.wrap (1 + 1) + 1) + 1))) 0 1)) 0 3).app (winOf ((Row.zeros 1).setI 0 0 (IntKind.u8.wrap (IntKind.u8.wrap (IntKind.u8.wrap (IntKind.u8.wrap (1 + 1) + 1) + 1) + 1))) 0 1)) 0 4), .v (i64 (0))]) (some [.slice [.int .u8] (winOf ((winOf ((winOf (Row.nil.app (winOf ((Row.zeros 1).setI 0 0 1) 0 1)) 0 1).app (winOf ((Row.zeros 1).setI 0 0 (IntKind.u8.wrap (IntKind.u8.wrap (1 + 1) + 1))) 0 1)) 0 2).app (winOf ((Row.zeros 1).setI 0 0 (IntKind.u8.wrap (IntKind.u8.wrap (IntKind.u8.wrap (1 + 1) + 1) + 1))) 0 1)) 0 3), .v (i64 (0))])) (some [.slice [.int .u8] (winOf ((winOf ((winOf (Row.nil.app (winOf ((Row.zeros 1).setI 0 0 1) 0 1)) 0 1).app (winOf ((Row.zeros 1).setI 0 0 (IntKind.u8.wrap (IntKind.u8.wrap (1 + 1) + 1))) 0 1)) 0 2).app (winOf ((Row.zeros 1).setI 0 0 (IntKind.u8.wrap (IntKind.u8.wrap (IntKind.u8.wrap (1 + 1) + 1) + 1))) 0 1)) 0 3), .v (i64 (0))])) (br (decide
  ((have __src := atC { lv := m.lv, ds := m.ds, rm := m.rm, cl := m.cl, lev := m.lev, st := m.st, day := m.day, due := m.due, rd := m.rd, w0 := m.w0, w1 := m.w1, aw := m.aw : Ms } d;
      { lv := __src.lv, ds := __src.ds, rm := __src.rm, cl := __src.cl, lev := __src.lev, st := 1, day := __src.day, due := __src.due, rd := __src.rd, w0 := __src.w0, w1 := __src.w1, aw := __src.aw : Ms }).lev >
    0)) (br (decide
  ((have __src := atC { lv := m.lv, ds := m.ds, rm := m.rm, cl := m.cl, lev := m.lev, st := m.st, day := m.day, due := m.due, rd := m.rd, w0 := m.w0, w1 := m.w1, aw := m.aw : Ms } d;
      { lv := __src.lv, ds := __src.ds, rm := __src.rm, cl := __src.cl, lev := __src.lev, st := 1, day := __src.day, due := __src.due, rd := __src.rd, w0 := __src.w0, w1 := __src.w1, aw := __src.aw : Ms }).rd <
    (have __src := atC { lv := m.lv, ds := m.ds, rm := m.rm, cl := m.cl, lev := m.lev, st := m.st, day := m.day, due := m.due, rd := m.rd, w0 := m.w0, w1 := m.w1, aw := m.aw : Ms } d;
      { lv := __src.lv, ds := __src.ds, rm := __src.rm, cl := __src.cl, lev := __src.lev, st := 1, day := __src.day, due := __src.due, rd := __src.rd, w0 := __src.w0, w1 := __src.w1, aw := __src.aw : Ms }).rm)) (some [.slice [.int .u8] (winOf ((winOf ((winOf (Row.nil.app (winOf ((Row.zeros 1).setI 0 0 1) 0 1)) 0 1).app (winOf ((Row.zeros 1).setI 0 0 (IntKind.u8.wrap (IntKind.u8.wrap (1 + 1) + 1))) 0 1)) 0 2).app (winOf ((Row.zeros 1).setI 0 0 (IntKind.u8.wrap (IntKind.u8.wrap (IntKind.u8.wrap (IntKind.u8.wrap (1 + 1) + 1) + 1) + 1))) 0 1)) 0 3), .v (i64 (0))]) (some [.slice [.int .u8] (winOf ((winOf (Row.nil.app (winOf ((Row.zeros 1).setI 0 0 1) 0 1)) 0 1).app (winOf ((Row.zeros 1).setI 0 0 (IntKind.u8.wrap (IntKind.u8.wrap (1 + 1) + 1))) 0 1)) 0 2), .v (i64 (0))])) (some [.slice [.int .u8] (winOf ((winOf (Row.nil.app (winOf ((Row.zeros 1).setI 0 0 1) 0 1)) 0 1).app (winOf ((Row.zeros 1).setI 0 0 (IntKind.u8.wrap (IntKind.u8.wrap (1 + 1) + 1))) 0 1)) 0 2), .v (i64 (0))]))) (br (decide
  ((have __src := atC { lv := m.lv, ds := m.ds, rm := m.rm, cl := m.cl, lev := m.lev, st := m.st, day := m.day, due := m.due, rd := m.rd, w0 := m.w0, w1 := m.w1, aw := m.aw : Ms } d;
      { lv := __src.lv, ds := __src.ds, rm := __src.rm, cl := __src.cl, lev := __src.lev, st := 1, day := __src.day, due := __src.due, rd := __src.rd, w0 := __src.w0, w1 := __src.w1, aw := __src.aw : Ms }).lev >
    0)) (br (decide
  ((have __src := atC { lv := m.lv, ds := m.ds, rm := m.rm, cl := m.cl, lev := m.lev, st := m.st, day := m.day, due := m.due, rd := m.rd, w0 := m.w0, w1 := m.w1, aw := m.aw : Ms } d;
      { lv := __src.lv, ds := __src.ds, rm := __src.rm, cl := __src.cl, lev := __src.lev, st := 1, day := __src.day, due := __src.due, rd := __src.rd, w0 := __src.w0, w1 := __src.w1, aw := __src.aw : Ms }).lev >
    0)) (br (decide
  ((have __src := atC { lv := m.lv, ds := m.ds, rm := m.rm, cl := m.cl, lev := m.lev, st := m.st, day := m.day, due := m.due, rd := m.rd, w0 := m.w0, w1 := m.w1, aw := m.aw : Ms } d;
      { lv := __src.lv, ds := __src.ds, rm := __src.rm, cl := __src.cl, lev := __src.lev, st := 1, day := __src.day, due := __src.due, rd := __src.rd, w0 := __src.w0, w1 := __src.w1, aw := __src.aw : Ms }).rd <
    (have __src := atC { lv := m.lv, ds := m.ds, rm := m.rm, cl := m.cl, lev := m.lev, st := m.st, day := m.day, due := m.due, rd := m.rd, w0 := m.w0, w1 := m.w1, aw := m.aw : Ms } d;
      { lv := __src.lv, ds := __src.ds, rm := __src.rm, cl := __src.cl, lev := __src.lev, st := 1, day := __src.day, due := __src.due, rd := __src.rd, w0 := __src.w0, w1 := __src.w1, aw := __src.aw : Ms }).rm)) (some [.slice [.int .u8] (winOf ((winOf ((winOf (Row.nil.app (winOf ((Row.zeros 1).setI 0 0 1) 0 1)) 0 1).app (winOf ((Row.zeros 1).setI 0 0 (IntKind.u8.wrap (IntKind.u8.wrap (IntKind.u8.wrap (1 + 1) + 1) + 1))) 0 1)) 0 2).app (winOf ((Row.zeros 1).setI 0 0 (IntKind.u8.wrap (IntKind.u8.wrap (IntKind.u8.wrap (IntKind.u8.wrap (1 + 1) + 1) + 1) + 1))) 0 1)) 0 3), .v (i64 (0))]) (some [.slice [.int .u8] (winOf ((winOf (Row.nil.app (winOf ((Row.zeros 1).setI 0 0 1) 0 1)) 0 1).app (winOf ((Row.zeros 1).setI 0 0 (IntKind.u8.wrap (IntKind.u8.wrap (IntKind.u8.wrap (1 + 1) + 1) + 1))) 0 1)) 0 2), .v (i64 (0))])) (some [.slice [.int .u8] (winOf ((winOf (Row.nil.app (winOf ((Row.zeros 1).setI 0 0 1) 0 1)) 0 1).app (winOf ((Row.zeros 1).setI 0 0 (IntKind.u8.wrap (IntKind.u8.wrap (IntKind.u8.wrap (1 + 1) + 1) + 1))) 0 1)) 0 2), .v (i64 (0))])) (br (decide
  ((have __src := atC { lv := m.lv, ds := m.ds, rm := m.rm, cl := m.cl, lev := m.lev, st := m.st, day := m.day, due := m.due, rd := m.rd, w0 := m.w0, w1 := m.w1, aw := m.aw : Ms } d;
      { lv := __src.lv, ds := __src.ds, rm := __src.rm, cl := __src.cl, lev := __src.lev, st := 1, day := __src.day, due := __src.due, rd := __src.rd, w0 := __src.w0, w1 := __src.w1, aw := __src.aw : Ms }).lev >
    0)) (br (decide
  ((have __src := atC { lv := m.lv, ds := m.ds, rm := m.rm, cl := m.cl, lev := m.lev, st := m.st, day := m.day, due := m.due, rd := m.rd, w0 := m.w0, w1 := m.w1, aw := m.aw : Ms } d;
      { lv := __src.lv, ds := __src.ds, rm := __src.rm, cl := __src.cl, lev := __src.lev, st := 1, day := __src.day, due := __src.due, rd := __src.rd, w0 := __src.w0, w1 := __src.w1, aw := __src.aw : Ms }).rd <
    (have __src := atC { lv := m.lv, ds := m.ds, rm := m.rm, cl := m.cl, lev := m.lev, st := m.st, day := m.day, due := m.due, rd := m.rd, w0 := m.w0, w1 := m.w1, aw := m.aw : Ms } d;
      { lv := __src.lv, ds := __src.ds, rm := __src.rm, cl := __src.cl, lev := __src.lev, st := 1, day := __src.day, due := __src.due, rd := __src.rd, w0 := __src.w0, w1 := __src.w1, aw := __src.aw : Ms }).rm)) (some [.slice [.int .u8] (winOf ((winOf (Row.nil.app (winOf ((Row.zeros 1).setI 0 0 1) 0 1)) 0 1).app (winOf ((Row.zeros 1).setI 0 0 (IntKind.u8.wrap (IntKind.u8.wrap (IntKind.u8.wrap (IntKind.u8.wrap (1 + 1) + 1) + 1) + 1))) 0 1)) 0 2), .v (i64 (0))]) (some [.slice [.int .u8] (winOf (Row.nil.app (winOf ((Row.zeros 1).setI 0 0 1) 0 1)) 0 1), .v (i64 (0))])) (some [.slice [.int .u8] (winOf (Row.nil.app (winOf ((Row.zeros 1).setI 0 0 1) 0 1)) 0 1), .v (i64 (0))])))) (br (decide
  ((have __src := atC { lv := m.lv, ds := m.ds, rm := m.rm, cl := m.cl, lev := m.lev, st := m.st, day := m.day, due := m.due, rd := m.rd, w0 := m.w0, w1 := m.w1, aw := m.aw : Ms } d;
      { lv := __src.lv, ds := __src.ds, rm := __src.rm, cl := __src.cl, lev := __src.lev, st := 1, day := __src.day, due := __src.due, rd := __src.rd, w0 := __src.w0, w1 := __src.w1, aw := __src.aw : Ms }).lev >
    0)) (br (decide
  ((have __src := atC { lv := m.lv, ds := m.ds, rm := m.rm, cl := m.cl, lev := m.lev, st := m.st, day := m.day, due := m.due, rd := m.rd, w0 := m.w0, w1 := m.w1, aw := m.aw : Ms } d;
      { lv := __src.lv, ds := __src.ds, rm := __src.rm, cl := __src.cl, lev := __src.lev, st := 1, day := __src.day, due := __src.due, rd := __src.rd, w0 := __src.w0, w1 := __src.w1, aw := __src.aw : Ms }).lev >
    0)) (br (decide
  ((have __src := atC { lv := m.lv, ds := m.ds, rm := m.rm, cl := m.cl, lev := m.lev, st := m.st, day := m.day, due := m.due, rd := m.rd, w0 := m.w0, w1 := m.w1, aw := m.aw : Ms } d;
      { lv := __src.lv, ds := __src.ds, rm := __src.rm, cl := __src.cl, lev := __src.lev, st := 1, day := __src.day, due := __src.due, rd := __src.rd, w0 := __src.w0, w1 := __src.w1, aw := __src.aw : Ms }).lev >
    0)) (br (decide
  ((have __src := atC { lv := m.lv, ds := m.ds, rm := m.rm, cl := m.cl, lev := m.lev, st := m.st, day := m.day, due := m.due, rd := m.rd, w0 := m.w0, w1 := m.w1, aw := m.aw : Ms } d;
      { lv := __src.lv, ds := __src.ds, rm := __src.rm, cl := __src.cl, lev := __src.lev, st := 1, day := __src.day, due := __src.due, rd := __src.rd, w0 := __src.w0, w1 := __src.w1, aw := __src.aw : Ms }).rd <
    (have __src := atC { lv := m.lv, ds := m.ds, rm := m.rm, cl := m.cl, lev := m.lev, st := m.st, day := m.day, due := m.due, rd := m.rd, w0 := m.w0, w1 := m.w1, aw := m.aw : Ms } d;
      { lv := __src.lv, ds := __src.ds, rm := __src.rm, cl := __src.cl, lev := __src.lev, st := 1, day := __src.day, due := __src.due, rd := __src.rd, w0 := __src.w0, w1 := __src.w1, aw := __src.aw : Ms }).rm)) (some [.slice [.int .u8] (winOf ((winOf ((winOf (Row.nil.app (winOf ((Row.zeros 1).setI 0 0 (IntKind.u8.wrap (IntKind.u8.wrap (1 + 1) + 1))) 0 1)) 0 1).app (winOf ((Row.zeros 1).setI 0 0 (IntKind.u8.wrap (IntKind.u8.wrap (IntKind.u8.wrap (1 + 1) + 1) + 1))) 0 1)) 0 2).app (winOf ((Row.zeros 1).setI 0 0 (IntKind.u8.wrap (IntKind.u8.wrap (IntKind.u8.wrap (IntKind.u8.wrap (1 + 1) + 1) + 1) + 1))) 0 1)) 0 3), .v (i64 (0))]) (some [.slice [.int .u8] (winOf ((winOf (Row.nil.app (winOf ((Row.zeros 1).setI 0 0 (IntKind.u8.wrap (IntKind.u8.wrap (1 + 1) + 1))) 0 1)) 0 1).app (winOf ((Row.zeros 1).setI 0 0 (IntKind.u8.wrap (IntKind.u8.wrap (IntKind.u8.wrap (1 + 1) + 1) + 1))) 0 1)) 0 2), .v (i64 (0))])) (some [.slice [.int .u8] (winOf ((winOf (Row.nil.app (winOf ((Row.zeros 1).setI 0 0 (IntKind.u8.wrap (IntKind.u8.wrap (1 + 1) + 1))) 0 1)) 0 1).app (winOf ((Row.zeros 1).setI 0 0 (IntKind.u8.wrap (IntKind.u8.wrap (IntKind.u8.wrap (1 + 1) + 1) + 1))) 0 1)) 0 2), .v (i64 (0))])) (br (decide
  ((have __src := atC { lv := m.lv, ds := m.ds, rm := m.rm, cl := m.cl, lev := m.lev, st := m.st, day := m.day, due := m.due, rd := m.rd, w0 := m.w0, w1 := m.w1, aw := m.aw : Ms } d;
      { lv := __src.lv, ds := __src.ds, rm := __src.rm, cl := __src.cl, lev := __src.lev, st := 1, day := __src.day, due := __src.due, rd := __src.rd, w0 := __src.w0, w1 := __src.w1, aw := __src.aw : Ms }).lev >
    0)) (br (decide
  ((have __src := atC { lv := m.lv, ds := m.ds, rm := m.rm, cl := m.cl, lev := m.lev, st := m.st, day := m.day, due := m.due, rd := m.rd, w0 := m.w0, w1 := m.w1, aw := m.aw : Ms } d;
      { lv := __src.lv, ds := __src.ds, rm := __src.rm, cl := __src.cl, lev := __src.lev, st := 1, day := __src.day, due := __src.due, rd := __src.rd, w0 := __src.w0, w1 := __src.w1, aw := __src.aw : Ms }).rd <
    (have __src := atC { lv := m.lv, ds := m.ds, rm := m.rm, cl := m.cl, lev := m.lev, st := m.st, day := m.day, due := m.due, rd := m.rd, w0 := m.w0, w1 := m.w1, aw := m.aw : Ms } d;
      { lv := __src.lv, ds := __src.ds, rm := __src.rm, cl := __src.cl, lev := __src.lev, st := 1, day := __src.day, due := __src.due, rd := __src.rd, w0 := __src.w0, w1 := __src.w1, aw := __src.aw : Ms }).rm)) (some [.slice [.int .u8] (winOf ((winOf (Row.nil.app (winOf ((Row.zeros 1).setI 0 0 (IntKind.u8.wrap (IntKind.u8.wrap (1 + 1) + 1))) 0 1)) 0 1).app (winOf ((Row.zeros 1).setI 0 0 (IntKind.u8.wrap (IntKind.u8.wrap (IntKind.u8.wrap (IntKind.u8.wrap (1 + 1) + 1) + 1) + 1))) 0 1)) 0 2), .v (i64 (0))]) (some [.slice [.int .u8] (winOf (Row.nil.app (winOf ((Row.zeros 1).setI 0 0 (IntKind.u8.wrap (IntKind.u8.wrap (1 + 1) + 1))) 0 1)) 0 1), .v (i64 (0))])) (some [.slice [.int .u8] (winOf (Row.nil.app (winOf ((Row.zeros 1).setI 0 0 (IntKind.u8.wrap (IntKind.u8.wrap (1 + 1) + 1))) 0 1)) 0 1), .v (i64 (0))]))) (br (decide
  ((have __src := atC { lv := m.lv, ds := m.ds, rm := m.rm, cl := m.cl, lev := m.lev, st := m.st, day := m.day, due := m.due, rd := m.rd, w0 := m.w0, w1 := m.w1, aw := m.aw : Ms } d;
      { lv := __src.lv, ds := __src.ds, rm := __src.rm, cl := __src.cl, lev := __src.lev, st := 1, day := __src.day, due := __src.due, rd := __src.rd, w0 := __src.w0, w1 := __src.w1, aw := __src.aw : Ms }).lev >
    0)) (br (decide
  ((have __src := atC { lv := m.lv, ds := m.ds, rm := m.rm, cl := m.cl, lev := m.lev, st := m.st, day := m.day, due := m.due, rd := m.rd, w0 := m.w0, w1 := m.w1, aw := m.aw : Ms } d;
      { lv := __src.lv, ds := __src.ds, rm := __src.rm, cl := __src.cl, lev := __src.lev, st := 1, day := __src.day, due := __src.due, rd := __src.rd, w0 := __src.w0, w1 := __src.w1, aw := __src.aw : Ms }).lev >
    0)) (br (decide
  ((have __src := atC { lv := m.lv, ds := m.ds, rm := m.rm, cl := m.cl, lev := m.lev, st := m.st, day := m.day, due := m.due, rd := m.rd, w0 := m.w0, w1 := m.w1, aw := m.aw : Ms } d;
      { lv := __src.lv, ds := __src.ds, rm := __src.rm, cl := __src.cl, lev := __src.lev, st := 1, day := __src.day, due := __src.due, rd := __src.rd, w0 := __src.w0, w1 := __src.w1, aw := __src.aw : Ms }).rd <
    (have __src := atC { lv := m.lv, ds := m.ds, rm := m.rm, cl := m.cl, lev := m.lev, st := m.st, day := m.day, due := m.due, rd := m.rd, w0 := m.w0, w1 := m.w1, aw := m.aw : Ms } d;
      { lv := __src.lv, ds := __src.ds, rm := __src.rm, cl := __src.cl, lev := __src.lev, st := 1, day := __src.day, due := __src.due, rd := __src.rd, w0 := __src.w0, w1 := __src.w1, aw := __src.aw : Ms }).rm)) (some [.slice [.int .u8] (winOf ((winOf (Row.nil.app (winOf ((Row.zeros 1).setI 0 0 (IntKind.u8.wrap (IntKind.u8.wrap (IntKind.u8.wrap (1 + 1) + 1) + 1))) 0 1)) 0 1).app (winOf ((Row.zeros 1).setI 0 0 (IntKind.u8.wrap (IntKind.u8.wrap (IntKind.u8.wrap (IntKind.u8.wrap (1 + 1) + 1) + 1) + 1))) 0 1)) 0 2), .v (i64 (0))]) (some [.slice [.int .u8] (winOf (Row.nil.app (winOf ((Row.zeros 1).setI 0 0 (IntKind.u8.wrap (IntKind.u8.wrap (IntKind.u8.wrap (1 + 1) + 1) + 1))) 0 1)) 0 1), .v (i64 (0))])) (some [.slice [.int .u8] (winOf (Row.nil.app (winOf ((Row.zeros 1).setI 0 0 (IntKind.u8.wrap (IntKind.u8.wrap (IntKind.u8.wrap (1 + 1) + 1) + 1))) 0 1)) 0 1), .v (i64 (0))])) (br (decide
  ((have __src := atC { lv := m.lv, ds := m.ds, rm := m.rm, cl := m.cl, lev := m.lev, st := m.st, day := m.day, due := m.due, rd := m.rd, w0 := m.w0, w1 := m.w1, aw := m.aw : Ms } d;
      { lv := __src.lv, ds := __src.ds, rm := __src.rm, cl := __src.cl, lev := __src.lev, st := 1, day := __src.day, due := __src.due, rd := __src.rd, w0 := __src.w0, w1 := __src.w1, aw := __src.aw : Ms }).lev >
    0)) (br (decide
  ((have __src := atC { lv := m.lv, ds := m.ds, rm := m.rm, cl := m.cl, lev := m.lev, st := m.st, day := m.day, due := m.due, rd := m.rd, w0 := m.w0, w1 := m.w1, aw := m.aw : Ms } d;
      { lv := __src.lv, ds := __src.ds, rm := __src.rm, cl := __src.cl, lev := __src.lev, st := 1, day := __src.day, due := __src.due, rd := __src.rd, w0 := __src.w0, w1 := __src.w1, aw := __src.aw : Ms }).rd <
    (have __src := atC { lv := m.lv, ds := m.ds, rm := m.rm, cl := m.cl, lev := m.lev, st := m.st, day := m.day, due := m.due, rd := m.rd, w0 := m.w0, w1 := m.w1, aw := m.aw : Ms } d;
      { lv := __src.lv, ds := __src.ds, rm := __src.rm, cl := __src.cl, lev := __src.lev, st := 1, day := __src.day, due := __src.due, rd := __src.rd, w0 := __src.w0, w1 := __src.w1, aw := __src.aw : Ms }).rm)) (some [.slice [.int .u8] (winOf (Row.nil.app (winOf ((Row.zeros 1).setI 0 0 (IntKind.u8.wrap (IntKind.u8.wrap (IntKind.u8.wrap (IntKind.u8.wrap (1 + 1) + 1) + 1) + 1))) 0 1)) 0 1), .v (i64 (0))]) (some [.slice [.int .u8] (Row.nil), .v (i64 (0))])) (some [.slice [.int .u8] (Row.nil), .v (i64 (0))])))))) (none) := by kernel_rfl
theorem talr2 (m : Ms) (d : Int) : evF (C4 2) 6 15 [msD m, .v (i64 d)] =
    br (decide ((atC { lv := m.lv, ds := m.ds, rm := m.rm, cl := m.cl, lev := m.lev, st := m.st, day := m.day, due := m.due, rd := m.rd, w0 := m.w0, w1 := m.w1, aw := m.aw : Ms } d).st = 2)) (br (atE m d != 0) (some [.slice [.int .u8] (Row.nil), .v (i64 (atE m d))]) (some [.slice [.int .u8] (winOf ((winOf (Row.nil.app (winOf ((Row.zeros 1).setI 0 0 (IntKind.u8.wrap (1 + 1))) 0 1)) 0 1).app (winOf ((Row.zeros 1).setI 0 0 (IntKind.u8.wrap (IntKind.u8.wrap (IntKind.u8.wrap (IntKind.u8.wrap (IntKind.u8.wrap (1 + 1) + 1) + 1) + 1) + 1))) 0 1)) 0 2), .v (i64 (0))])) (none) := by kernel_rfl
theorem talr3 (m : Ms) (d : Int) : evF (C4 3) 6 15 [msD m, .v (i64 d)] =
    br (decide ((atC { lv := m.lv, ds := m.ds, rm := m.rm, cl := m.cl, lev := m.lev, st := m.st, day := m.day, due := m.due, rd := m.rd, w0 := m.w0, w1 := m.w1, aw := m.aw : Ms } d).st = 3)) (br (atE m d != 0) (some [.slice [.int .u8] (Row.nil), .v (i64 (atE m d))]) (some [.slice [.int .u8] (Row.nil), .v (i64 (0))])) (none) := by kernel_rfl

/-- The rows of the kinds. -/
def appK (o : Row) (k : Int) : Row := winOf (o.app (winOf ((Row.zeros 1).setI 0 0 k) 0 1)) 0 (o.n + 1)
def kR (m : Ms) : Row := if m.st = 1 then (if m.lev = 0 then appK .nil 1 else if m.rd < m.rm then appK (appK (appK .nil 3) 4) 5 else appK (appK .nil 3) 4) else if m.st = 2 then appK (appK .nil 2) 6 else .nil
def alR (m : Ms) (d : Int) : Row := if atE m d = 0 then kR (atC m d) else .nil
def Fal : List D → Option (Bool × List D)
  | [.agg [.v (.int .i64 lv), .v (.int .i64 ds_), .v (.int .i64 rm), .v (.int .i64 cl), .v (.int .i64 lev), .v (.int .u8 st), .v (.int .i64 day), .v (.int .i64 due), .v (.int .i64 rd), .v (.bool w0), .v (.bool w1), .v (.int .i64 aw)], .v (.int .i64 d)] => some (true, [.slice [.int .u8] (alR ⟨lv, ds_, rm, cl, lev, st, day, due, rd, w0, w1, aw⟩ d), .v (i64 (atE ⟨lv, ds_, rm, cl, lev, st, day, due, rd, w0, w1, aw⟩ d))])
  | _ => none
def Fals (s : Int) : List D → Option (Bool × List D)
  | [.agg [.v (.int .i64 lv), .v (.int .i64 ds_), .v (.int .i64 rm), .v (.int .i64 cl), .v (.int .i64 lev), .v (.int .u8 st), .v (.int .i64 day), .v (.int .i64 due), .v (.int .i64 rd), .v (.bool w0), .v (.bool w1), .v (.int .i64 aw)], .v (.int .i64 d)] => some (decide ((atC ⟨lv, ds_, rm, cl, lev, st, day, due, rd, w0, w1, aw⟩ d).st = s), [.slice [.int .u8] (alR ⟨lv, ds_, rm, cl, lev, st, day, due, rd, w0, w1, aw⟩ d), .v (i64 (atE ⟨lv, ds_, rm, cl, lev, st, day, due, rd, w0, w1, aw⟩ d))])
  | _ => none
theorem den_talp0 : Den Try.prog 14 (Fals 0) := evF_den (C4_ok 0) fun ds rs h => by
  unfold Fals at h
  split at h
  · rename_i lv ds_ rm cl lev st day due rd w0 w1 aw d
    simp only [Option.some.injEq, Prod.mk.injEq, decide_eq_true_eq] at h
    obtain ⟨h2, rfl⟩ := h
    refine (talp0 ⟨lv, ds_, rm, cl, lev, st, day, due, rd, w0, w1, aw⟩ d).trans ?_
    (try dsimp only)
    rw [decide_eq_true h2]
    unfold alR
    by_cases he : atE ⟨lv, ds_, rm, cl, lev, st, day, due, rd, w0, w1, aw⟩ d = 0
    · have hg := (at_good he).2.1
      rw [if_pos he, he]
      generalize atC ⟨lv, ds_, rm, cl, lev, st, day, due, rd, w0, w1, aw⟩ d = q at *
      obtain ⟨_, _, _, _, g5, _, _, _, _, g10, _, _⟩ := hg
      unfold kR
      repeat' refine br_split (fun h => ?_) (fun h => ?_)
      all_goals first | contradiction | ((try simp only [true_and, and_true, true_or, or_true, not_tr, decide_eq_true_eq, Bool.and_eq_true, Bool.or_eq_true, beq_iff_eq, bne_iff_ne, ne_eq, inB_iff, stpB, allB] at *); (repeat' split); all_goals first | rfl | contradiction | (exfalso; omega) | fail "LEAF")
    · rw [if_neg he, show (atE ⟨lv, ds_, rm, cl, lev, st, day, due, rd, w0, w1, aw⟩ d != 0) = true by simpa using he]
      rfl
  · cases h
theorem den_talp1 : Den Try.prog 14 (Fals 1) := evF_den (C4_ok 1) fun ds rs h => by
  unfold Fals at h
  split at h
  · rename_i lv ds_ rm cl lev st day due rd w0 w1 aw d
    simp only [Option.some.injEq, Prod.mk.injEq, decide_eq_true_eq] at h
    obtain ⟨h2, rfl⟩ := h
    refine (talp1 ⟨lv, ds_, rm, cl, lev, st, day, due, rd, w0, w1, aw⟩ d).trans ?_
    (try dsimp only)
    rw [decide_eq_true h2]
    unfold alR
    by_cases he : atE ⟨lv, ds_, rm, cl, lev, st, day, due, rd, w0, w1, aw⟩ d = 0
    · have hg := (at_good he).2.1
      rw [if_pos he, he]
      generalize atC ⟨lv, ds_, rm, cl, lev, st, day, due, rd, w0, w1, aw⟩ d = q at *
      obtain ⟨_, _, _, _, g5, _, _, _, _, g10, _, _⟩ := hg
      unfold kR
      repeat' refine br_split (fun h => ?_) (fun h => ?_)
      all_goals first | contradiction | ((try simp only [true_and, and_true, true_or, or_true, not_tr, decide_eq_true_eq, Bool.and_eq_true, Bool.or_eq_true, beq_iff_eq, bne_iff_ne, ne_eq, inB_iff, stpB, allB] at *); (repeat' split); all_goals first | rfl | contradiction | (exfalso; omega) | fail "LEAF")
    · rw [if_neg he, show (atE ⟨lv, ds_, rm, cl, lev, st, day, due, rd, w0, w1, aw⟩ d != 0) = true by simpa using he]
      rfl
  · cases h
theorem den_talp2 : Den Try.prog 14 (Fals 2) := evF_den (C4_ok 2) fun ds rs h => by
  unfold Fals at h
  split at h
  · rename_i lv ds_ rm cl lev st day due rd w0 w1 aw d
    simp only [Option.some.injEq, Prod.mk.injEq, decide_eq_true_eq] at h
    obtain ⟨h2, rfl⟩ := h
    refine (talp2 ⟨lv, ds_, rm, cl, lev, st, day, due, rd, w0, w1, aw⟩ d).trans ?_
    (try dsimp only)
    rw [decide_eq_true h2]
    unfold alR
    by_cases he : atE ⟨lv, ds_, rm, cl, lev, st, day, due, rd, w0, w1, aw⟩ d = 0
    · have hg := (at_good he).2.1
      rw [if_pos he, he]
      generalize atC ⟨lv, ds_, rm, cl, lev, st, day, due, rd, w0, w1, aw⟩ d = q at *
      obtain ⟨_, _, _, _, g5, _, _, _, _, g10, _, _⟩ := hg
      unfold kR
      repeat' refine br_split (fun h => ?_) (fun h => ?_)
      all_goals first | contradiction | ((try simp only [true_and, and_true, true_or, or_true, not_tr, decide_eq_true_eq, Bool.and_eq_true, Bool.or_eq_true, beq_iff_eq, bne_iff_ne, ne_eq, inB_iff, stpB, allB] at *); (repeat' split); all_goals first | rfl | contradiction | (exfalso; omega) | fail "LEAF")
    · rw [if_neg he, show (atE ⟨lv, ds_, rm, cl, lev, st, day, due, rd, w0, w1, aw⟩ d != 0) = true by simpa using he]
      rfl
  · cases h
theorem den_talp3 : Den Try.prog 14 (Fals 3) := evF_den (C4_ok 3) fun ds rs h => by
  unfold Fals at h
  split at h
  · rename_i lv ds_ rm cl lev st day due rd w0 w1 aw d
    simp only [Option.some.injEq, Prod.mk.injEq, decide_eq_true_eq] at h
    obtain ⟨h2, rfl⟩ := h
    refine (talp3 ⟨lv, ds_, rm, cl, lev, st, day, due, rd, w0, w1, aw⟩ d).trans ?_
    (try dsimp only)
    rw [decide_eq_true h2]
    unfold alR
    by_cases he : atE ⟨lv, ds_, rm, cl, lev, st, day, due, rd, w0, w1, aw⟩ d = 0
    · have hg := (at_good he).2.1
      rw [if_pos he, he]
      generalize atC ⟨lv, ds_, rm, cl, lev, st, day, due, rd, w0, w1, aw⟩ d = q at *
      obtain ⟨_, _, _, _, g5, _, _, _, _, g10, _, _⟩ := hg
      unfold kR
      repeat' refine br_split (fun h => ?_) (fun h => ?_)
      all_goals first | contradiction | ((try simp only [true_and, and_true, true_or, or_true, not_tr, decide_eq_true_eq, Bool.and_eq_true, Bool.or_eq_true, beq_iff_eq, bne_iff_ne, ne_eq, inB_iff, stpB, allB] at *); (repeat' split); all_goals first | rfl | contradiction | (exfalso; omega) | fail "LEAF")
    · rw [if_neg he, show (atE ⟨lv, ds_, rm, cl, lev, st, day, due, rd, w0, w1, aw⟩ d != 0) = true by simpa using he]
      rfl
  · cases h
theorem den_talp : Den Try.prog 14 Fal := Den.cover fun ds rs h => by
  unfold Fal at h
  split at h
  · rename_i lv ds_ rm cl lev st day due rd w0 w1 aw d
    simp only [Option.some.injEq, Prod.mk.injEq] at h
    obtain ⟨_, rfl⟩ := h
    have h3 : (atC ⟨lv, ds_, rm, cl, lev, st, day, due, rd, w0, w1, aw⟩ d).st = 0 ∨ (atC ⟨lv, ds_, rm, cl, lev, st, day, due, rd, w0, w1, aw⟩ d).st = 1 ∨ (atC ⟨lv, ds_, rm, cl, lev, st, day, due, rd, w0, w1, aw⟩ d).st = 2 ∨ (atC ⟨lv, ds_, rm, cl, lev, st, day, due, rd, w0, w1, aw⟩ d).st = 3 := by
      by_cases he : atE ⟨lv, ds_, rm, cl, lev, st, day, due, rd, w0, w1, aw⟩ d = 0
      · have hg := (at_good he).2.1
        exact .inr hg.2.2.2.2.2.2.2.2.2.1
      · rw [at_bad he]; exact .inl rfl
    rcases h3 with h3 | h3 | h3 | h3
    · exact ⟨Fals 0, den_talp0, by unfold Fals; simp only [decide_eq_true h3]⟩
    · exact ⟨Fals 1, den_talp1, by unfold Fals; simp only [decide_eq_true h3]⟩
    · exact ⟨Fals 2, den_talp2, by unfold Fals; simp only [decide_eq_true h3]⟩
    · exact ⟨Fals 3, den_talp3, by unfold Fals; simp only [decide_eq_true h3]⟩
  · cases h
theorem den_talr0 : Den Try.prog 15 (Fals 0) := evF_den (C4_ok 0) fun ds rs h => by
  unfold Fals at h
  split at h
  · rename_i lv ds_ rm cl lev st day due rd w0 w1 aw d
    simp only [Option.some.injEq, Prod.mk.injEq, decide_eq_true_eq] at h
    obtain ⟨h2, rfl⟩ := h
    refine (talr0 ⟨lv, ds_, rm, cl, lev, st, day, due, rd, w0, w1, aw⟩ d).trans ?_
    (try dsimp only)
    rw [decide_eq_true h2]
    unfold alR
    by_cases he : atE ⟨lv, ds_, rm, cl, lev, st, day, due, rd, w0, w1, aw⟩ d = 0
    · have hg := (at_good he).2.1
      rw [if_pos he, he]
      generalize atC ⟨lv, ds_, rm, cl, lev, st, day, due, rd, w0, w1, aw⟩ d = q at *
      obtain ⟨_, _, _, _, g5, _, _, _, _, g10, _, _⟩ := hg
      unfold kR
      repeat' refine br_split (fun h => ?_) (fun h => ?_)
      all_goals first | contradiction | ((try simp only [true_and, and_true, true_or, or_true, not_tr, decide_eq_true_eq, Bool.and_eq_true, Bool.or_eq_true, beq_iff_eq, bne_iff_ne, ne_eq, inB_iff, stpB, allB] at *); (repeat' split); all_goals first | rfl | contradiction | (exfalso; omega) | fail "LEAF")
    · rw [if_neg he, show (atE ⟨lv, ds_, rm, cl, lev, st, day, due, rd, w0, w1, aw⟩ d != 0) = true by simpa using he]
      rfl
  · cases h
theorem den_talr1 : Den Try.prog 15 (Fals 1) := evF_den (C4_ok 1) fun ds rs h => by
  unfold Fals at h
  split at h
  · rename_i lv ds_ rm cl lev st day due rd w0 w1 aw d
    simp only [Option.some.injEq, Prod.mk.injEq, decide_eq_true_eq] at h
    obtain ⟨h2, rfl⟩ := h
    refine (talr1 ⟨lv, ds_, rm, cl, lev, st, day, due, rd, w0, w1, aw⟩ d).trans ?_
    (try dsimp only)
    rw [decide_eq_true h2]
    unfold alR
    by_cases he : atE ⟨lv, ds_, rm, cl, lev, st, day, due, rd, w0, w1, aw⟩ d = 0
    · have hg := (at_good he).2.1
      rw [if_pos he, he]
      generalize atC ⟨lv, ds_, rm, cl, lev, st, day, due, rd, w0, w1, aw⟩ d = q at *
      obtain ⟨_, _, _, _, g5, _, _, _, _, g10, _, _⟩ := hg
      unfold kR
      repeat' refine br_split (fun h => ?_) (fun h => ?_)
      all_goals first | contradiction | ((try simp only [true_and, and_true, true_or, or_true, not_tr, decide_eq_true_eq, Bool.and_eq_true, Bool.or_eq_true, beq_iff_eq, bne_iff_ne, ne_eq, inB_iff, stpB, allB] at *); (repeat' split); all_goals first | rfl | contradiction | (exfalso; omega) | fail "LEAF")
    · rw [if_neg he, show (atE ⟨lv, ds_, rm, cl, lev, st, day, due, rd, w0, w1, aw⟩ d != 0) = true by simpa using he]
      rfl
  · cases h
theorem den_talr2 : Den Try.prog 15 (Fals 2) := evF_den (C4_ok 2) fun ds rs h => by
  unfold Fals at h
  split at h
  · rename_i lv ds_ rm cl lev st day due rd w0 w1 aw d
    simp only [Option.some.injEq, Prod.mk.injEq, decide_eq_true_eq] at h
    obtain ⟨h2, rfl⟩ := h
    refine (talr2 ⟨lv, ds_, rm, cl, lev, st, day, due, rd, w0, w1, aw⟩ d).trans ?_
    (try dsimp only)
    rw [decide_eq_true h2]
    unfold alR
    by_cases he : atE ⟨lv, ds_, rm, cl, lev, st, day, due, rd, w0, w1, aw⟩ d = 0
    · have hg := (at_good he).2.1
      rw [if_pos he, he]
      generalize atC ⟨lv, ds_, rm, cl, lev, st, day, due, rd, w0, w1, aw⟩ d = q at *
      obtain ⟨_, _, _, _, g5, _, _, _, _, g10, _, _⟩ := hg
      unfold kR
      repeat' refine br_split (fun h => ?_) (fun h => ?_)
      all_goals first | contradiction | ((try simp only [true_and, and_true, true_or, or_true, not_tr, decide_eq_true_eq, Bool.and_eq_true, Bool.or_eq_true, beq_iff_eq, bne_iff_ne, ne_eq, inB_iff, stpB, allB] at *); (repeat' split); all_goals first | rfl | contradiction | (exfalso; omega) | fail "LEAF")
    · rw [if_neg he, show (atE ⟨lv, ds_, rm, cl, lev, st, day, due, rd, w0, w1, aw⟩ d != 0) = true by simpa using he]
      rfl
  · cases h
theorem den_talr3 : Den Try.prog 15 (Fals 3) := evF_den (C4_ok 3) fun ds rs h => by
  unfold Fals at h
  split at h
  · rename_i lv ds_ rm cl lev st day due rd w0 w1 aw d
    simp only [Option.some.injEq, Prod.mk.injEq, decide_eq_true_eq] at h
    obtain ⟨h2, rfl⟩ := h
    refine (talr3 ⟨lv, ds_, rm, cl, lev, st, day, due, rd, w0, w1, aw⟩ d).trans ?_
    (try dsimp only)
    rw [decide_eq_true h2]
    unfold alR
    by_cases he : atE ⟨lv, ds_, rm, cl, lev, st, day, due, rd, w0, w1, aw⟩ d = 0
    · have hg := (at_good he).2.1
      rw [if_pos he, he]
      generalize atC ⟨lv, ds_, rm, cl, lev, st, day, due, rd, w0, w1, aw⟩ d = q at *
      obtain ⟨_, _, _, _, g5, _, _, _, _, g10, _, _⟩ := hg
      unfold kR
      repeat' refine br_split (fun h => ?_) (fun h => ?_)
      all_goals first | contradiction | ((try simp only [true_and, and_true, true_or, or_true, not_tr, decide_eq_true_eq, Bool.and_eq_true, Bool.or_eq_true, beq_iff_eq, bne_iff_ne, ne_eq, inB_iff, stpB, allB] at *); (repeat' split); all_goals first | rfl | contradiction | (exfalso; omega) | fail "LEAF")
    · rw [if_neg he, show (atE ⟨lv, ds_, rm, cl, lev, st, day, due, rd, w0, w1, aw⟩ d != 0) = true by simpa using he]
      rfl
  · cases h
theorem den_talr : Den Try.prog 15 Fal := Den.cover fun ds rs h => by
  unfold Fal at h
  split at h
  · rename_i lv ds_ rm cl lev st day due rd w0 w1 aw d
    simp only [Option.some.injEq, Prod.mk.injEq] at h
    obtain ⟨_, rfl⟩ := h
    have h3 : (atC ⟨lv, ds_, rm, cl, lev, st, day, due, rd, w0, w1, aw⟩ d).st = 0 ∨ (atC ⟨lv, ds_, rm, cl, lev, st, day, due, rd, w0, w1, aw⟩ d).st = 1 ∨ (atC ⟨lv, ds_, rm, cl, lev, st, day, due, rd, w0, w1, aw⟩ d).st = 2 ∨ (atC ⟨lv, ds_, rm, cl, lev, st, day, due, rd, w0, w1, aw⟩ d).st = 3 := by
      by_cases he : atE ⟨lv, ds_, rm, cl, lev, st, day, due, rd, w0, w1, aw⟩ d = 0
      · have hg := (at_good he).2.1
        exact .inr hg.2.2.2.2.2.2.2.2.2.1
      · rw [at_bad he]; exact .inl rfl
    rcases h3 with h3 | h3 | h3 | h3
    · exact ⟨Fals 0, den_talr0, by unfold Fals; simp only [decide_eq_true h3]⟩
    · exact ⟨Fals 1, den_talr1, by unfold Fals; simp only [decide_eq_true h3]⟩
    · exact ⟨Fals 2, den_talr2, by unfold Fals; simp only [decide_eq_true h3]⟩
    · exact ⟨Fals 3, den_talr3, by unfold Fals; simp only [decide_eq_true h3]⟩
  · cases h
end Go.Proofs.Ytlejhkmkdajneaa

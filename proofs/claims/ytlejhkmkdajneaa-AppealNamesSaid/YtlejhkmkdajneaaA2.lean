/- Package appeal and its reference: in, Check, Open, Bound, At. No conditions. -/
import Derived.Test.YtlejhkmkdajneaaA1
namespace Go.Proofs.Ytlejhkmkdajneaa
open Go.Ev
set_option linter.all false
def fns : List Nat := [3, 4, 5, 6, 7, 8, 9, 10, 11, 12, 13, 14, 15, 16, 17, 18, 19, 20, 21, 22, 23, 24, 25, 26, 27, 28, 29, 30, 31, 32, 33, 34, 35, 36, 37, 38, 39, 40]
theorem enter : ∀ (g : FuncId), fns.contains g = true → ∀ (args : Array Value) (w : World), (callFunc g args).run Try.prog w = .ok (.enter g args) w := by
  intro g hg
  simp only [fns, List.contains_cons, List.contains_nil, Bool.or_false, Bool.or_eq_true, beq_iff_eq] at hg
  rcases hg with rfl | rfl | rfl | rfl | rfl | rfl | rfl | rfl | rfl | rfl | rfl | rfl | rfl | rfl | rfl | rfl | rfl | rfl | rfl | rfl | rfl | rfl | rfl | rfl | rfl | rfl | rfl | rfl | rfl | rfl | rfl | rfl | rfl | rfl | rfl | rfl | rfl | rfl
  · exact Try.call3
  · exact Try.call4
  · exact Try.call5
  · exact Try.call6
  · exact Try.call7
  · exact Try.call8
  · exact Try.call9
  · exact Try.call10
  · exact Try.call11
  · exact Try.call12
  · exact Try.call13
  · exact Try.call14
  · exact Try.call15
  · exact Try.call16
  · exact Try.call17
  · exact Try.call18
  · exact Try.call19
  · exact Try.call20
  · exact Try.call21
  · exact Try.call22
  · exact Try.call23
  · exact Try.call24
  · exact Try.call25
  · exact Try.call26
  · exact Try.call27
  · exact Try.call28
  · exact Try.call29
  · exact Try.call30
  · exact Try.call31
  · exact Try.call32
  · exact Try.call33
  · exact Try.call34
  · exact Try.call35
  · exact Try.call36
  · exact Try.call37
  · exact Try.call38
  · exact Try.call39
  · exact Try.call40
theorem mixed : Try.prog.follows .mixedOrders = true := by kernel_rfl
noncomputable def C0 : Cx := mkCx Try.prog fns [] []
theorem C0_ok : CxOk C0 := mkCx_ok enter mixed (fun p h => by cases h) (fun l h => by cases h)
def Fin : List D → Option (Bool × List D)
  | [.v (.int .i64 n), .v (.int .i64 lo), .v (.int .i64 hi)] => some (true, [.v (.bool (inB n lo hi))])
  | _ => none
theorem tin (n lo hi : Int) : evF C0 6 29 [.v (i64 n), .v (i64 lo), .v (i64 hi)] =
    br (decide (n ≥ lo)) (some [.v (.bool (decide (n ≤ hi)))]) (some [.v (.bool (false))]) := by kernel_rfl
theorem den_in : Den Try.prog 29 Fin := evF_den C0_ok fun ds rs h => by
  unfold Fin at h
  split at h
  · rename_i n lo hi
    cases h
    refine (tin n lo hi).trans ?_
    unfold inB
    rw [show decide (n ≥ lo) = decide (lo ≤ n) from rfl]
    cases decide (lo ≤ n) <;> rfl
  · cases h
theorem tinr (n lo hi : Int) : evF C0 6 30 [.v (i64 n), .v (i64 lo), .v (i64 hi)] =
    br (decide (n ≥ lo)) (some [.v (.bool (decide (n ≤ hi)))]) (some [.v (.bool (false))]) := by kernel_rfl
theorem den_inr : Den Try.prog 30 Fin := evF_den C0_ok fun ds rs h => by
  unfold Fin at h
  split at h
  · rename_i n lo hi
    cases h
    refine (tinr n lo hi).trans ?_
    unfold inB
    rw [show decide (n ≥ lo) = decide (lo ≤ n) from rfl]
    cases decide (lo ≤ n) <;> rfl
  · cases h
noncomputable def C1 : Cx := mkCx Try.prog fns [(29, Fin), (30, Fin)] []
theorem C1_ok : CxOk C1 := mkCx_ok enter mixed (fun p h => by
  simp only [List.mem_cons, List.not_mem_nil, or_false] at h
  rcases h with rfl | rfl
  · exact den_in
  · exact den_inr) (fun l h => by cases h)
def Fchk : List D → Option (Bool × List D)
  | [.agg [.v (.int .i64 lv), .v (.int .i64 ds_), .v (.int .i64 rm), .v (.int .i64 cl), .v (.int .i64 lev), .v (.int .u8 st), .v (.int .i64 day), .v (.int .i64 due), .v (.int .i64 rd), .v (.bool w0), .v (.bool w1), .v (.int .i64 aw)]] => some (true, [.v (i64 (chkE ⟨lv, ds_, rm, cl, lev, st, day, due, rd, w0, w1, aw⟩))])
  | _ => none
set_option maxRecDepth 100000 in
theorem tchk (m : Ms) : evF C1 6 18 [msD m] =
    br (!inB m.lv 1 4) (some [.v (i64 (8))]) (br (!inB m.ds 1 365) (some [.v (i64 (8))]) (br (!inB m.rm 0 5) (some [.v (i64 (8))]) (br (!inB m.cl 1 1000000000) (some [.v (i64 (8))]) (br (!inB m.lev 0 (IntKind.i64.wrap (m.lv - 1))) (some [.v (i64 (8))]) (br (!inB m.day 0 100000) (some [.v (i64 (8))]) (br (!inB m.due 0 200000) (some [.v (i64 (8))]) (br (!inB m.rd 0 m.rm) (some [.v (i64 (8))]) (br (!inB m.aw 0 m.cl) (some [.v (i64 (8))]) (br (m.w0) (br (m.w1) (br (m.st == 1) (some [.v (i64 (8))]) (br (m.st == 2) (some [.v (i64 (8))]) (br (m.st == 3) (some [.v (i64 (0))]) (some [.v (i64 (8))])))) (br (m.st == 1) (some [.v (i64 (8))]) (br (m.st == 2) (br (m.lev == IntKind.i64.wrap (m.lv - 1)) (some [.v (i64 (8))]) (br (decide (m.due < m.day)) (some [.v (i64 (8))]) (some [.v (i64 (0))]))) (br (m.st == 3) (some [.v (i64 (0))]) (some [.v (i64 (8))]))))) (br (m.w1) (br (m.st == 1) (some [.v (i64 (8))]) (br (m.st == 2) (br (m.lev == IntKind.i64.wrap (m.lv - 1)) (some [.v (i64 (8))]) (br (decide (m.due < m.day)) (some [.v (i64 (8))]) (some [.v (i64 (0))]))) (br (m.st == 3) (some [.v (i64 (0))]) (some [.v (i64 (8))])))) (br (m.st == 1) (some [.v (i64 (0))]) (br (m.st == 2) (br (m.lev == IntKind.i64.wrap (m.lv - 1)) (some [.v (i64 (8))]) (br (decide (m.due < m.day)) (some [.v (i64 (8))]) (some [.v (i64 (0))]))) (br (m.st == 3) (some [.v (i64 (0))]) (some [.v (i64 (8))])))))))))))))) := by kernel_rfl
theorem tchkr (m : Ms) : evF C1 6 19 [msD m] =
    br (inB m.lv 1 4) (br (inB m.ds 1 365) (br (inB m.rm 0 5) (br (inB m.cl 1 1000000000) (br (inB m.lev 0 (IntKind.i64.wrap (m.lv - 1))) (br (decide (m.st ≥ 1)) (br (decide (m.st ≤ 3)) (br (inB m.day 0 100000) (br (inB m.due 0 200000) (br (inB m.rd 0 m.rm) (br (!inB m.aw 0 m.cl) (some [.v (i64 (8))]) (br (m.st == 1) (br (!(m.w0 == false && (m.w1 == false && true))) (some [.v (i64 (8))]) (br (m.st == 2) (br (decide (m.lev ≥ IntKind.i64.wrap (m.lv - 1))) (some [.v (i64 (8))]) (br (decide (m.due < m.day)) (some [.v (i64 (8))]) (br (m.w0) (br (m.w1) (some [.v (i64 (8))]) (some [.v (i64 (0))])) (some [.v (i64 (0))])))) (some [.v (i64 (0))]))) (br (m.st == 2) (br (decide (m.lev ≥ IntKind.i64.wrap (m.lv - 1))) (some [.v (i64 (8))]) (br (decide (m.due < m.day)) (some [.v (i64 (8))]) (br (m.w0) (br (m.w1) (some [.v (i64 (8))]) (some [.v (i64 (0))])) (some [.v (i64 (0))])))) (some [.v (i64 (0))])))) (some [.v (i64 (8))])) (some [.v (i64 (8))])) (some [.v (i64 (8))])) (some [.v (i64 (8))])) (some [.v (i64 (8))])) (some [.v (i64 (8))])) (some [.v (i64 (8))])) (some [.v (i64 (8))])) (some [.v (i64 (8))])) (some [.v (i64 (8))]) := by kernel_rfl
set_option maxHeartbeats 4000000 in
theorem den_chk : Den Try.prog 18 Fchk := evF_den C1_ok fun ds rs h => by
  unfold Fchk at h
  split at h
  · rename_i lv ds_ rm cl lev st day due rd w0 w1 aw
    cases h
    refine (tchk ⟨lv, ds_, rm, cl, lev, st, day, due, rd, w0, w1, aw⟩).trans ?_
    dsimp only
    by_cases hl : 1 ≤ lv ∧ lv ≤ 4
    · (try rw [show IntKind.i64.wrap (lv - 1) = lv - 1 from wrap64 (by omega) (by omega)])
      by_cases hg : goodM ⟨lv, ds_, rm, cl, lev, st, day, due, rd, w0, w1, aw⟩
      · rw [show chkE ⟨lv, ds_, rm, cl, lev, st, day, due, rd, w0, w1, aw⟩ = 0 from if_pos hg]
        simp only [goodM] at hg
        cases w0 <;> cases w1
        all_goals (simp only [true_and, and_true, Bool.true_eq_false, or_false, false_or, or_self, and_false, false_and, or_true, imp_false, implies_true] at hg)
        all_goals repeat' refine br_split (fun h => ?_) (fun h => ?_)
        all_goals first | rfl | contradiction | (exfalso; (try simp only [true_and, and_true, true_or, or_true, not_tr, decide_eq_true_eq, Bool.and_eq_true, Bool.or_eq_true, beq_iff_eq, bne_iff_ne, ne_eq, inB_iff, stpB, allB] at *); (try simp only [goodM] at *); omega) | (exfalso; simp [goodM] at *; omega) | fail "LEAF"
      · rw [show chkE ⟨lv, ds_, rm, cl, lev, st, day, due, rd, w0, w1, aw⟩ = 8 from if_neg hg]
        simp only [goodM] at hg
        cases w0 <;> cases w1
        all_goals (simp only [true_and, and_true, Bool.true_eq_false, or_false, false_or, or_self, and_false, false_and, or_true, imp_false, implies_true] at hg)
        all_goals repeat' refine br_split (fun h => ?_) (fun h => ?_)
        all_goals first | rfl | contradiction | (exfalso; (try simp only [true_and, and_true, true_or, or_true, not_tr, decide_eq_true_eq, Bool.and_eq_true, Bool.or_eq_true, beq_iff_eq, bne_iff_ne, ne_eq, inB_iff, stpB, allB] at *); (try simp only [goodM] at *); omega) | (exfalso; simp [goodM] at *; omega) | fail "LEAF"
    · rw [show chkE ⟨lv, ds_, rm, cl, lev, st, day, due, rd, w0, w1, aw⟩ = 8 from if_neg (by simp only [goodM]; omega)]
      rw [show inB lv 1 4 = false by rw [← Bool.not_eq_true, inB_iff]; exact hl]
      rfl
  · cases h
set_option maxHeartbeats 4000000 in
theorem den_chkr : Den Try.prog 19 Fchk := evF_den C1_ok fun ds rs h => by
  unfold Fchk at h
  split at h
  · rename_i lv ds_ rm cl lev st day due rd w0 w1 aw
    cases h
    refine (tchkr ⟨lv, ds_, rm, cl, lev, st, day, due, rd, w0, w1, aw⟩).trans ?_
    dsimp only
    by_cases hl : 1 ≤ lv ∧ lv ≤ 4
    · (try rw [show IntKind.i64.wrap (lv - 1) = lv - 1 from wrap64 (by omega) (by omega)])
      by_cases hg : goodM ⟨lv, ds_, rm, cl, lev, st, day, due, rd, w0, w1, aw⟩
      · rw [show chkE ⟨lv, ds_, rm, cl, lev, st, day, due, rd, w0, w1, aw⟩ = 0 from if_pos hg]
        simp only [goodM] at hg
        cases w0 <;> cases w1
        all_goals (simp only [true_and, and_true, Bool.true_eq_false, or_false, false_or, or_self, and_false, false_and, or_true, imp_false, implies_true] at hg)
        all_goals repeat' refine br_split (fun h => ?_) (fun h => ?_)
        all_goals first | rfl | contradiction | (exfalso; (try simp only [true_and, and_true, true_or, or_true, not_tr, decide_eq_true_eq, Bool.and_eq_true, Bool.or_eq_true, beq_iff_eq, bne_iff_ne, ne_eq, inB_iff, stpB, allB] at *); (try simp only [goodM] at *); omega) | (exfalso; simp [goodM] at *; omega) | fail "LEAF"
      · rw [show chkE ⟨lv, ds_, rm, cl, lev, st, day, due, rd, w0, w1, aw⟩ = 8 from if_neg hg]
        simp only [goodM] at hg
        cases w0 <;> cases w1
        all_goals (simp only [true_and, and_true, Bool.true_eq_false, or_false, false_or, or_self, and_false, false_and, or_true, imp_false, implies_true] at hg)
        all_goals repeat' refine br_split (fun h => ?_) (fun h => ?_)
        all_goals first | rfl | contradiction | (exfalso; (try simp only [true_and, and_true, true_or, or_true, not_tr, decide_eq_true_eq, Bool.and_eq_true, Bool.or_eq_true, beq_iff_eq, bne_iff_ne, ne_eq, inB_iff, stpB, allB] at *); (try simp only [goodM] at *); omega) | (exfalso; simp [goodM] at *; omega) | fail "LEAF"
    · rw [show chkE ⟨lv, ds_, rm, cl, lev, st, day, due, rd, w0, w1, aw⟩ = 8 from if_neg (by simp only [goodM]; omega)]
      rw [show inB lv 1 4 = false by rw [← Bool.not_eq_true, inB_iff]; exact hl]
      rfl
  · cases h

/-! ### Open, Bound, At -/
noncomputable def C2 : Cx := mkCx Try.prog fns [(29, Fin), (30, Fin), (18, Fchk), (19, Fchk)] []
theorem C2_ok : CxOk C2 := mkCx_ok enter mixed (fun p h => by
  simp only [List.mem_cons, List.not_mem_nil, or_false] at h
  rcases h with rfl | rfl | rfl | rfl
  · exact den_in
  · exact den_inr
  · exact den_chk
  · exact den_chkr) (fun l h => by cases h)
def Fop : List D → Option (Bool × List D)
  | [.v (.int .i64 l), .v (.int .i64 d), .v (.int .i64 r), .v (.int .i64 cl), .v (.int .i64 day)] => some (true, [msD (opC l d r cl day), .v (i64 (opE l d r cl day))])
  | _ => none
theorem top (l d r cl day : Int) : evF C2 6 10 [.v (i64 l), .v (i64 d), .v (i64 r), .v (i64 cl), .v (i64 day)] =
    br (chkE { lv := l, ds := d, rm := r, cl := cl, lev := 0, st := 1, day := day, due := day, rd := 0, w0 := false, w1 := false, aw := 0 : Ms } != 0) (some [.agg [.v (i64 (0)), .v (i64 (0)), .v (i64 (0)), .v (i64 (0)), .v (i64 (0)), .v (.int .u8 (0)), .v (i64 (0)), .v (i64 (0)), .v (i64 (0)), .v (.bool (false)), .v (.bool (false)), .v (i64 (0))], .v (i64 (2))]) (some [.agg [.v (i64 (l)), .v (i64 (d)), .v (i64 (r)), .v (i64 (cl)), .v (i64 (0)), .v (.int .u8 (1)), .v (i64 (day)), .v (i64 (day)), .v (i64 (0)), .v (.bool (false)), .v (.bool (false)), .v (i64 (0))], .v (i64 (0))]) := by kernel_rfl
theorem topr (l d r cl day : Int) : evF C2 6 11 [.v (i64 l), .v (i64 d), .v (i64 r), .v (i64 cl), .v (i64 day)] =
    br (chkE { lv := l, ds := d, rm := r, cl := cl, lev := 0, st := 1, day := day, due := day, rd := 0, w0 := false, w1 := false, aw := 0 : Ms } != 0) (some [.agg [.v (i64 (0)), .v (i64 (0)), .v (i64 (0)), .v (i64 (0)), .v (i64 (0)), .v (.int .u8 (0)), .v (i64 (0)), .v (i64 (0)), .v (i64 (0)), .v (.bool (false)), .v (.bool (false)), .v (i64 (0))], .v (i64 (2))]) (some [.agg [.v (i64 (l)), .v (i64 (d)), .v (i64 (r)), .v (i64 (cl)), .v (i64 (0)), .v (.int .u8 (1)), .v (i64 (day)), .v (i64 (day)), .v (i64 (0)), .v (.bool (false)), .v (.bool (false)), .v (i64 (0))], .v (i64 (0))]) := by kernel_rfl
theorem den_op : Den Try.prog 10 Fop := evF_den C2_ok fun ds rs h => by
  unfold Fop at h
  split at h
  · rename_i l d r cl day
    cases h
    refine (top l d r cl day).trans ?_
    unfold opC opE
    by_cases hg : goodM (newM l d r cl day)
    · rw [if_pos hg, if_pos hg, show chkE ⟨l, d, r, cl, 0, 1, day, day, 0, false, false, 0⟩ = 0 from if_pos hg]
      rfl
    · rw [if_neg hg, if_neg hg, show chkE ⟨l, d, r, cl, 0, 1, day, day, 0, false, false, 0⟩ = 8 from if_neg hg]
      rfl
  · cases h
theorem den_opr : Den Try.prog 11 Fop := evF_den C2_ok fun ds rs h => by
  unfold Fop at h
  split at h
  · rename_i l d r cl day
    cases h
    refine (topr l d r cl day).trans ?_
    unfold opC opE
    by_cases hg : goodM (newM l d r cl day)
    · rw [if_pos hg, if_pos hg, show chkE ⟨l, d, r, cl, 0, 1, day, day, 0, false, false, 0⟩ = 0 from if_pos hg]
      rfl
    · rw [if_neg hg, if_neg hg, show chkE ⟨l, d, r, cl, 0, 1, day, day, 0, false, false, 0⟩ = 8 from if_neg hg]
      rfl
  · cases h
def Fbd : List D → Option (Bool × List D)
  | [.agg [.v (.int .i64 lv), .v (.int .i64 ds_), .v (.int .i64 rm), .v (.int .i64 cl), .v (.int .i64 lev), .v (.int .u8 st), .v (.int .i64 day), .v (.int .i64 due), .v (.int .i64 rd), .v (.bool w0), .v (.bool w1), .v (.int .i64 aw)]] => some (true, [.v (i64 (bdN ⟨lv, ds_, rm, cl, lev, st, day, due, rd, w0, w1, aw⟩)), .v (i64 (chkE ⟨lv, ds_, rm, cl, lev, st, day, due, rd, w0, w1, aw⟩))])
  | _ => none
theorem tbd (m : Ms) : evF C2 6 16 [msD m] =
    br (chkE m != 0) (some [.v (i64 (0)), .v (i64 (chkE m))]) (some [.v (i64 (IntKind.i64.wrap (m.lv + m.rm))), .v (i64 (0))]) := by kernel_rfl
theorem tbdr (m : Ms) : evF C2 6 17 [msD m] =
    br (chkE m != 0) (some [.v (i64 (0)), .v (i64 (8))]) (some [.v (i64 (IntKind.i64.wrap (m.lv + m.rm))), .v (i64 (0))]) := by kernel_rfl
theorem den_bd : Den Try.prog 16 Fbd := evF_den C2_ok fun ds rs h => by
  unfold Fbd at h
  split at h
  · rename_i lv ds_ rm cl lev st day due rd w0 w1 aw
    cases h
    refine (tbd ⟨lv, ds_, rm, cl, lev, st, day, due, rd, w0, w1, aw⟩).trans ?_
    dsimp only
    unfold bdN
    by_cases hg : goodM ⟨lv, ds_, rm, cl, lev, st, day, due, rd, w0, w1, aw⟩
    · rw [if_pos hg, show chkE ⟨lv, ds_, rm, cl, lev, st, day, due, rd, w0, w1, aw⟩ = 0 from if_pos hg]
      have hg' := hg
      simp only [goodM] at hg'
      rw [wrap64 (by omega) (by omega)]
      rfl
    · rw [if_neg hg, show chkE ⟨lv, ds_, rm, cl, lev, st, day, due, rd, w0, w1, aw⟩ = 8 from if_neg hg]
      rfl
  · cases h
theorem den_bdr : Den Try.prog 17 Fbd := evF_den C2_ok fun ds rs h => by
  unfold Fbd at h
  split at h
  · rename_i lv ds_ rm cl lev st day due rd w0 w1 aw
    cases h
    refine (tbdr ⟨lv, ds_, rm, cl, lev, st, day, due, rd, w0, w1, aw⟩).trans ?_
    dsimp only
    unfold bdN
    by_cases hg : goodM ⟨lv, ds_, rm, cl, lev, st, day, due, rd, w0, w1, aw⟩
    · rw [if_pos hg, show chkE ⟨lv, ds_, rm, cl, lev, st, day, due, rd, w0, w1, aw⟩ = 0 from if_pos hg]
      have hg' := hg
      simp only [goodM] at hg'
      rw [wrap64 (by omega) (by omega)]
      rfl
    · rw [if_neg hg, show chkE ⟨lv, ds_, rm, cl, lev, st, day, due, rd, w0, w1, aw⟩ = 8 from if_neg hg]
      rfl
  · cases h
def Fat : List D → Option (Bool × List D)
  | [.agg [.v (.int .i64 lv), .v (.int .i64 ds_), .v (.int .i64 rm), .v (.int .i64 cl), .v (.int .i64 lev), .v (.int .u8 st), .v (.int .i64 day), .v (.int .i64 due), .v (.int .i64 rd), .v (.bool w0), .v (.bool w1), .v (.int .i64 aw)], .v (.int .i64 d)] => some (true, [msD (atC ⟨lv, ds_, rm, cl, lev, st, day, due, rd, w0, w1, aw⟩ d), .v (i64 (atE ⟨lv, ds_, rm, cl, lev, st, day, due, rd, w0, w1, aw⟩ d))])
  | _ => none
theorem tat (m : Ms) (d : Int) : evF C2 6 12 [msD m, .v (i64 d)] =
    br (chkE m != 0) (some [.agg [.v (i64 (0)), .v (i64 (0)), .v (i64 (0)), .v (i64 (0)), .v (i64 (0)), .v (.int .u8 (0)), .v (i64 (0)), .v (i64 (0)), .v (i64 (0)), .v (.bool (false)), .v (.bool (false)), .v (i64 (0))], .v (i64 (chkE m))]) (br (!inB d 0 100000) (some [.agg [.v (i64 (0)), .v (i64 (0)), .v (i64 (0)), .v (i64 (0)), .v (i64 (0)), .v (.int .u8 (0)), .v (i64 (0)), .v (i64 (0)), .v (i64 (0)), .v (.bool (false)), .v (.bool (false)), .v (i64 (0))], .v (i64 (2))]) (br (decide (d < m.day)) (some [.agg [.v (i64 (0)), .v (i64 (0)), .v (i64 (0)), .v (i64 (0)), .v (i64 (0)), .v (.int .u8 (0)), .v (i64 (0)), .v (i64 (0)), .v (i64 (0)), .v (.bool (false)), .v (.bool (false)), .v (i64 (0))], .v (i64 (32))]) (br (m.st == 2) (br (decide (m.due < d)) (some [.agg [.v (i64 (m.lv)), .v (i64 (m.ds)), .v (i64 (m.rm)), .v (i64 (m.cl)), .v (i64 (m.lev)), .v (.int .u8 (3)), .v (i64 (d)), .v (i64 (m.due)), .v (i64 (m.rd)), .v (.bool (m.w0)), .v (.bool (m.w1)), .v (i64 (m.aw))], .v (i64 (0))]) (some [.agg [.v (i64 (m.lv)), .v (i64 (m.ds)), .v (i64 (m.rm)), .v (i64 (m.cl)), .v (i64 (m.lev)), .v (.int .u8 (m.st)), .v (i64 (d)), .v (i64 (m.due)), .v (i64 (m.rd)), .v (.bool (m.w0)), .v (.bool (m.w1)), .v (i64 (m.aw))], .v (i64 (0))])) (some [.agg [.v (i64 (m.lv)), .v (i64 (m.ds)), .v (i64 (m.rm)), .v (i64 (m.cl)), .v (i64 (m.lev)), .v (.int .u8 (m.st)), .v (i64 (d)), .v (i64 (m.due)), .v (i64 (m.rd)), .v (.bool (m.w0)), .v (.bool (m.w1)), .v (i64 (m.aw))], .v (i64 (0))])))) := by kernel_rfl
theorem tatr (m : Ms) (d : Int) : evF C2 6 13 [msD m, .v (i64 d)] =
    br (chkE m != 0) (some [.agg [.v (i64 (0)), .v (i64 (0)), .v (i64 (0)), .v (i64 (0)), .v (i64 (0)), .v (.int .u8 (0)), .v (i64 (0)), .v (i64 (0)), .v (i64 (0)), .v (.bool (false)), .v (.bool (false)), .v (i64 (0))], .v (i64 (8))]) (br (!inB d 0 100000) (some [.agg [.v (i64 (0)), .v (i64 (0)), .v (i64 (0)), .v (i64 (0)), .v (i64 (0)), .v (.int .u8 (0)), .v (i64 (0)), .v (i64 (0)), .v (i64 (0)), .v (.bool (false)), .v (.bool (false)), .v (i64 (0))], .v (i64 (2))]) (br (decide (d < m.day)) (some [.agg [.v (i64 (0)), .v (i64 (0)), .v (i64 (0)), .v (i64 (0)), .v (i64 (0)), .v (.int .u8 (0)), .v (i64 (0)), .v (i64 (0)), .v (i64 (0)), .v (.bool (false)), .v (.bool (false)), .v (i64 (0))], .v (i64 (32))]) (br (m.st == 2) (br (decide (m.due < d)) (some [.agg [.v (i64 (m.lv)), .v (i64 (m.ds)), .v (i64 (m.rm)), .v (i64 (m.cl)), .v (i64 (m.lev)), .v (.int .u8 (3)), .v (i64 (d)), .v (i64 (m.due)), .v (i64 (m.rd)), .v (.bool (m.w0)), .v (.bool (m.w1)), .v (i64 (m.aw))], .v (i64 (0))]) (some [.agg [.v (i64 (m.lv)), .v (i64 (m.ds)), .v (i64 (m.rm)), .v (i64 (m.cl)), .v (i64 (m.lev)), .v (.int .u8 (m.st)), .v (i64 (d)), .v (i64 (m.due)), .v (i64 (m.rd)), .v (.bool (m.w0)), .v (.bool (m.w1)), .v (i64 (m.aw))], .v (i64 (0))])) (some [.agg [.v (i64 (m.lv)), .v (i64 (m.ds)), .v (i64 (m.rm)), .v (i64 (m.cl)), .v (i64 (m.lev)), .v (.int .u8 (m.st)), .v (i64 (d)), .v (i64 (m.due)), .v (i64 (m.rd)), .v (.bool (m.w0)), .v (.bool (m.w1)), .v (i64 (m.aw))], .v (i64 (0))])))) := by kernel_rfl
theorem den_at : Den Try.prog 12 Fat := evF_den C2_ok fun ds rs h => by
  unfold Fat at h
  split at h
  · rename_i lv ds_ rm cl lev st day due rd w0 w1 aw d
    cases h
    refine (tat ⟨lv, ds_, rm, cl, lev, st, day, due, rd, w0, w1, aw⟩ d).trans ?_
    dsimp only
    by_cases hg : goodM ⟨lv, ds_, rm, cl, lev, st, day, due, rd, w0, w1, aw⟩
    · rw [show chkE ⟨lv, ds_, rm, cl, lev, st, day, due, rd, w0, w1, aw⟩ = 0 from if_pos hg]
      repeat' refine br_split (fun h => ?_) (fun h => ?_)
      all_goals first | rfl | contradiction | (exfalso; (try simp only [true_and, and_true, true_or, or_true, not_tr, decide_eq_true_eq, Bool.and_eq_true, Bool.or_eq_true, beq_iff_eq, bne_iff_ne, ne_eq, inB_iff, stpB, allB] at *); omega) | ((try simp only [true_and, and_true, true_or, or_true, not_tr, decide_eq_true_eq, Bool.and_eq_true, Bool.or_eq_true, beq_iff_eq, bne_iff_ne, ne_eq, inB_iff, stpB, allB] at *); simp only [atC, atE, stepC, hg]; (repeat' split); all_goals first | rfl | contradiction | (exfalso; omega))
    · rw [show chkE ⟨lv, ds_, rm, cl, lev, st, day, due, rd, w0, w1, aw⟩ = 8 from if_neg hg]
      simp only [atC, atE, hg]
      rfl
  · cases h
theorem den_atr : Den Try.prog 13 Fat := evF_den C2_ok fun ds rs h => by
  unfold Fat at h
  split at h
  · rename_i lv ds_ rm cl lev st day due rd w0 w1 aw d
    cases h
    refine (tatr ⟨lv, ds_, rm, cl, lev, st, day, due, rd, w0, w1, aw⟩ d).trans ?_
    dsimp only
    by_cases hg : goodM ⟨lv, ds_, rm, cl, lev, st, day, due, rd, w0, w1, aw⟩
    · rw [show chkE ⟨lv, ds_, rm, cl, lev, st, day, due, rd, w0, w1, aw⟩ = 0 from if_pos hg]
      repeat' refine br_split (fun h => ?_) (fun h => ?_)
      all_goals first | rfl | contradiction | (exfalso; (try simp only [true_and, and_true, true_or, or_true, not_tr, decide_eq_true_eq, Bool.and_eq_true, Bool.or_eq_true, beq_iff_eq, bne_iff_ne, ne_eq, inB_iff, stpB, allB] at *); omega) | ((try simp only [true_and, and_true, true_or, or_true, not_tr, decide_eq_true_eq, Bool.and_eq_true, Bool.or_eq_true, beq_iff_eq, bne_iff_ne, ne_eq, inB_iff, stpB, allB] at *); simp only [atC, atE, stepC, hg]; (repeat' split); all_goals first | rfl | contradiction | (exfalso; omega))
    · rw [show chkE ⟨lv, ds_, rm, cl, lev, st, day, due, rd, w0, w1, aw⟩ = 8 from if_neg hg]
      simp only [atC, atE, hg]
      rfl
  · cases h
end Go.Proofs.Ytlejhkmkdajneaa

/- The examples; what the laws' functions come to. No conditions. -/
import Derived.Test.YtlejhkmkdajneaaA7
import Derived.Test.YtlejhkmkdajneaaA6
namespace Go.Proofs.Ytlejhkmkdajneaa
open Go.Ev
set_option linter.all false
noncomputable def Fway : List D → Option (Bool × List D) := fun ds => (evF C0 6 35 ds).map fun rs => (true, rs)
theorem den_way : Den Try.prog 35 Fway := evF_den C0_ok fun ds rs h => by
  unfold Fway at h
  simpa using h
noncomputable def C8 : Cx := mkCx Try.prog fns [(35, Fway), (10, Fop), (21, Fap), (12, Fat), (23, Frp), (16, Fbd)] []
theorem C8_ok : CxOk C8 := mkCx_ok enter mixed (fun p h => by
  simp only [List.mem_cons, List.not_mem_nil, or_false] at h
  rcases h with rfl | rfl | rfl | rfl | rfl | rfl
  · exact den_way
  · exact den_op
  · exact den_tap
  · exact den_at
  · exact den_rp
  · exact den_bd) (fun l h => by cases h)
theorem talive : evF C8 6 25 [] = some [.v (.bool true)] := by kernel_rfl
def Ftrue : List D → Option (Bool × List D)
  | [] => some (true, [.v (.bool true)])
  | _ => none
theorem den_alive : Den Try.prog 25 Ftrue := evF_den C8_ok fun ds rs h => by
  unfold Ftrue at h
  split at h
  · cases h
    exact talive
  · cases h
noncomputable def C9 : Cx := mkCx Try.prog fns [(25, Ftrue), (10, Fop), (21, Fap), (22, Fap), (12, Fat), (23, Frp), (24, Frp), (16, Fbd), (18, Fchk), (19, Fchk), (27, Fstp), (14, Fal)] []
theorem C9_ok : CxOk C9 := mkCx_ok enter mixed (fun p h => by
  simp only [List.mem_cons, List.not_mem_nil, or_false] at h
  rcases h with rfl | rfl | rfl | rfl | rfl | rfl | rfl | rfl | rfl | rfl | rfl | rfl
  · exact den_alive
  · exact den_op
  · exact den_tap
  · exact den_tar
  · exact den_at
  · exact den_rp
  · exact den_rpr
  · exact den_bd
  · exact den_chk
  · exact den_chkr
  · exact den_stp
  · exact den_talp) (fun l h => by cases h)
theorem tsteps (m : Ms) (x : Stp) (r : Row) : evF C9 6 4 [msD m, stD x, .slice ksV r] =
    br (decide ((↑r.n : Int) > 120)) (some [.v (.bool (true))]) (br ((apC m x).lv == (apC m x).lv && ((apC m x).ds == (apC m x).ds && ((apC m x).rm == (apC m x).rm && ((apC m x).cl == (apC m x).cl && ((apC m x).lev == (apC m x).lev && ((apC m x).st == (apC m x).st && ((apC m x).day == (apC m x).day && ((apC m x).due == (apC m x).due && ((apC m x).rd == (apC m x).rd && ((apC m x).w0 == (apC m x).w0 && ((apC m x).w1 == (apC m x).w1 && true) && ((apC m x).aw == (apC m x).aw && true))))))))))) (br (apE m x == apE m x) (br ((rpR { lv := m.lv, ds := m.ds, rm := m.rm, cl := m.cl, lev := m.lev, st := m.st, day := m.day, due := m.due, rd := m.rd, w0 := m.w0, w1 := m.w1, aw := m.aw : Ms } (winOf r 0 r.n)).1.lv == (rpR { lv := m.lv, ds := m.ds, rm := m.rm, cl := m.cl, lev := m.lev, st := m.st, day := m.day, due := m.due, rd := m.rd, w0 := m.w0, w1 := m.w1, aw := m.aw : Ms } (winOf r 0 r.n)).1.lv && ((rpR { lv := m.lv, ds := m.ds, rm := m.rm, cl := m.cl, lev := m.lev, st := m.st, day := m.day, due := m.due, rd := m.rd, w0 := m.w0, w1 := m.w1, aw := m.aw : Ms } (winOf r 0 r.n)).1.ds == (rpR { lv := m.lv, ds := m.ds, rm := m.rm, cl := m.cl, lev := m.lev, st := m.st, day := m.day, due := m.due, rd := m.rd, w0 := m.w0, w1 := m.w1, aw := m.aw : Ms } (winOf r 0 r.n)).1.ds && ((rpR { lv := m.lv, ds := m.ds, rm := m.rm, cl := m.cl, lev := m.lev, st := m.st, day := m.day, due := m.due, rd := m.rd, w0 := m.w0, w1 := m.w1, aw := m.aw : Ms } (winOf r 0 r.n)).1.rm == (rpR { lv := m.lv, ds := m.ds, rm := m.rm, cl := m.cl, lev := m.lev, st := m.st, day := m.day, due := m.due, rd := m.rd, w0 := m.w0, w1 := m.w1, aw := m.aw : Ms } (winOf r 0 r.n)).1.rm && ((rpR { lv := m.lv, ds := m.ds, rm := m.rm, cl := m.cl, lev := m.lev, st := m.st, day := m.day, due := m.due, rd := m.rd, w0 := m.w0, w1 := m.w1, aw := m.aw : Ms } (winOf r 0 r.n)).1.cl == (rpR { lv := m.lv, ds := m.ds, rm := m.rm, cl := m.cl, lev := m.lev, st := m.st, day := m.day, due := m.due, rd := m.rd, w0 := m.w0, w1 := m.w1, aw := m.aw : Ms } (winOf r 0 r.n)).1.cl && ((rpR { lv := m.lv, ds := m.ds, rm := m.rm, cl := m.cl, lev := m.lev, st := m.st, day := m.day, due := m.due, rd := m.rd, w0 := m.w0, w1 := m.w1, aw := m.aw : Ms } (winOf r 0 r.n)).1.lev == (rpR { lv := m.lv, ds := m.ds, rm := m.rm, cl := m.cl, lev := m.lev, st := m.st, day := m.day, due := m.due, rd := m.rd, w0 := m.w0, w1 := m.w1, aw := m.aw : Ms } (winOf r 0 r.n)).1.lev && ((rpR { lv := m.lv, ds := m.ds, rm := m.rm, cl := m.cl, lev := m.lev, st := m.st, day := m.day, due := m.due, rd := m.rd, w0 := m.w0, w1 := m.w1, aw := m.aw : Ms } (winOf r 0 r.n)).1.st == (rpR { lv := m.lv, ds := m.ds, rm := m.rm, cl := m.cl, lev := m.lev, st := m.st, day := m.day, due := m.due, rd := m.rd, w0 := m.w0, w1 := m.w1, aw := m.aw : Ms } (winOf r 0 r.n)).1.st && ((rpR { lv := m.lv, ds := m.ds, rm := m.rm, cl := m.cl, lev := m.lev, st := m.st, day := m.day, due := m.due, rd := m.rd, w0 := m.w0, w1 := m.w1, aw := m.aw : Ms } (winOf r 0 r.n)).1.day == (rpR { lv := m.lv, ds := m.ds, rm := m.rm, cl := m.cl, lev := m.lev, st := m.st, day := m.day, due := m.due, rd := m.rd, w0 := m.w0, w1 := m.w1, aw := m.aw : Ms } (winOf r 0 r.n)).1.day && ((rpR { lv := m.lv, ds := m.ds, rm := m.rm, cl := m.cl, lev := m.lev, st := m.st, day := m.day, due := m.due, rd := m.rd, w0 := m.w0, w1 := m.w1, aw := m.aw : Ms } (winOf r 0 r.n)).1.due == (rpR { lv := m.lv, ds := m.ds, rm := m.rm, cl := m.cl, lev := m.lev, st := m.st, day := m.day, due := m.due, rd := m.rd, w0 := m.w0, w1 := m.w1, aw := m.aw : Ms } (winOf r 0 r.n)).1.due && ((rpR { lv := m.lv, ds := m.ds, rm := m.rm, cl := m.cl, lev := m.lev, st := m.st, day := m.day, due := m.due, rd := m.rd, w0 := m.w0, w1 := m.w1, aw := m.aw : Ms } (winOf r 0 r.n)).1.rd == (rpR { lv := m.lv, ds := m.ds, rm := m.rm, cl := m.cl, lev := m.lev, st := m.st, day := m.day, due := m.due, rd := m.rd, w0 := m.w0, w1 := m.w1, aw := m.aw : Ms } (winOf r 0 r.n)).1.rd && ((rpR { lv := m.lv, ds := m.ds, rm := m.rm, cl := m.cl, lev := m.lev, st := m.st, day := m.day, due := m.due, rd := m.rd, w0 := m.w0, w1 := m.w1, aw := m.aw : Ms } (winOf r 0 r.n)).1.w0 == (rpR { lv := m.lv, ds := m.ds, rm := m.rm, cl := m.cl, lev := m.lev, st := m.st, day := m.day, due := m.due, rd := m.rd, w0 := m.w0, w1 := m.w1, aw := m.aw : Ms } (winOf r 0 r.n)).1.w0 && ((rpR { lv := m.lv, ds := m.ds, rm := m.rm, cl := m.cl, lev := m.lev, st := m.st, day := m.day, due := m.due, rd := m.rd, w0 := m.w0, w1 := m.w1, aw := m.aw : Ms } (winOf r 0 r.n)).1.w1 == (rpR { lv := m.lv, ds := m.ds, rm := m.rm, cl := m.cl, lev := m.lev, st := m.st, day := m.day, due := m.due, rd := m.rd, w0 := m.w0, w1 := m.w1, aw := m.aw : Ms } (winOf r 0 r.n)).1.w1 && true) && ((rpR { lv := m.lv, ds := m.ds, rm := m.rm, cl := m.cl, lev := m.lev, st := m.st, day := m.day, due := m.due, rd := m.rd, w0 := m.w0, w1 := m.w1, aw := m.aw : Ms } (winOf r 0 r.n)).1.aw == (rpR { lv := m.lv, ds := m.ds, rm := m.rm, cl := m.cl, lev := m.lev, st := m.st, day := m.day, due := m.due, rd := m.rd, w0 := m.w0, w1 := m.w1, aw := m.aw : Ms } (winOf r 0 r.n)).1.aw && true))))))))))) (br ((↑(rpR { lv := m.lv, ds := m.ds, rm := m.rm, cl := m.cl, lev := m.lev, st := m.st, day := m.day, due := m.due, rd := m.rd, w0 := m.w0, w1 := m.w1, aw := m.aw : Ms } (winOf r 0 r.n)).snd.1 : Int) == (↑(rpR { lv := m.lv, ds := m.ds, rm := m.rm, cl := m.cl, lev := m.lev, st := m.st, day := m.day, due := m.due, rd := m.rd, w0 := m.w0, w1 := m.w1, aw := m.aw : Ms } (winOf r 0 r.n)).snd.1 : Int)) (some [.v (.bool ((rpR { lv := m.lv, ds := m.ds, rm := m.rm, cl := m.cl, lev := m.lev, st := m.st, day := m.day, due := m.due, rd := m.rd, w0 := m.w0, w1 := m.w1, aw := m.aw : Ms } (winOf r 0 r.n)).snd.2 == (rpR { lv := m.lv, ds := m.ds, rm := m.rm, cl := m.cl, lev := m.lev, st := m.st, day := m.day, due := m.due, rd := m.rd, w0 := m.w0, w1 := m.w1, aw := m.aw : Ms } (winOf r 0 r.n)).snd.2))]) (some [.v (.bool (false))])) (some [.v (.bool (false))])) (some [.v (.bool (false))])) (some [.v (.bool (false))])) := by kernel_rfl
theorem tfinal (m : Ms) (d e : Int) (x : Stp) : evF C9 6 8 [msD m, .v (i64 d), .v (i64 e), stD x] =
    br (chkE m != 0) (some [.v (.bool (true))]) (br (atE m d != 0) (br (atE m d == 2) (some [.v (.bool (true))]) (some [.v (.bool (atE m d == 32))])) (br (chkE (atC m d) != 0) (some [.v (.bool (false))]) (br ((atC m d).day != d) (some [.v (.bool (false))]) (br (decide (e ≥ d)) (br (atE m e != atE (atC m d) e) (some [.v (.bool (false))]) (br (!((atC m e).lv == (atC (atC m d) e).lv && ((atC m e).ds == (atC (atC m d) e).ds && ((atC m e).rm == (atC (atC m d) e).rm && ((atC m e).cl == (atC (atC m d) e).cl && ((atC m e).lev == (atC (atC m d) e).lev && ((atC m e).st == (atC (atC m d) e).st && ((atC m e).day == (atC (atC m d) e).day && ((atC m e).due == (atC (atC m d) e).due && ((atC m e).rd == (atC (atC m d) e).rd && ((atC m e).w0 == (atC (atC m d) e).w0 && ((atC m e).w1 == (atC (atC m d) e).w1 && true) && ((atC m e).aw == (atC (atC m d) e).aw && true)))))))))))) (some [.v (.bool (false))]) (br ((atC m d).st != 3) (some [.v (.bool ((atC m d).st == m.st))]) (br (atE (atC m d) d != 0) (some [.v (.bool (false))]) (br ((↑(alR (atC m d) d).n : Int) != 0) (some [.v (.bool (false))]) (br (apE (atC m d) x == 0) (some [.v (.bool (false))]) (br (atE (atC m d) e == 0) (some [.v (.bool ((atC (atC m d) e).lv == (atC m d).lv && ((atC (atC m d) e).ds == (atC m d).ds && ((atC (atC m d) e).rm == (atC m d).rm && ((atC (atC m d) e).cl == (atC m d).cl && ((atC (atC m d) e).lev == (atC m d).lev && ((atC (atC m d) e).st == (atC m d).st && ((atC m d).day == (atC m d).day && ((atC (atC m d) e).due == (atC m d).due && ((atC (atC m d) e).rd == (atC m d).rd && ((atC (atC m d) e).w0 == (atC m d).w0 && ((atC (atC m d) e).w1 == (atC m d).w1 && true) && ((atC (atC m d) e).aw == (atC m d).aw && true))))))))))))]) (some [.v (.bool (true))])))))))) (br ((atC m d).st != 3) (some [.v (.bool ((atC m d).st == m.st))]) (br (atE (atC m d) d != 0) (some [.v (.bool (false))]) (br ((↑(alR (atC m d) d).n : Int) != 0) (some [.v (.bool (false))]) (br (apE (atC m d) x == 0) (some [.v (.bool (false))]) (br (atE (atC m d) e == 0) (some [.v (.bool ((atC (atC m d) e).lv == (atC m d).lv && ((atC (atC m d) e).ds == (atC m d).ds && ((atC (atC m d) e).rm == (atC m d).rm && ((atC (atC m d) e).cl == (atC m d).cl && ((atC (atC m d) e).lev == (atC m d).lev && ((atC (atC m d) e).st == (atC m d).st && ((atC m d).day == (atC m d).day && ((atC (atC m d) e).due == (atC m d).due && ((atC (atC m d) e).rd == (atC m d).rd && ((atC (atC m d) e).w0 == (atC m d).w0 && ((atC (atC m d) e).w1 == (atC m d).w1 && true) && ((atC (atC m d) e).aw == (atC m d).aw && true))))))))))))]) (some [.v (.bool (true))])))))))))) := by kernel_rfl
theorem law_steps (m : Ms) (x : Stp) (r : Row) : evF C9 6 4 [msD m, stD x, .slice ksV r] = some [.v (.bool true)] := by
  rw [tsteps]
  simp only [br_true, beq_self_eq_true, Bool.and_self, Bool.and_true]
  cases (decide ((r.n : Int) > 120)) <;> rfl
end Go.Proofs.Ytlejhkmkdajneaa

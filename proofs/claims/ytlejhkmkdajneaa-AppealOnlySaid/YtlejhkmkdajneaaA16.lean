/- The law AppealOnly: its loop, and what its function comes to. No conditions. -/
import Derived.Test.YtlejhkmkdajneaaA13
namespace Go.Proofs.Ytlejhkmkdajneaa
open Go.Ev
set_option linter.all false
def boxX (x : Stp) : Option Blk := some (.box [u8 x.kind, i64 x.day, i64 x.party, i64 x.cents])
def S9 (m : Ms) (x : Stp) (a : Ms) (e f : Int) (len : Nat) (al : Bool) (j : Int) (r : Row) : St := ⟨us 2 ++ [.pointer (some ⟨0, 0, some 0⟩), .pointer (some ⟨1, 0, some 0⟩)] ++ us 1 ++ [.bool true, .pointer (some ⟨2, 0, some 0⟩), i64 e, .slice (some ⟨3, 0, some 0⟩) len 0, i64 f, .bool al, i64 j] ++ us 165, [[]], [boxC m, boxX x, boxC a, some (.row [.int .u8] true r)]⟩
def S9x (m : Ms) (x : Stp) (a : Ms) (e f : Int) (al : Bool) : St := ⟨us 2 ++ [.pointer (some ⟨0, 0, some 0⟩), .pointer (some ⟨1, 0, some 0⟩)] ++ us 1 ++ [.bool true, .pointer (some ⟨2, 0, some 0⟩), i64 e] ++ us 1 ++ [i64 f, .bool al] ++ us 166, [[]], [boxC m, boxX x, boxC a]⟩
def orR (r : Row) (k : Int) : Nat → Nat → Bool → Bool
  | 0, _, al => al
  | m + 1, j, al => orR r k m (j + 1) (al || (r.I (0 + j) 0 == k))
def G9 : List It → (X → St → Option (List D)) → Option (List D)
  | [.i e, .n len, .i f, .i lv, .i ds_, .i rm, .i cl, .i lev, .i st, .i day, .i due, .i rd, .b w0, .b w1, .i aw, .i xk, .i xd, .i xp, .i xc, .i alv, .i ads, .i arm, .i acl, .i alev, .i ast, .i aday, .i adue, .i ard, .b aw0, .b aw1, .i aaw, .r r], k =>
    br (decide (len ≤ 1000)) (k (.exit 0) (S9x ⟨lv, ds_, rm, cl, lev, st, day, due, rd, w0, w1, aw⟩ ⟨xk, xd, xp, xc⟩ ⟨alv, ads, arm, acl, alev, ast, aday, adue, ard, aw0, aw1, aaw⟩ e f (orR r xk len 0 false))) none
  | _, _ => none
def l9 : LoopC where
  f := 9
  id := 8
  lv := [2, 3, 5, 6, 7, 8, 9, 10, 11]
  lx := [2, 3, 4, 5, 6, 7, 9, 10]
  p := { τ := pu 2 ++ [.v (.c (.pointer (some ⟨0, 0, some 0⟩))), .v (.c (.pointer (some ⟨1, 0, some 0⟩)))] ++ pu 1 ++ [.v (.c (.bool true)), .v (.c (.pointer (some ⟨2, 0, some 0⟩))), .v (.int .i64), .v (.sl 3), .v (.int .i64), .v (.c (.bool false)), .v (.c (i64 0))] ++ pu 165, saved := [[]], mem := [boxP, .box [.v (.int .u8), .v (.int .i64), .v (.int .i64), .v (.int .i64)], boxP, .row [.int .u8] true] }
  G := G9
noncomputable def C13 : Cx := mkCx Try.prog fns [(25, Ftrue), (21, Fap), (18, Fchk), (19, Fchk), (27, Fstp), (14, Fal)] [l9]
theorem round9 (q : Nat) (R : St → Option (List D)) (K : X → St → Option (List D)) (m : Ms) (x : Stp) (a : Ms) (e f : Int) (len : Nat) (al : Bool) (j : Nat) (r : Row) :
   evCode C13 9 true (inl C13 (q + 4)) (lbody C13.P 9 8) (S9 m x a e f len al j r) (rnd [2, 3, 5, 6, 7, 8, 9, 10, 11] (some [2, 3, 4, 5, 6, 7, 9, 10]) R K) =
     br (decide ((j : Int) < (len : Int))) (br al (R (S9 m x a e f len true (IntKind.i64.wrap (j + 1)) r)) (br (decide (0 ≤ (j : Int)) && decide ((j : Int) < (len : Int))) (R (S9 m x a e f len (r.I (0 + j) 0 == x.kind) (IntKind.i64.wrap (j + 1)) r)) none)) (K (.exit 0) (S9x m x a e f al)) := by kernel_rfl
theorem runL_or {α κ : Type} (r : Row) (k : Int) (E : Bool → κ → Option α) (K : κ) : ∀ (m j : Nat) (al : Bool), runL (fun j al R _ => R (al || (r.I (0 + j) 0 == k))) E K m j al = E (orR r k m j al) K
  | 0, _, _ => rfl
  | m + 1, j, al => runL_or r k E K m (j + 1) _
set_option maxRecDepth 100000 in
theorem loop9 : LoopOk C13 l9 := ⟨by kernel_rfl, fun q its k rr h => by
  show rounds [2, 3, 5, 6, 7, 8, 9, 10, 11] (some [2, 3, 4, 5, 6, 7, 9, 10]) (evCode C13 9 true (inl C13 (q + 4)) (lbody C13.P 9 8)) 18446744073709551616 (bst l9.p its) k = some rr
  change G9 its k = some rr at h
  unfold G9 at h
  split at h
  · rename_i e len f lv ds_ rm cl lev st day due rd w0 w1 aw xk xd xp xc alv ads arm acl alev ast aday adue ard aw0 aw1 aaw r
    rcases br_some h with ⟨h1, h2⟩ | ⟨_, h2⟩
    · simp only [decide_eq_true_eq] at h1
      rw [← h2]
      have key := rounds_run (lv := [2, 3, 5, 6, 7, 8, 9, 10, 11]) (lx := some [2, 3, 4, 5, 6, 7, 9, 10]) (f := evCode C13 9 true (inl C13 (q + 4)) (lbody C13.P 9 8)) (S := fun j al => S9 ⟨lv, ds_, rm, cl, lev, st, day, due, rd, w0, w1, aw⟩ ⟨xk, xd, xp, xc⟩ ⟨alv, ads, arm, acl, alev, ast, aday, adue, ard, aw0, aw1, aaw⟩ e f len al j r) (len := len)
        (T := fun j al R _ => R (al || (r.I (0 + j) 0 == xk))) (E := fun al K => K (.exit 0) (S9x ⟨lv, ds_, rm, cl, lev, st, day, due, rd, w0, w1, aw⟩ ⟨xk, xd, xp, xc⟩ ⟨alv, ads, arm, acl, alev, ast, aday, adue, ard, aw0, aw1, aaw⟩ e f al))
        (fun j hj al R K => by
          rw [round9, wrap64 (n := (j : Int) + 1) (by omega) (by omega), show decide ((j : Int) < (len : Int)) = true by simpa using hj, show (decide (0 ≤ (j : Int))) = true by simp]
          cases al <;> rfl)
        (fun al R K => by
          rw [round9, show decide ((len : Int) < (len : Int)) = false by simp]
          rfl) (fun j al R R' K hR => hR _) k len 0 false (by omega) 18446744073709551616 (by omega)
      rw [runL_or] at key
      exact key
    · cases h2
  · cases h⟩
theorem C13_ok : CxOk C13 := mkCx_ok enter mixed (fun p h => by
  simp only [List.mem_cons, List.not_mem_nil, or_false] at h
  rcases h with rfl | rfl | rfl | rfl | rfl | rfl
  · exact den_alive
  · exact den_tap
  · exact den_chk
  · exact den_chkr
  · exact den_stp
  · exact den_talp) (fun l h => by
  simp only [List.mem_singleton] at h
  subst h
  exact loop9)
theorem tonly (m : Ms) (x : Stp) : evF C13 6 9 [msD m, stD x] =
    br (chkE m != 0) (some [.v (.bool (true))]) (br (decide ((alR { lv := m.lv, ds := m.ds, rm := m.rm, cl := m.cl, lev := m.lev, st := m.st, day := m.day, due := m.due, rd := m.rd, w0 := m.w0, w1 := m.w1, aw := m.aw : Ms } x.day).n ≤ 1000)) (br (apE m x != 0) (br (stpB x) (br (atE m x.day == 0) (br ((apC m x).lv == 0 && ((apC m x).ds == 0 && ((apC m x).rm == 0 && ((apC m x).cl == 0 && ((apC m x).lev == 0 && ((apC m x).st == 0 && ((apC m x).day == 0 && ((apC m x).due == 0 && ((apC m x).rd == 0 && ((apC m x).w0 == false && ((apC m x).w1 == false && true) && ((apC m x).aw == 0 && true))))))))))) (br (!orR (alR m x.day) x.kind (alR m x.day).n 0 false) (some [.v (.bool (true))]) (br (apE m x == 14) (some [.v (.bool (true))]) (some [.v (.bool (apE m x == 16))]))) (some [.v (.bool (false))])) (br ((apC m x).lv == 0 && ((apC m x).ds == 0 && ((apC m x).rm == 0 && ((apC m x).cl == 0 && ((apC m x).lev == 0 && ((apC m x).st == 0 && ((apC m x).day == 0 && ((apC m x).due == 0 && ((apC m x).rd == 0 && ((apC m x).w0 == false && ((apC m x).w1 == false && true) && ((apC m x).aw == 0 && true))))))))))) (some [.v (.bool (true))]) (some [.v (.bool (false))]))) (br ((apC m x).lv == 0 && ((apC m x).ds == 0 && ((apC m x).rm == 0 && ((apC m x).cl == 0 && ((apC m x).lev == 0 && ((apC m x).st == 0 && ((apC m x).day == 0 && ((apC m x).due == 0 && ((apC m x).rd == 0 && ((apC m x).w0 == false && ((apC m x).w1 == false && true) && ((apC m x).aw == 0 && true))))))))))) (some [.v (.bool (true))]) (some [.v (.bool (false))]))) (br (atE m x.day != 0) (some [.v (.bool (false))]) (br (!orR (alR m x.day) x.kind (alR m x.day).n 0 false) (some [.v (.bool (false))]) (br (!stpB x) (some [.v (.bool (false))]) (br (chkE (apC m x) != 0) (some [.v (.bool (false))]) (br ((apC m x).day != x.day) (some [.v (.bool (false))]) (br ((apC m x).lv != m.lv) (some [.v (.bool (false))]) (br ((apC m x).ds != m.ds) (some [.v (.bool (false))]) (br ((apC m x).rm != m.rm) (some [.v (.bool (false))]) (br ((apC m x).cl != m.cl) (some [.v (.bool (false))]) (br (x.kind == 1) (br ((apC m x).lev == m.lev) (br (((apC m x).st == 3) == ((apC m x).lev == IntKind.i64.wrap ((apC m x).lv - 1))) (br ((apC m x).lev == IntKind.i64.wrap ((apC m x).lv - 1)) (some [.v (.bool (true))]) (some [.v (.bool ((apC m x).due == IntKind.i64.wrap (x.day + (apC m x).ds)))])) (some [.v (.bool (false))])) (some [.v (.bool (false))])) (br (x.kind == 3) (br ((apC m x).lev == m.lev) (br (((apC m x).st == 3) == ((apC m x).lev == IntKind.i64.wrap ((apC m x).lv - 1))) (br ((apC m x).lev == IntKind.i64.wrap ((apC m x).lv - 1)) (some [.v (.bool (true))]) (some [.v (.bool ((apC m x).due == IntKind.i64.wrap (x.day + (apC m x).ds)))])) (some [.v (.bool (false))])) (some [.v (.bool (false))])) (br (x.kind == 4) (br ((apC m x).lev == m.lev) (br (((apC m x).st == 3) == ((apC m x).lev == IntKind.i64.wrap ((apC m x).lv - 1))) (br ((apC m x).lev == IntKind.i64.wrap ((apC m x).lv - 1)) (some [.v (.bool (true))]) (some [.v (.bool ((apC m x).due == IntKind.i64.wrap (x.day + (apC m x).ds)))])) (some [.v (.bool (false))])) (some [.v (.bool (false))])) (some [.v (.bool ((apC m x).aw == m.aw))])))))))))))))) (none)) := by kernel_rfl
theorem has_al {m : Ms} {d : Int} (h : atE m d = 0) (k : Int) : orR (alR m d) k (alR m d).n 0 false = allB k (atC m d) := by
  have hg := (at_good h).2.1
  unfold alR
  rw [if_pos h]
  generalize atC m d = q at *
  obtain ⟨_, _, _, _, g5, _, _, _, _, g10, _, _⟩ := hg
  unfold kR
  rw [Bool.eq_iff_iff]
  by_cases h1 : q.st = 1
  · rw [if_pos h1]
    by_cases h2 : q.lev = 0
    · rw [if_pos h2]
      show ((1 : Int) == k) = true ↔ _
      simp only [beq_iff_eq, allB, decide_eq_true_eq]
      unfold allP
      omega
    · rw [if_neg h2]
      by_cases h3 : q.rd < q.rm
      · rw [if_pos h3]
        show ((((3 : Int) == k) || ((4 : Int) == k)) || ((5 : Int) == k)) = true ↔ _
        simp only [Bool.or_eq_true, beq_iff_eq, allB, decide_eq_true_eq]
        unfold allP
        omega
      · rw [if_neg h3]
        show (((3 : Int) == k) || ((4 : Int) == k)) = true ↔ _
        simp only [Bool.or_eq_true, beq_iff_eq, allB, decide_eq_true_eq]
        unfold allP
        omega
  · rw [if_neg h1]
    by_cases h2 : q.st = 2
    · rw [if_pos h2]
      show (((2 : Int) == k) || ((6 : Int) == k)) = true ↔ _
      simp only [Bool.or_eq_true, beq_iff_eq, allB, decide_eq_true_eq]
      unfold allP
      omega
    · rw [if_neg h2]
      show false = true ↔ _
      simp only [Bool.false_eq_true, false_iff, allB, decide_eq_true_eq]
      unfold allP
      omega
end Go.Proofs.Ytlejhkmkdajneaa

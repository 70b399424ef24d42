/- Lists of kinds are compared; the law AppealMatters. No conditions. -/
import Derived.Test.YtlejhkmkdajneaaA3
namespace Go.Proofs.Ytlejhkmkdajneaa
open Go.Ev Go.ChangeShapes Go.WideShapes Go.ChangeAt Go.RowKit
set_option linter.all false
def Fsame : List D → Option (Bool × List D)
  | [.slice [.int .u8] r, .slice [.int .u8] s] => some (decide (r.n ≤ big), [.v (.bool (sameR r s))])
  | _ => none
def S18 (len len2 : Nat) (j : Int) (r s : Row) : St := { τ := [.slice (some ⟨0, 0, some 0⟩) len 0, .slice (some ⟨1, 0, some 0⟩) len2 0] ++ us 3 ++ [i64 j] ++ us 20, saved := [[]], mem := [some (.row [.int .u8] false r), some (.row [.int .u8] false s)] }
def S18r : St := { τ := us 4 ++ [.bool false] ++ us 21, saved := [[]], mem := [] }
def S18x : St := { τ := us 26, saved := [[]], mem := [] }
def G18 : List It → (X → St → Option (List D)) → Option (List D)
  | [.n len, .n len2, .r r, .r s], k => br (decide (len ≤ big) && decide ((len : Int) = (len2 : Int))) (br (anyF (neI r s) len 0) (k .ret S18r) (k (.exit 0) S18x)) none
  | _, _ => none
def l18 : LoopC where
  f := 20
  id := 4
  lv := [0, 1, 5]
  lx := [4]
  p := { τ := [.v (.sl 0), .v (.sl 1)] ++ pu 3 ++ [.v (.c (i64 0))] ++ pu 20, saved := [[]], mem := [.row [.int .u8] false, .row [.int .u8] false] }
  G := G18
noncomputable def C18 : Cx := mkCx Try.prog fns [] [l18]
theorem round18 (d : Nat) (R : St → Option (List D)) (K : X → St → Option (List D)) (len len2 : Nat) (j : Nat) (r s : Row) :
    evCode C18 20 true (inl C18 (d + 4)) (lbody C18.P 20 4) (S18 len len2 j r s) (rnd [0, 1, 5] (some [4]) R K) =
    br (decide ((j : Int) < len)) (br (decide (0 ≤ (j : Int)) && decide ((j : Int) < len)) (br (decide (0 ≤ (j : Int)) && decide ((j : Int) < len2))
      (br (r.I (0 + j) 0 != s.I (0 + j) 0) (K .ret S18r) (R (S18 len len2 (IntKind.i64.wrap (j + 1)) r s))) none) none) (K (.exit 0) S18x) := by kernel_rfl
theorem loop18 : LoopOk C18 l18 := ⟨by kernel_rfl, fun d its k rr h => by
  show rounds [0, 1, 5] (some [4]) (evCode C18 20 true (inl C18 (d + 4)) (lbody C18.P 20 4)) 18446744073709551616 (bst l18.p its) k = some rr
  change G18 its k = some rr at h
  unfold G18 at h
  split at h
  · rename_i len len2 r s
    rcases br_some h with ⟨h1, h2⟩ | ⟨_, h2⟩
    · simp only [Bool.and_eq_true, decide_eq_true_eq] at h1
      obtain ⟨h4, h3⟩ := h1
      have h1 : len ≤ 9223372036854775807 := h4
      obtain rfl : len = len2 := by omega
      rw [← h2]
      exact rounds_scan (S := fun j => S18 len len j r s) (len := len) (bad := neI r s) (Kb := fun K => K .ret S18r) (Ke := fun K => K (.exit 0) S18x)
        (fun j hj R K => by
          rw [round18, wrap64 (by omega) (by omega), show decide ((j : Int) < (len : Int)) = true by simpa using hj, show (decide (0 ≤ (j : Int))) = true by simp, Nat.zero_add]
          rfl)
        (fun R K => by
          rw [round18, show decide ((len : Int) < (len : Int)) = false by simp]
          rfl) k len 0 (by omega) _ (by omega)
    · cases h2
  · cases h⟩
theorem C18_ok : CxOk C18 := mkCx_ok enter mixed (fun p h => by cases h) (fun l h => by
  simp only [List.mem_singleton] at h
  subst h
  exact loop18)
theorem t18 (r s : Row) : evF C18 6 20 [.slice [.int .u8] r, .slice [.int .u8] s] =
    br ((r.n : Int) != (s.n : Int)) (some [.v (.bool false)]) (br (decide (r.n ≤ big) && decide ((r.n : Int) = (s.n : Int))) (br (anyF (neI r s) r.n 0) (some [.v (.bool false)]) (some [.v (.bool true)])) none) := by kernel_rfl
theorem den_same : Den Try.prog 20 Fsame := evF_den C18_ok fun ds rs h => by
  unfold Fsame at h
  split at h
  · rename_i r s
    simp only [Option.some.injEq, Prod.mk.injEq] at h
    obtain ⟨h, rfl⟩ := h
    refine (t18 r s).trans ?_
    rw [h]
    unfold sameR
    cases hn : ((r.n : Int) != (s.n : Int))
    · have : decide ((r.n : Int) = (s.n : Int)) = true := by simpa using hn
      rw [this]
      cases anyF (neI r s) r.n 0 <;> rfl
    · rfl
  · cases h


noncomputable def C7 : Cx := mkCx Try.prog fns [(10, Fop), (11, Fop), (12, Fat), (13, Fat), (14, Fal), (15, Fal), (16, Fbd), (17, Fbd), (18, Fchk), (19, Fchk), (20, Fsame)] []
theorem C7_ok : CxOk C7 := mkCx_ok enter mixed (fun p h => by
  simp only [List.mem_cons, List.not_mem_nil, or_false] at h
  rcases h with rfl | rfl | rfl | rfl | rfl | rfl | rfl | rfl | rfl | rfl | rfl
  · exact den_op
  · exact den_opr
  · exact den_at
  · exact den_atr
  · exact den_talp
  · exact den_talr
  · exact den_bd
  · exact den_bdr
  · exact den_chk
  · exact den_chkr
  · exact den_same) (fun l h => by cases h)
theorem tmat (m : Ms) (l d r cl day : Int) : evF C7 6 3 [msD m, .v (i64 l), .v (i64 d), .v (i64 r), .v (i64 cl), .v (i64 day)] =
    br (chkE m == chkE m) (br ((opC l d r cl day).lv == (opC l d r cl day).lv && ((opC l d r cl day).ds == (opC l d r cl day).ds && ((opC l d r cl day).rm == (opC l d r cl day).rm && ((opC l d r cl day).cl == (opC l d r cl day).cl && ((opC l d r cl day).lev == (opC l d r cl day).lev && ((opC l d r cl day).st == (opC l d r cl day).st && ((opC l d r cl day).day == (opC l d r cl day).day && ((opC l d r cl day).due == (opC l d r cl day).due && ((opC l d r cl day).rd == (opC l d r cl day).rd && ((opC l d r cl day).w0 == (opC l d r cl day).w0 && ((opC l d r cl day).w1 == (opC l d r cl day).w1 && true) && ((opC l d r cl day).aw == (opC l d r cl day).aw && true))))))))))) (br (opE l d r cl day == opE l d r cl day) (br ((atC m day).lv == (atC m day).lv && ((atC m day).ds == (atC m day).ds && ((atC m day).rm == (atC m day).rm && ((atC m day).cl == (atC m day).cl && ((atC m day).lev == (atC m day).lev && ((atC m day).st == (atC m day).st && ((atC m day).day == (atC m day).day && ((atC m day).due == (atC m day).due && ((atC m day).rd == (atC m day).rd && ((atC m day).w0 == (atC m day).w0 && ((atC m day).w1 == (atC m day).w1 && true) && ((atC m day).aw == (atC m day).aw && true))))))))))) (br (atE m day == atE m day) (br (decide ((winOf (alR { lv := m.lv, ds := m.ds, rm := m.rm, cl := m.cl, lev := m.lev, st := m.st, day := m.day, due := m.due, rd := m.rd, w0 := m.w0, w1 := m.w1, aw := m.aw : Ms } day) 0 (alR { lv := m.lv, ds := m.ds, rm := m.rm, cl := m.cl, lev := m.lev, st := m.st, day := m.day, due := m.due, rd := m.rd, w0 := m.w0, w1 := m.w1, aw := m.aw : Ms } day).n).n ≤ big)) (br (sameR (winOf (alR m day) 0 (alR m day).n) (winOf (alR m day) 0 (alR m day).n)) (br (atE m day == atE m day) (br (bdN m == bdN m) (some [.v (.bool (chkE m == chkE m))]) (some [.v (.bool (false))])) (some [.v (.bool (false))])) (some [.v (.bool (false))])) (none)) (some [.v (.bool (false))])) (some [.v (.bool (false))])) (some [.v (.bool (false))])) (some [.v (.bool (false))])) (some [.v (.bool (false))]) := by kernel_rfl
theorem al_n (m : Ms) (d : Int) : (alR m d).n ≤ 5 := by
  unfold alR kR
  repeat' split
  all_goals exact Nat.le_of_ble_eq_true rfl
theorem law_mat (m : Ms) (l d r cl day : Int) : evF C7 6 3 [msD m, .v (i64 l), .v (i64 d), .v (i64 r), .v (i64 cl), .v (i64 day)] = some [.v (.bool true)] := by
  rw [tmat]
  have h2 : decide ((winOf (alR m day) 0 (alR m day).n).n ≤ big) = true := decide_eq_true (show (alR m day).n ≤ 9223372036854775807 by have := al_n m day; omega)
  have h3 : sameR (winOf (alR m day) 0 (alR m day).n) (winOf (alR m day) 0 (alR m day).n) = true := sameR_self _
  simp only [h2, h3, br_true, beq_self_eq_true, Bool.and_self, Bool.and_true]

theorem own : ownKnob Try.prog.godebug = none := by kernel_rfl
theorem laidOut : laidOutB Try.prog = true := by kernel_rfl
set_option maxRecDepth 100000 in
theorem appealMatters_lifted (os : Os) (started : os.Started) (H : Type) (enc : TypeId × Value → H) :
    ReturnsInHanded {} Try.checked os 3 .any (Rows.appealMattersSpec.pre6 enc Try.prog Try.f3 Rows.appealMattersRow.domain false) (Rows.appealMattersSpec.post enc Try.prog Try.f3 false true false false) :=
  lifted_true (C := C7) C7_ok (K := Try.checked) rfl (f := 3) (d := 5) (e := 6) (fn := Try.f3) (t4 := 4) (sh := [(true, [.int .i64, .int .i64, .int .i64, .int .i64, .int .i64, .int .u8, .int .i64, .int .i64, .int .i64, .bool, .bool, .int .i64]), (false, [.int .i64]), (false, [.int .i64]), (false, [.int .i64]), (false, [.int .i64]), (false, [.int .i64])]) own (by kernel_rfl) Try.func3 laidOut (by kernel_rfl) (by kernel_rfl) Try.underlying4 rfl
    (fun H ds h => by
      have h : ds.length = 6 := h
      match ds, h with
      | [d1, d2, d3, d4, d5, d6], _ => rfl)
    (by kernel_rfl)
    (fun Ds h => by
      cases h with
      | agg a h =>
      cases a with
      | cons c a =>
      cases c with
      | int w0_0 =>
      cases a with
      | cons c a =>
      cases c with
      | int w0_1 =>
      cases a with
      | cons c a =>
      cases c with
      | int w0_2 =>
      cases a with
      | cons c a =>
      cases c with
      | int w0_3 =>
      cases a with
      | cons c a =>
      cases c with
      | int w0_4 =>
      cases a with
      | cons c a =>
      cases c with
      | int w0_5 =>
      cases a with
      | cons c a =>
      cases c with
      | int w0_6 =>
      cases a with
      | cons c a =>
      cases c with
      | int w0_7 =>
      cases a with
      | cons c a =>
      cases c with
      | int w0_8 =>
      cases a with
      | cons c a =>
      cases c
      cases a with
      | cons c a =>
      cases c
      cases a with
      | cons c a =>
      cases c with
      | int w0_11 =>
      cases a
      cases h with
      | one c h =>
      cases c with
      | int w1_0 =>
      cases h with
      | one c h =>
      cases c with
      | int w2_0 =>
      cases h with
      | one c h =>
      cases c with
      | int w3_0 =>
      cases h with
      | one c h =>
      cases c with
      | int w4_0 =>
      cases h with
      | one c h =>
      cases c with
      | int w5_0 =>
      cases h
      exact law_mat ⟨_, _, _, _, _, _, _, _, _, _, _, _⟩ _ _ _ _ _)
    started (ChangeSpec.witness6 (enc := enc) (C := Try.checked) false ⟨#[], #[.agg #[.int .i64 0, .int .i64 0, .int .i64 0, .int .i64 0, .int .i64 0, .int .u8 0, .int .i64 0, .int .i64 0, .int .i64 0, .bool false, .bool false, .int .i64 0], .int .i64 0, .int .i64 0, .int .i64 0, .int .i64 0, .int .i64 0], []⟩ 8 (by kernel_rfl) (by kernel_rfl) (by kernel_rfl) (by kernel_rfl))

theorem appealMatters_over : Rows.appealMattersRow.holds Try.pinned (OpenSpec.ofChange Rows.appealMattersSpec) :=
  OpenClaim.holds_of_wide 3 Try.f3 rfl rfl rfl rfl rfl rfl rfl ⟨rfl, rfl, rfl, rfl, rfl⟩ rfl rfl rfl rfl rfl (by kernel_rfl) Try.func3 (by kernel_rfl)
    (of_decide_eq_true (by kernel_rfl)) (by unfold Func.isWrapper; first | (rw [if_pos (by decide +kernel)]; kernel_rfl) | (rw [if_neg (by decide +kernel)]; exact ⟨rfl, rfl⟩))
    (fun os started H enc _ => appealMatters_lifted os started H enc)

theorem appealMatters_said : Rows.AppealMattersSaid := appealMatters_over
#print axioms appealMatters_said
end Go.Proofs.Ytlejhkmkdajneaa

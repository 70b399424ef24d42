/- Replay, of the program and of the reference: contracts. No conditions. -/
import Derived.Test.YtlejhkmkdajneaaA5
namespace Go.Proofs.Ytlejhkmkdajneaa
open Go.Ev
set_option linter.all false
def ksV : List CK := [.int .u8, .int .i64, .int .i64, .int .i64]
def boxC (m : Ms) : Option Blk := some (.box [i64 m.lv, i64 m.ds, i64 m.rm, i64 m.cl, i64 m.lev, u8 m.st, i64 m.day, i64 m.due, i64 m.rd, .bool m.w0, .bool m.w1, i64 m.aw])
def S23 (len : Nat) (l j : Int) (r : Row) (c : Ms) : St := ⟨us 1 ++ [.slice (some ⟨0, 0, some 0⟩) len 0, .pointer (some ⟨1, 0, some 0⟩)] ++ us 1 ++ [.pointer (some ⟨2, 0, some 0⟩)] ++ us 17 ++ [.slice (some ⟨0, 0, some 0⟩) len 0, i64 l, i64 j] ++ us 20, [[]], [some (.row ksV false r), boxC c, boxC zeroM]⟩
def S23r (len : Nat) (n e : Int) (r : Row) (c : Ms) : St := ⟨us 1 ++ [.slice (some ⟨0, 0, some 0⟩) len 0, .pointer (some ⟨1, 0, some 0⟩)] ++ us 1 ++ [.pointer (some ⟨2, 0, some 0⟩), i64 n, i64 e] ++ us 38, [[]], [some (.row ksV false r), boxC c, boxC c]⟩
def S23x (len : Nat) (r : Row) (c : Ms) : St := ⟨us 1 ++ [.slice (some ⟨0, 0, some 0⟩) len 0, .pointer (some ⟨1, 0, some 0⟩)] ++ us 1 ++ [.pointer (some ⟨2, 0, some 0⟩)] ++ us 40, [[]], [some (.row ksV false r), boxC c, boxC zeroM]⟩
def G23 : List It → (X → St → Option (List D)) → Option (List D)
  | [.n len, .n len2, .i l, .r r, .i lv, .i ds_, .i rm, .i cl, .i lev, .i st, .i day, .i due, .i rd, .b w0, .b w1, .i aw], k =>
    br (decide (l = (len : Int)) && decide ((len : Int) = (len2 : Int)) && decide (len ≤ 1000) && decide (goodM ⟨lv, ds_, rm, cl, lev, st, day, due, rd, w0, w1, aw⟩)) (br ((runG (rE r) (rN r) len 0 ⟨lv, ds_, rm, cl, lev, st, day, due, rd, w0, w1, aw⟩).2.2 != 0) (k .ret (S23r len ((runG (rE r) (rN r) len 0 ⟨lv, ds_, rm, cl, lev, st, day, due, rd, w0, w1, aw⟩).2.1 : Nat) (runG (rE r) (rN r) len 0 ⟨lv, ds_, rm, cl, lev, st, day, due, rd, w0, w1, aw⟩).2.2 r (runG (rE r) (rN r) len 0 ⟨lv, ds_, rm, cl, lev, st, day, due, rd, w0, w1, aw⟩).1)) (k (.exit 0) (S23x len r (runG (rE r) (rN r) len 0 ⟨lv, ds_, rm, cl, lev, st, day, due, rd, w0, w1, aw⟩).1))) none
  | _, _ => none
def boxP : PB := .box [.v (.int .i64), .v (.int .i64), .v (.int .i64), .v (.int .i64), .v (.int .i64), .v (.int .u8), .v (.int .i64), .v (.int .i64), .v (.int .i64), .v .bool, .v .bool, .v (.int .i64)]
def boxZ : PB := .box [.v (.c (i64 0)), .v (.c (i64 0)), .v (.c (i64 0)), .v (.c (i64 0)), .v (.c (i64 0)), .v (.c (u8 0)), .v (.c (i64 0)), .v (.c (i64 0)), .v (.c (i64 0)), .v (.c (.bool false)), .v (.c (.bool false)), .v (.c (i64 0))]
def l23 : LoopC where
  f := 23
  id := 7
  lv := [1, 2, 4, 22, 23, 24]
  lx := [1, 2, 4, 5, 6]
  p := { τ := pu 1 ++ [.v (.sl 0), .v (.c (.pointer (some ⟨1, 0, some 0⟩)))] ++ pu 1 ++ [.v (.c (.pointer (some ⟨2, 0, some 0⟩)))] ++ pu 17 ++ [.v (.sl 0), .v (.int .i64), .v (.c (i64 0))] ++ pu 20, saved := [[]], mem := [.row ksV false, boxP, boxZ] }
  G := G23
noncomputable def C23 : Cx := mkCx Try.prog fns [(18, Fchk), (21, Fap)] [l23]
theorem round23 (q : Nat) (R : St → Option (List D)) (K : X → St → Option (List D)) (c : Ms) (r : Row) (len : Nat) (l : Int) (j : Nat) :
   evCode C23 23 true (inl C23 (q + 4)) (lbody C23.P 23 7) (S23 len l j r c) (rnd [1, 2, 4, 22, 23, 24] (some [1, 2, 4, 5, 6]) R K) =
     br (decide ((j : Int) < l)) (br (decide (0 ≤ (j : Int)) && decide ((j : Int) < len)) (br (rE r c j != 0) (K .ret (S23r len j (rE r c j) r c)) (R (S23 len l (IntKind.i64.wrap (j + 1)) r (rN r c j)))) none) (K (.exit 0) (S23x len r c)) := by kernel_rfl
theorem loop23 : LoopOk C23 l23 := ⟨by kernel_rfl, fun q its k rr h => by
  show rounds [1, 2, 4, 22, 23, 24] (some [1, 2, 4, 5, 6]) (evCode C23 23 true (inl C23 (q + 4)) (lbody C23.P 23 7)) 18446744073709551616 (bst l23.p its) k = some rr
  change G23 its k = some rr at h
  unfold G23 at h
  split at h
  · rename_i len len2 l r lv ds_ rm cl lev st day due rd w0 w1 aw
    rcases br_some h with ⟨h1, h2⟩ | ⟨_, h2⟩
    · simp only [Bool.and_eq_true, decide_eq_true_eq] at h1
      obtain ⟨⟨⟨rfl, h1⟩, h3⟩, hg⟩ := h1
      obtain rfl : len = len2 := by omega
      rw [← h2]
      have key := rounds_run (lv := [1, 2, 4, 22, 23, 24]) (lx := some [1, 2, 4, 5, 6]) (f := evCode C23 23 true (inl C23 (q + 4)) (lbody C23.P 23 7)) (S := fun j c => S23 len len j r c) (len := len)
        (T := fun j c R K => br true (br (rE r c j != 0) (K .ret (S23r len j (rE r c j) r c)) (R (rN r c j))) none) (E := fun c K => K (.exit 0) (S23x len r c))
        (fun j hj c R K => by
          rw [round23, wrap64 (by omega) (by omega), show decide ((j : Int) < (len : Int)) = true by simpa using hj, show (decide (0 ≤ (j : Int))) = true by simp]
          rfl)
        (fun c R K => by
          rw [round23, show decide ((len : Int) < (len : Int)) = false by simp]
          rfl) (fun j c R R' K hR => by simp only [hR]) k len 0 ⟨lv, ds_, rm, cl, lev, st, day, due, rd, w0, w1, aw⟩ (by omega) 18446744073709551616 (by omega)
      rw [runL_runG (ok := fun _ => true) (G := goodM) (Kr := fun c j e K => K .ret (S23r len j e r c)) (fun c hc => rfl) rN_good k len 0 ⟨lv, ds_, rm, cl, lev, st, day, due, rd, w0, w1, aw⟩ hg] at key
      exact key
    · cases h2
  · cases h⟩
theorem C23_ok : CxOk C23 := mkCx_ok enter mixed (fun p h => by
  simp only [List.mem_cons, List.not_mem_nil, or_false] at h
  rcases h with rfl | rfl
  · exact den_chk
  · exact den_tap) (fun l h => by
  simp only [List.mem_singleton] at h
  subst h
  exact loop23)
theorem t23 (c : Ms) (r : Row) : evF C23 6 23 [msD c, .slice ksV r] =
    br (chkE c != 0) (some [.agg [.v (i64 (0)), .v (i64 (0)), .v (i64 (0)), .v (i64 (0)), .v (i64 (0)), .v (.int .u8 (0)), .v (i64 (0)), .v (i64 (0)), .v (i64 (0)), .v (.bool (false)), .v (.bool (false)), .v (i64 (0))], .v (i64 (0)), .v (i64 (chkE c))]) (br (decide ((↑r.n : Int) > 100)) (some [.agg [.v (i64 (0)), .v (i64 (0)), .v (i64 (0)), .v (i64 (0)), .v (i64 (0)), .v (.int .u8 (0)), .v (i64 (0)), .v (i64 (0)), .v (i64 (0)), .v (.bool (false)), .v (.bool (false)), .v (i64 (0))], .v (i64 (0)), .v (i64 (4))]) (br (decide ((↑r.n : Int) = (↑r.n : Int)) && decide ((↑r.n : Int) = (↑r.n : Int)) && decide (r.n ≤ 1000) && decide (goodM { lv := c.lv, ds := c.ds, rm := c.rm, cl := c.cl, lev := c.lev, st := c.st, day := c.day, due := c.due, rd := c.rd, w0 := c.w0, w1 := c.w1, aw := c.aw : Ms })) (br ((runG (rE r) (rN r) r.n 0 { lv := c.lv, ds := c.ds, rm := c.rm, cl := c.cl, lev := c.lev, st := c.st, day := c.day, due := c.due, rd := c.rd, w0 := c.w0, w1 := c.w1, aw := c.aw : Ms }).snd.2 != 0) (some [.agg [.v (i64 ((runG (rE r) (rN r) r.n 0 { lv := c.lv, ds := c.ds, rm := c.rm, cl := c.cl, lev := c.lev, st := c.st, day := c.day, due := c.due, rd := c.rd, w0 := c.w0, w1 := c.w1, aw := c.aw : Ms }).1.lv)), .v (i64 ((runG (rE r) (rN r) r.n 0 { lv := c.lv, ds := c.ds, rm := c.rm, cl := c.cl, lev := c.lev, st := c.st, day := c.day, due := c.due, rd := c.rd, w0 := c.w0, w1 := c.w1, aw := c.aw : Ms }).1.ds)), .v (i64 ((runG (rE r) (rN r) r.n 0 { lv := c.lv, ds := c.ds, rm := c.rm, cl := c.cl, lev := c.lev, st := c.st, day := c.day, due := c.due, rd := c.rd, w0 := c.w0, w1 := c.w1, aw := c.aw : Ms }).1.rm)), .v (i64 ((runG (rE r) (rN r) r.n 0 { lv := c.lv, ds := c.ds, rm := c.rm, cl := c.cl, lev := c.lev, st := c.st, day := c.day, due := c.due, rd := c.rd, w0 := c.w0, w1 := c.w1, aw := c.aw : Ms }).1.cl)), .v (i64 ((runG (rE r) (rN r) r.n 0 { lv := c.lv, ds := c.ds, rm := c.rm, cl := c.cl, lev := c.lev, st := c.st, day := c.day, due := c.due, rd := c.rd, w0 := c.w0, w1 := c.w1, aw := c.aw : Ms }).1.lev)), .v (.int .u8 ((runG (rE r) (rN r) r.n 0 { lv := c.lv, ds := c.ds, rm := c.rm, cl := c.cl, lev := c.lev, st := c.st, day := c.day, due := c.due, rd := c.rd, w0 := c.w0, w1 := c.w1, aw := c.aw : Ms }).1.st)), .v (i64 ((runG (rE r) (rN r) r.n 0 { lv := c.lv, ds := c.ds, rm := c.rm, cl := c.cl, lev := c.lev, st := c.st, day := c.day, due := c.due, rd := c.rd, w0 := c.w0, w1 := c.w1, aw := c.aw : Ms }).1.day)), .v (i64 ((runG (rE r) (rN r) r.n 0 { lv := c.lv, ds := c.ds, rm := c.rm, cl := c.cl, lev := c.lev, st := c.st, day := c.day, due := c.due, rd := c.rd, w0 := c.w0, w1 := c.w1, aw := c.aw : Ms }).1.due)), .v (i64 ((runG (rE r) (rN r) r.n 0 { lv := c.lv, ds := c.ds, rm := c.rm, cl := c.cl, lev := c.lev, st := c.st, day := c.day, due := c.due, rd := c.rd, w0 := c.w0, w1 := c.w1, aw := c.aw : Ms }).1.rd)), .v (.bool ((runG (rE r) (rN r) r.n 0 { lv := c.lv, ds := c.ds, rm := c.rm, cl := c.cl, lev := c.lev, st := c.st, day := c.day, due := c.due, rd := c.rd, w0 := c.w0, w1 := c.w1, aw := c.aw : Ms }).1.w0)), .v (.bool ((runG (rE r) (rN r) r.n 0 { lv := c.lv, ds := c.ds, rm := c.rm, cl := c.cl, lev := c.lev, st := c.st, day := c.day, due := c.due, rd := c.rd, w0 := c.w0, w1 := c.w1, aw := c.aw : Ms }).1.w1)), .v (i64 ((runG (rE r) (rN r) r.n 0 { lv := c.lv, ds := c.ds, rm := c.rm, cl := c.cl, lev := c.lev, st := c.st, day := c.day, due := c.due, rd := c.rd, w0 := c.w0, w1 := c.w1, aw := c.aw : Ms }).1.aw))], .v (i64 ((↑(runG (rE r) (rN r) r.n 0 { lv := c.lv, ds := c.ds, rm := c.rm, cl := c.cl, lev := c.lev, st := c.st, day := c.day, due := c.due, rd := c.rd, w0 := c.w0, w1 := c.w1, aw := c.aw : Ms }).snd.1 : Int))), .v (i64 ((runG (rE r) (rN r) r.n 0 { lv := c.lv, ds := c.ds, rm := c.rm, cl := c.cl, lev := c.lev, st := c.st, day := c.day, due := c.due, rd := c.rd, w0 := c.w0, w1 := c.w1, aw := c.aw : Ms }).snd.2))]) (some [.agg [.v (i64 ((runG (rE r) (rN r) r.n 0 { lv := c.lv, ds := c.ds, rm := c.rm, cl := c.cl, lev := c.lev, st := c.st, day := c.day, due := c.due, rd := c.rd, w0 := c.w0, w1 := c.w1, aw := c.aw : Ms }).1.lv)), .v (i64 ((runG (rE r) (rN r) r.n 0 { lv := c.lv, ds := c.ds, rm := c.rm, cl := c.cl, lev := c.lev, st := c.st, day := c.day, due := c.due, rd := c.rd, w0 := c.w0, w1 := c.w1, aw := c.aw : Ms }).1.ds)), .v (i64 ((runG (rE r) (rN r) r.n 0 { lv := c.lv, ds := c.ds, rm := c.rm, cl := c.cl, lev := c.lev, st := c.st, day := c.day, due := c.due, rd := c.rd, w0 := c.w0, w1 := c.w1, aw := c.aw : Ms }).1.rm)), .v (i64 ((runG (rE r) (rN r) r.n 0 { lv := c.lv, ds := c.ds, rm := c.rm, cl := c.cl, lev := c.lev, st := c.st, day := c.day, due := c.due, rd := c.rd, w0 := c.w0, w1 := c.w1, aw := c.aw : Ms }).1.cl)), .v (i64 ((runG (rE r) (rN r) r.n 0 { lv := c.lv, ds := c.ds, rm := c.rm, cl := c.cl, lev := c.lev, st := c.st, day := c.day, due := c.due, rd := c.rd, w0 := c.w0, w1 := c.w1, aw := c.aw : Ms }).1.lev)), .v (.int .u8 ((runG (rE r) (rN r) r.n 0 { lv := c.lv, ds := c.ds, rm := c.rm, cl := c.cl, lev := c.lev, st := c.st, day := c.day, due := c.due, rd := c.rd, w0 := c.w0, w1 := c.w1, aw := c.aw : Ms }).1.st)), .v (i64 ((runG (rE r) (rN r) r.n 0 { lv := c.lv, ds := c.ds, rm := c.rm, cl := c.cl, lev := c.lev, st := c.st, day := c.day, due := c.due, rd := c.rd, w0 := c.w0, w1 := c.w1, aw := c.aw : Ms }).1.day)), .v (i64 ((runG (rE r) (rN r) r.n 0 { lv := c.lv, ds := c.ds, rm := c.rm, cl := c.cl, lev := c.lev, st := c.st, day := c.day, due := c.due, rd := c.rd, w0 := c.w0, w1 := c.w1, aw := c.aw : Ms }).1.due)), .v (i64 ((runG (rE r) (rN r) r.n 0 { lv := c.lv, ds := c.ds, rm := c.rm, cl := c.cl, lev := c.lev, st := c.st, day := c.day, due := c.due, rd := c.rd, w0 := c.w0, w1 := c.w1, aw := c.aw : Ms }).1.rd)), .v (.bool ((runG (rE r) (rN r) r.n 0 { lv := c.lv, ds := c.ds, rm := c.rm, cl := c.cl, lev := c.lev, st := c.st, day := c.day, due := c.due, rd := c.rd, w0 := c.w0, w1 := c.w1, aw := c.aw : Ms }).1.w0)), .v (.bool ((runG (rE r) (rN r) r.n 0 { lv := c.lv, ds := c.ds, rm := c.rm, cl := c.cl, lev := c.lev, st := c.st, day := c.day, due := c.due, rd := c.rd, w0 := c.w0, w1 := c.w1, aw := c.aw : Ms }).1.w1)), .v (i64 ((runG (rE r) (rN r) r.n 0 { lv := c.lv, ds := c.ds, rm := c.rm, cl := c.cl, lev := c.lev, st := c.st, day := c.day, due := c.due, rd := c.rd, w0 := c.w0, w1 := c.w1, aw := c.aw : Ms }).1.aw))], .v (i64 ((↑r.n : Int))), .v (i64 (0))])) (none))) := by kernel_rfl
def Frp : List D → Option (Bool × List D)
  | [.agg [.v (.int .i64 lv), .v (.int .i64 ds_), .v (.int .i64 rm), .v (.int .i64 cl), .v (.int .i64 lev), .v (.int .u8 st), .v (.int .i64 day), .v (.int .i64 due), .v (.int .i64 rd), .v (.bool w0), .v (.bool w1), .v (.int .i64 aw)], .slice [.int .u8, .int .i64, .int .i64, .int .i64] r] => some (true, [msD (rpR ⟨lv, ds_, rm, cl, lev, st, day, due, rd, w0, w1, aw⟩ r).1, .v (i64 ((rpR ⟨lv, ds_, rm, cl, lev, st, day, due, rd, w0, w1, aw⟩ r).2.1 : Nat)), .v (i64 (rpR ⟨lv, ds_, rm, cl, lev, st, day, due, rd, w0, w1, aw⟩ r).2.2)])
  | _ => none
theorem den_rp : Den Try.prog 23 Frp := evF_den C23_ok fun ds rs h => by
  unfold Frp at h
  split at h
  · rename_i lv ds_ rm cl lev st day due rd w0 w1 aw r
    simp only [Option.some.injEq, Prod.mk.injEq] at h
    obtain ⟨_, rfl⟩ := h
    refine (t23 ⟨lv, ds_, rm, cl, lev, st, day, due, rd, w0, w1, aw⟩ r).trans ?_
    (try dsimp only)
    unfold rpR
    by_cases hg : goodM ⟨lv, ds_, rm, cl, lev, st, day, due, rd, w0, w1, aw⟩
    · rw [if_neg (by simpa using hg), chk0 hg]
      by_cases hn : 100 < r.n
      · rw [if_pos hn, show decide ((r.n : Int) > 100) = true by simp; omega]
        rfl
      · rw [if_neg hn, show decide ((r.n : Int) > 100) = false by simp; omega, decide_eq_true hg, show decide (r.n ≤ 1000) = true by simp; omega]
        simp only [decide_true, Bool.and_self, br_true, br_false, bne_self_eq_false]
        cases he : ((runG (rE r) (rN r) r.n 0 ⟨lv, ds_, rm, cl, lev, st, day, due, rd, w0, w1, aw⟩).2.2 != 0)
        · have he' : (runG (rE r) (rN r) r.n 0 ⟨lv, ds_, rm, cl, lev, st, day, due, rd, w0, w1, aw⟩).2.2 = 0 := by simpa using he
          have hk := (runG_le (e := rE r) (nx := rN r) (m := r.n) (j := 0) (c := ⟨lv, ds_, rm, cl, lev, st, day, due, rd, w0, w1, aw⟩)).2.2.1 he'
          rw [he', hk, Nat.zero_add]
          rfl
        · rfl
    · rw [if_pos hg, chk8 hg]
      rfl
  · cases h

/-! ### The reference's -/
def S24 (len : Nat) (j : Int) (r : Row) (c : Ms) : St := ⟨us 1 ++ [.slice (some ⟨0, 0, some 0⟩) len 0, .pointer (some ⟨1, 0, some 0⟩)] ++ us 1 ++ [.pointer (some ⟨2, 0, some 0⟩)] ++ us 2 ++ [i64 j] ++ us 34, [[]], [some (.row ksV false r), boxC c, boxC zeroM]⟩
def S24r (len : Nat) (n e : Int) (r : Row) (c : Ms) : St := ⟨us 1 ++ [.slice (some ⟨0, 0, some 0⟩) len 0, .pointer (some ⟨1, 0, some 0⟩)] ++ us 1 ++ [.pointer (some ⟨2, 0, some 0⟩), i64 n, i64 e] ++ us 35, [[]], [some (.row ksV false r), boxC c, boxC c]⟩
def S24x (len : Nat) (r : Row) (c : Ms) : St := ⟨us 1 ++ [.slice (some ⟨0, 0, some 0⟩) len 0, .pointer (some ⟨1, 0, some 0⟩)] ++ us 1 ++ [.pointer (some ⟨2, 0, some 0⟩)] ++ us 37, [[]], [some (.row ksV false r), boxC c, boxC zeroM]⟩
def G24 : List It → (X → St → Option (List D)) → Option (List D)
  | [.n len, .r r, .i lv, .i ds_, .i rm, .i cl, .i lev, .i st, .i day, .i due, .i rd, .b w0, .b w1, .i aw], k =>
    br (decide (len ≤ 1000) && decide (goodM ⟨lv, ds_, rm, cl, lev, st, day, due, rd, w0, w1, aw⟩)) (br ((runG (rE r) (rN r) len 0 ⟨lv, ds_, rm, cl, lev, st, day, due, rd, w0, w1, aw⟩).2.2 != 0) (k .ret (S24r len ((runG (rE r) (rN r) len 0 ⟨lv, ds_, rm, cl, lev, st, day, due, rd, w0, w1, aw⟩).2.1 : Nat) (runG (rE r) (rN r) len 0 ⟨lv, ds_, rm, cl, lev, st, day, due, rd, w0, w1, aw⟩).2.2 r (runG (rE r) (rN r) len 0 ⟨lv, ds_, rm, cl, lev, st, day, due, rd, w0, w1, aw⟩).1)) (k (.exit 0) (S24x len r (runG (rE r) (rN r) len 0 ⟨lv, ds_, rm, cl, lev, st, day, due, rd, w0, w1, aw⟩).1))) none
  | _, _ => none
def l24 : LoopC where
  f := 24
  id := 6
  lv := [1, 2, 4, 7]
  lx := [1, 2, 4, 5, 6]
  p := { τ := pu 1 ++ [.v (.sl 0), .v (.c (.pointer (some ⟨1, 0, some 0⟩)))] ++ pu 1 ++ [.v (.c (.pointer (some ⟨2, 0, some 0⟩)))] ++ pu 2 ++ [.v (.c (i64 0))] ++ pu 34, saved := [[]], mem := [.row ksV false, boxP, boxZ] }
  G := G24
noncomputable def C24 : Cx := mkCx Try.prog fns [(19, Fchk), (22, Fap)] [l24]
theorem round24 (q : Nat) (R : St → Option (List D)) (K : X → St → Option (List D)) (c : Ms) (r : Row) (len : Nat) (j : Nat) :
   evCode C24 24 true (inl C24 (q + 4)) (lbody C24.P 24 6) (S24 len j r c) (rnd [1, 2, 4, 7] (some [1, 2, 4, 5, 6]) R K) =
     br (decide ((j : Int) < len)) (br (decide (0 ≤ (j : Int)) && decide ((j : Int) < len)) (br (rE r c j != 0) (K .ret (S24r len j (rE r c j) r c)) (R (S24 len (IntKind.i64.wrap (j + 1)) r (rN r c j)))) none) (K (.exit 0) (S24x len r c)) := by kernel_rfl
theorem loop24 : LoopOk C24 l24 := ⟨by kernel_rfl, fun q its k rr h => by
  show rounds [1, 2, 4, 7] (some [1, 2, 4, 5, 6]) (evCode C24 24 true (inl C24 (q + 4)) (lbody C24.P 24 6)) 18446744073709551616 (bst l24.p its) k = some rr
  change G24 its k = some rr at h
  unfold G24 at h
  split at h
  · rename_i len r lv ds_ rm cl lev st day due rd w0 w1 aw
    rcases br_some h with ⟨h1, h2⟩ | ⟨_, h2⟩
    · simp only [Bool.and_eq_true, decide_eq_true_eq] at h1
      obtain ⟨h3, hg⟩ := h1
      rw [← h2]
      have key := rounds_run (lv := [1, 2, 4, 7]) (lx := some [1, 2, 4, 5, 6]) (f := evCode C24 24 true (inl C24 (q + 4)) (lbody C24.P 24 6)) (S := fun j c => S24 len j r c) (len := len)
        (T := fun j c R K => br true (br (rE r c j != 0) (K .ret (S24r len j (rE r c j) r c)) (R (rN r c j))) none) (E := fun c K => K (.exit 0) (S24x len r c))
        (fun j hj c R K => by
          rw [round24, wrap64 (by omega) (by omega), show decide ((j : Int) < (len : Int)) = true by simpa using hj, show (decide (0 ≤ (j : Int))) = true by simp]
          rfl)
        (fun c R K => by
          rw [round24, show decide ((len : Int) < (len : Int)) = false by simp]
          rfl) (fun j c R R' K hR => by simp only [hR]) k len 0 ⟨lv, ds_, rm, cl, lev, st, day, due, rd, w0, w1, aw⟩ (by omega) 18446744073709551616 (by omega)
      rw [runL_runG (ok := fun _ => true) (G := goodM) (Kr := fun c j e K => K .ret (S24r len j e r c)) (fun c hc => rfl) rN_good k len 0 ⟨lv, ds_, rm, cl, lev, st, day, due, rd, w0, w1, aw⟩ hg] at key
      exact key
    · cases h2
  · cases h⟩
theorem C24_ok : CxOk C24 := mkCx_ok enter mixed (fun p h => by
  simp only [List.mem_cons, List.not_mem_nil, or_false] at h
  rcases h with rfl | rfl
  · exact den_chkr
  · exact den_tar) (fun l h => by
  simp only [List.mem_singleton] at h
  subst h
  exact loop24)
theorem t24 (c : Ms) (r : Row) : evF C24 6 24 [msD c, .slice ksV r] =
    br (chkE c != 0) (some [.agg [.v (i64 (0)), .v (i64 (0)), .v (i64 (0)), .v (i64 (0)), .v (i64 (0)), .v (.int .u8 (0)), .v (i64 (0)), .v (i64 (0)), .v (i64 (0)), .v (.bool (false)), .v (.bool (false)), .v (i64 (0))], .v (i64 (0)), .v (i64 (8))]) (br (decide ((↑r.n : Int) > 100)) (some [.agg [.v (i64 (0)), .v (i64 (0)), .v (i64 (0)), .v (i64 (0)), .v (i64 (0)), .v (.int .u8 (0)), .v (i64 (0)), .v (i64 (0)), .v (i64 (0)), .v (.bool (false)), .v (.bool (false)), .v (i64 (0))], .v (i64 (0)), .v (i64 (4))]) (br (decide (r.n ≤ 1000) && decide (goodM { lv := c.lv, ds := c.ds, rm := c.rm, cl := c.cl, lev := c.lev, st := c.st, day := c.day, due := c.due, rd := c.rd, w0 := c.w0, w1 := c.w1, aw := c.aw : Ms })) (br ((runG (rE r) (rN r) r.n 0 { lv := c.lv, ds := c.ds, rm := c.rm, cl := c.cl, lev := c.lev, st := c.st, day := c.day, due := c.due, rd := c.rd, w0 := c.w0, w1 := c.w1, aw := c.aw : Ms }).snd.2 != 0) (some [.agg [.v (i64 ((runG (rE r) (rN r) r.n 0 { lv := c.lv, ds := c.ds, rm := c.rm, cl := c.cl, lev := c.lev, st := c.st, day := c.day, due := c.due, rd := c.rd, w0 := c.w0, w1 := c.w1, aw := c.aw : Ms }).1.lv)), .v (i64 ((runG (rE r) (rN r) r.n 0 { lv := c.lv, ds := c.ds, rm := c.rm, cl := c.cl, lev := c.lev, st := c.st, day := c.day, due := c.due, rd := c.rd, w0 := c.w0, w1 := c.w1, aw := c.aw : Ms }).1.ds)), .v (i64 ((runG (rE r) (rN r) r.n 0 { lv := c.lv, ds := c.ds, rm := c.rm, cl := c.cl, lev := c.lev, st := c.st, day := c.day, due := c.due, rd := c.rd, w0 := c.w0, w1 := c.w1, aw := c.aw : Ms }).1.rm)), .v (i64 ((runG (rE r) (rN r) r.n 0 { lv := c.lv, ds := c.ds, rm := c.rm, cl := c.cl, lev := c.lev, st := c.st, day := c.day, due := c.due, rd := c.rd, w0 := c.w0, w1 := c.w1, aw := c.aw : Ms }).1.cl)), .v (i64 ((runG (rE r) (rN r) r.n 0 { lv := c.lv, ds := c.ds, rm := c.rm, cl := c.cl, lev := c.lev, st := c.st, day := c.day, due := c.due, rd := c.rd, w0 := c.w0, w1 := c.w1, aw := c.aw : Ms }).1.lev)), .v (.int .u8 ((runG (rE r) (rN r) r.n 0 { lv := c.lv, ds := c.ds, rm := c.rm, cl := c.cl, lev := c.lev, st := c.st, day := c.day, due := c.due, rd := c.rd, w0 := c.w0, w1 := c.w1, aw := c.aw : Ms }).1.st)), .v (i64 ((runG (rE r) (rN r) r.n 0 { lv := c.lv, ds := c.ds, rm := c.rm, cl := c.cl, lev := c.lev, st := c.st, day := c.day, due := c.due, rd := c.rd, w0 := c.w0, w1 := c.w1, aw := c.aw : Ms }).1.day)), .v (i64 ((runG (rE r) (rN r) r.n 0 { lv := c.lv, ds := c.ds, rm := c.rm, cl := c.cl, lev := c.lev, st := c.st, day := c.day, due := c.due, rd := c.rd, w0 := c.w0, w1 := c.w1, aw := c.aw : Ms }).1.due)), .v (i64 ((runG (rE r) (rN r) r.n 0 { lv := c.lv, ds := c.ds, rm := c.rm, cl := c.cl, lev := c.lev, st := c.st, day := c.day, due := c.due, rd := c.rd, w0 := c.w0, w1 := c.w1, aw := c.aw : Ms }).1.rd)), .v (.bool ((runG (rE r) (rN r) r.n 0 { lv := c.lv, ds := c.ds, rm := c.rm, cl := c.cl, lev := c.lev, st := c.st, day := c.day, due := c.due, rd := c.rd, w0 := c.w0, w1 := c.w1, aw := c.aw : Ms }).1.w0)), .v (.bool ((runG (rE r) (rN r) r.n 0 { lv := c.lv, ds := c.ds, rm := c.rm, cl := c.cl, lev := c.lev, st := c.st, day := c.day, due := c.due, rd := c.rd, w0 := c.w0, w1 := c.w1, aw := c.aw : Ms }).1.w1)), .v (i64 ((runG (rE r) (rN r) r.n 0 { lv := c.lv, ds := c.ds, rm := c.rm, cl := c.cl, lev := c.lev, st := c.st, day := c.day, due := c.due, rd := c.rd, w0 := c.w0, w1 := c.w1, aw := c.aw : Ms }).1.aw))], .v (i64 ((↑(runG (rE r) (rN r) r.n 0 { lv := c.lv, ds := c.ds, rm := c.rm, cl := c.cl, lev := c.lev, st := c.st, day := c.day, due := c.due, rd := c.rd, w0 := c.w0, w1 := c.w1, aw := c.aw : Ms }).snd.1 : Int))), .v (i64 ((runG (rE r) (rN r) r.n 0 { lv := c.lv, ds := c.ds, rm := c.rm, cl := c.cl, lev := c.lev, st := c.st, day := c.day, due := c.due, rd := c.rd, w0 := c.w0, w1 := c.w1, aw := c.aw : Ms }).snd.2))]) (some [.agg [.v (i64 ((runG (rE r) (rN r) r.n 0 { lv := c.lv, ds := c.ds, rm := c.rm, cl := c.cl, lev := c.lev, st := c.st, day := c.day, due := c.due, rd := c.rd, w0 := c.w0, w1 := c.w1, aw := c.aw : Ms }).1.lv)), .v (i64 ((runG (rE r) (rN r) r.n 0 { lv := c.lv, ds := c.ds, rm := c.rm, cl := c.cl, lev := c.lev, st := c.st, day := c.day, due := c.due, rd := c.rd, w0 := c.w0, w1 := c.w1, aw := c.aw : Ms }).1.ds)), .v (i64 ((runG (rE r) (rN r) r.n 0 { lv := c.lv, ds := c.ds, rm := c.rm, cl := c.cl, lev := c.lev, st := c.st, day := c.day, due := c.due, rd := c.rd, w0 := c.w0, w1 := c.w1, aw := c.aw : Ms }).1.rm)), .v (i64 ((runG (rE r) (rN r) r.n 0 { lv := c.lv, ds := c.ds, rm := c.rm, cl := c.cl, lev := c.lev, st := c.st, day := c.day, due := c.due, rd := c.rd, w0 := c.w0, w1 := c.w1, aw := c.aw : Ms }).1.cl)), .v (i64 ((runG (rE r) (rN r) r.n 0 { lv := c.lv, ds := c.ds, rm := c.rm, cl := c.cl, lev := c.lev, st := c.st, day := c.day, due := c.due, rd := c.rd, w0 := c.w0, w1 := c.w1, aw := c.aw : Ms }).1.lev)), .v (.int .u8 ((runG (rE r) (rN r) r.n 0 { lv := c.lv, ds := c.ds, rm := c.rm, cl := c.cl, lev := c.lev, st := c.st, day := c.day, due := c.due, rd := c.rd, w0 := c.w0, w1 := c.w1, aw := c.aw : Ms }).1.st)), .v (i64 ((runG (rE r) (rN r) r.n 0 { lv := c.lv, ds := c.ds, rm := c.rm, cl := c.cl, lev := c.lev, st := c.st, day := c.day, due := c.due, rd := c.rd, w0 := c.w0, w1 := c.w1, aw := c.aw : Ms }).1.day)), .v (i64 ((runG (rE r) (rN r) r.n 0 { lv := c.lv, ds := c.ds, rm := c.rm, cl := c.cl, lev := c.lev, st := c.st, day := c.day, due := c.due, rd := c.rd, w0 := c.w0, w1 := c.w1, aw := c.aw : Ms }).1.due)), .v (i64 ((runG (rE r) (rN r) r.n 0 { lv := c.lv, ds := c.ds, rm := c.rm, cl := c.cl, lev := c.lev, st := c.st, day := c.day, due := c.due, rd := c.rd, w0 := c.w0, w1 := c.w1, aw := c.aw : Ms }).1.rd)), .v (.bool ((runG (rE r) (rN r) r.n 0 { lv := c.lv, ds := c.ds, rm := c.rm, cl := c.cl, lev := c.lev, st := c.st, day := c.day, due := c.due, rd := c.rd, w0 := c.w0, w1 := c.w1, aw := c.aw : Ms }).1.w0)), .v (.bool ((runG (rE r) (rN r) r.n 0 { lv := c.lv, ds := c.ds, rm := c.rm, cl := c.cl, lev := c.lev, st := c.st, day := c.day, due := c.due, rd := c.rd, w0 := c.w0, w1 := c.w1, aw := c.aw : Ms }).1.w1)), .v (i64 ((runG (rE r) (rN r) r.n 0 { lv := c.lv, ds := c.ds, rm := c.rm, cl := c.cl, lev := c.lev, st := c.st, day := c.day, due := c.due, rd := c.rd, w0 := c.w0, w1 := c.w1, aw := c.aw : Ms }).1.aw))], .v (i64 ((↑r.n : Int))), .v (i64 (0))])) (none))) := by kernel_rfl
theorem den_rpr : Den Try.prog 24 Frp := evF_den C24_ok fun ds rs h => by
  unfold Frp at h
  split at h
  · rename_i lv ds_ rm cl lev st day due rd w0 w1 aw r
    simp only [Option.some.injEq, Prod.mk.injEq] at h
    obtain ⟨_, rfl⟩ := h
    refine (t24 ⟨lv, ds_, rm, cl, lev, st, day, due, rd, w0, w1, aw⟩ r).trans ?_
    (try dsimp only)
    unfold rpR
    by_cases hg : goodM ⟨lv, ds_, rm, cl, lev, st, day, due, rd, w0, w1, aw⟩
    · rw [if_neg (by simpa using hg), chk0 hg]
      by_cases hn : 100 < r.n
      · rw [if_pos hn, show decide ((r.n : Int) > 100) = true by simp; omega]
        rfl
      · rw [if_neg hn, show decide ((r.n : Int) > 100) = false by simp; omega, decide_eq_true hg, show decide (r.n ≤ 1000) = true by simp; omega]
        simp only [decide_true, Bool.and_self, br_true, br_false, bne_self_eq_false]
        cases he : ((runG (rE r) (rN r) r.n 0 ⟨lv, ds_, rm, cl, lev, st, day, due, rd, w0, w1, aw⟩).2.2 != 0)
        · have he' : (runG (rE r) (rN r) r.n 0 ⟨lv, ds_, rm, cl, lev, st, day, due, rd, w0, w1, aw⟩).2.2 = 0 := by simpa using he
          have hk := (runG_le (e := rE r) (nx := rN r) (m := r.n) (j := 0) (c := ⟨lv, ds_, rm, cl, lev, st, day, due, rd, w0, w1, aw⟩)).2.2.1 he'
          rw [he', hk, Nat.zero_add]
          rfl
        · rfl
    · rw [if_pos hg, chk8 hg]
      rfl
  · cases h
end Go.Proofs.Ytlejhkmkdajneaa

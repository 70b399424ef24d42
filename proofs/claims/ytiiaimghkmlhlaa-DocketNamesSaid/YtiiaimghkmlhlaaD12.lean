/- Replay, of the program and of the reference: contracts. No conditions. -/
import Derived.Test.YtiiaimghkmlhlaaD11
namespace Go.Proofs.Ytiiaimghkmlhlaa
open Go.Ev
set_option linter.all false
def ksV : List CK := [.int .u8, .int .i64, .int .i64, .int .i64, .int .i64]
def S23 (len : Nat) (l j : Int) (r : Row) (c : Cs) : St := ⟨us 1 ++ [.slice (some ⟨0, 0, some 0⟩) len 0, .pointer (some ⟨1, 0, some 0⟩)] ++ us 1 ++ [.pointer (some ⟨2, 0, some 0⟩)] ++ us 17 ++ [.slice (some ⟨0, 0, some 0⟩) len 0, i64 l, i64 j] ++ us 20, [[]], [some (.row ksV false r), boxC c, boxC zeroC]⟩
def S23r (len : Nat) (n e : Int) (r : Row) (c : Cs) : St := ⟨us 1 ++ [.slice (some ⟨0, 0, some 0⟩) len 0, .pointer (some ⟨1, 0, some 0⟩)] ++ us 1 ++ [.pointer (some ⟨2, 0, some 0⟩), i64 n, i64 e] ++ us 38, [[]], [some (.row ksV false r), boxC c, boxC c]⟩
def S23x (len : Nat) (r : Row) (c : Cs) : St := ⟨us 1 ++ [.slice (some ⟨0, 0, some 0⟩) len 0, .pointer (some ⟨1, 0, some 0⟩)] ++ us 1 ++ [.pointer (some ⟨2, 0, some 0⟩)] ++ us 40, [[]], [some (.row ksV false r), boxC c, boxC zeroC]⟩
def G23 : List It → (X → St → Option (List D)) → Option (List D)
  | [.n len, .n len2, .i l, .r r, .i an, .i ev, .i de, .i ex, .i cl, .i st, .i day, .i due, .i xd, .i e0, .i e1, .i aw], k =>
    br (decide (l = (len : Int)) && decide ((len : Int) = (len2 : Int)) && decide (len ≤ 1000) && decide (goodC ⟨an, ev, de, ex, cl, st, day, due, xd, e0, e1, aw⟩)) (br ((runG (rE r) (rN r) len 0 ⟨an, ev, de, ex, cl, st, day, due, xd, e0, e1, aw⟩).2.2 != 0) (k .ret (S23r len ((runG (rE r) (rN r) len 0 ⟨an, ev, de, ex, cl, st, day, due, xd, e0, e1, aw⟩).2.1 : Nat) (runG (rE r) (rN r) len 0 ⟨an, ev, de, ex, cl, st, day, due, xd, e0, e1, aw⟩).2.2 r (runG (rE r) (rN r) len 0 ⟨an, ev, de, ex, cl, st, day, due, xd, e0, e1, aw⟩).1)) (k (.exit 0) (S23x len r (runG (rE r) (rN r) len 0 ⟨an, ev, de, ex, cl, st, day, due, xd, e0, e1, aw⟩).1))) none
  | _, _ => none
def boxP : PB := .box [.v (.int .i64), .v (.int .i64), .v (.int .i64), .v (.int .i64), .v (.int .i64), .v (.int .u8), .v (.int .i64), .v (.int .i64), .v (.int .i64), .v (.int .i64), .v (.int .i64), .v (.int .i64)]
def boxZ : PB := .box [.v (.c (i64 0)), .v (.c (i64 0)), .v (.c (i64 0)), .v (.c (i64 0)), .v (.c (i64 0)), .v (.c (u8 0)), .v (.c (i64 0)), .v (.c (i64 0)), .v (.c (i64 0)), .v (.c (i64 0)), .v (.c (i64 0)), .v (.c (i64 0))]
def l23 : LoopC where
  f := 23
  id := 7
  lv := [1, 2, 4, 22, 23, 24]
  lx := [1, 2, 4, 5, 6]
  p := { τ := pu 1 ++ [.v (.sl 0), .v (.c (.pointer (some ⟨1, 0, some 0⟩)))] ++ pu 1 ++ [.v (.c (.pointer (some ⟨2, 0, some 0⟩)))] ++ pu 17 ++ [.v (.sl 0), .v (.int .i64), .v (.c (i64 0))] ++ pu 20, saved := [[]], mem := [.row ksV false, boxP, boxZ] }
  G := G23
noncomputable def C23 : Cx := mkCx Try.prog fns [(16, Fchk), (21, Fap)] [l23]
theorem round23 (q : Nat) (R : St → Option (List D)) (K : X → St → Option (List D)) (c : Cs) (r : Row) (len : Nat) (l : Int) (j : Nat) :
   evCode C23 23 true (inl C23 (q + 4)) (lbody C23.P 23 7) (S23 len l j r c) (rnd [1, 2, 4, 22, 23, 24] (some [1, 2, 4, 5, 6]) R K) =
     br (decide ((j : Int) < l)) (br (decide (0 ≤ (j : Int)) && decide ((j : Int) < len)) (br (u8B c.st) (br (rE r c j != 0) (K .ret (S23r len j (rE r c j) r c)) (R (S23 len l (IntKind.i64.wrap (j + 1)) r (rN r c j)))) none) none) (K (.exit 0) (S23x len r c)) := by kernel_rfl
theorem loop23 : LoopOk C23 l23 := ⟨by kernel_rfl, fun q its k rr h => by
  show rounds [1, 2, 4, 22, 23, 24] (some [1, 2, 4, 5, 6]) (evCode C23 23 true (inl C23 (q + 4)) (lbody C23.P 23 7)) 18446744073709551616 (bst l23.p its) k = some rr
  change G23 its k = some rr at h
  unfold G23 at h
  split at h
  · rename_i len len2 l r an ev de ex cl st day due xd e0 e1 aw
    rcases br_some h with ⟨h1, h2⟩ | ⟨_, h2⟩
    · simp only [Bool.and_eq_true, decide_eq_true_eq] at h1
      obtain ⟨⟨⟨rfl, h1⟩, h3⟩, hg⟩ := h1
      obtain rfl : len = len2 := by omega
      rw [← h2]
      have key := rounds_run (lv := [1, 2, 4, 22, 23, 24]) (lx := some [1, 2, 4, 5, 6]) (f := evCode C23 23 true (inl C23 (q + 4)) (lbody C23.P 23 7)) (S := fun j c => S23 len len j r c) (len := len)
        (T := fun j c R K => br (u8B c.st) (br (rE r c j != 0) (K .ret (S23r len j (rE r c j) r c)) (R (rN r c j))) none) (E := fun c K => K (.exit 0) (S23x len r c))
        (fun j hj c R K => by
          rw [round23, wrap64 (by omega) (by omega), show decide ((j : Int) < (len : Int)) = true by simpa using hj, show (decide (0 ≤ (j : Int))) = true by simp]
          rfl)
        (fun c R K => by
          rw [round23, show decide ((len : Int) < (len : Int)) = false by simp]
          rfl) (fun j c R R' K hR => by simp only [hR]) k len 0 ⟨an, ev, de, ex, cl, st, day, due, xd, e0, e1, aw⟩ (by omega) 18446744073709551616 (by omega)
      rw [runL_runG (ok := fun c => u8B c.st) (G := goodC) (Kr := fun c j e K => K .ret (S23r len j e r c)) (fun c hc => gd_u8 hc) rN_good k len 0 ⟨an, ev, de, ex, cl, st, day, due, xd, e0, e1, aw⟩ hg] at key
      exact key
    · cases h2
  · cases h⟩
theorem C23_ok : CxOk C23 := mkCx_ok enter mixed (fun p h => by
  simp only [List.mem_cons, List.not_mem_nil, or_false] at h
  rcases h with rfl | rfl
  · exact den_chk
  · exact den_tap) (fun l h => by
  simp only [List.mem_singleton] at h
  subst h
  exact loop23)
theorem t23 (c : Cs) (r : Row) : evF C23 6 23 [csD c, .slice ksV r] =
    br (u8B c.st) (br (chkE c != 0) (some [.agg [.v (i64 (0)), .v (i64 (0)), .v (i64 (0)), .v (i64 (0)), .v (i64 (0)), .v (.int .u8 (0)), .v (i64 (0)), .v (i64 (0)), .v (i64 (0)), .v (i64 (0)), .v (i64 (0)), .v (i64 (0))], .v (i64 (0)), .v (i64 (chkE c))]) (br (decide ((↑r.n : Int) > 100)) (some [.agg [.v (i64 (0)), .v (i64 (0)), .v (i64 (0)), .v (i64 (0)), .v (i64 (0)), .v (.int .u8 (0)), .v (i64 (0)), .v (i64 (0)), .v (i64 (0)), .v (i64 (0)), .v (i64 (0)), .v (i64 (0))], .v (i64 (0)), .v (i64 (4))]) (br (decide ((↑r.n : Int) = (↑r.n : Int)) && decide ((↑r.n : Int) = (↑r.n : Int)) && decide (r.n ≤ 1000) && decide (goodC { an := c.an, ev := c.ev, de := c.de, ex := c.ex, cl := c.cl, st := c.st, day := c.day, due := c.due, xd := c.xd, e0 := c.e0, e1 := c.e1, aw := c.aw : Cs })) (br ((runG (rE r) (rN r) r.n 0 { an := c.an, ev := c.ev, de := c.de, ex := c.ex, cl := c.cl, st := c.st, day := c.day, due := c.due, xd := c.xd, e0 := c.e0, e1 := c.e1, aw := c.aw : Cs }).snd.2 != 0) (some [.agg [.v (i64 ((runG (rE r) (rN r) r.n 0 { an := c.an, ev := c.ev, de := c.de, ex := c.ex, cl := c.cl, st := c.st, day := c.day, due := c.due, xd := c.xd, e0 := c.e0, e1 := c.e1, aw := c.aw : Cs }).1.an)), .v (i64 ((runG (rE r) (rN r) r.n 0 { an := c.an, ev := c.ev, de := c.de, ex := c.ex, cl := c.cl, st := c.st, day := c.day, due := c.due, xd := c.xd, e0 := c.e0, e1 := c.e1, aw := c.aw : Cs }).1.ev)), .v (i64 ((runG (rE r) (rN r) r.n 0 { an := c.an, ev := c.ev, de := c.de, ex := c.ex, cl := c.cl, st := c.st, day := c.day, due := c.due, xd := c.xd, e0 := c.e0, e1 := c.e1, aw := c.aw : Cs }).1.de)), .v (i64 ((runG (rE r) (rN r) r.n 0 { an := c.an, ev := c.ev, de := c.de, ex := c.ex, cl := c.cl, st := c.st, day := c.day, due := c.due, xd := c.xd, e0 := c.e0, e1 := c.e1, aw := c.aw : Cs }).1.ex)), .v (i64 ((runG (rE r) (rN r) r.n 0 { an := c.an, ev := c.ev, de := c.de, ex := c.ex, cl := c.cl, st := c.st, day := c.day, due := c.due, xd := c.xd, e0 := c.e0, e1 := c.e1, aw := c.aw : Cs }).1.cl)), .v (.int .u8 ((runG (rE r) (rN r) r.n 0 { an := c.an, ev := c.ev, de := c.de, ex := c.ex, cl := c.cl, st := c.st, day := c.day, due := c.due, xd := c.xd, e0 := c.e0, e1 := c.e1, aw := c.aw : Cs }).1.st)), .v (i64 ((runG (rE r) (rN r) r.n 0 { an := c.an, ev := c.ev, de := c.de, ex := c.ex, cl := c.cl, st := c.st, day := c.day, due := c.due, xd := c.xd, e0 := c.e0, e1 := c.e1, aw := c.aw : Cs }).1.day)), .v (i64 ((runG (rE r) (rN r) r.n 0 { an := c.an, ev := c.ev, de := c.de, ex := c.ex, cl := c.cl, st := c.st, day := c.day, due := c.due, xd := c.xd, e0 := c.e0, e1 := c.e1, aw := c.aw : Cs }).1.due)), .v (i64 ((runG (rE r) (rN r) r.n 0 { an := c.an, ev := c.ev, de := c.de, ex := c.ex, cl := c.cl, st := c.st, day := c.day, due := c.due, xd := c.xd, e0 := c.e0, e1 := c.e1, aw := c.aw : Cs }).1.xd)), .v (i64 ((runG (rE r) (rN r) r.n 0 { an := c.an, ev := c.ev, de := c.de, ex := c.ex, cl := c.cl, st := c.st, day := c.day, due := c.due, xd := c.xd, e0 := c.e0, e1 := c.e1, aw := c.aw : Cs }).1.e0)), .v (i64 ((runG (rE r) (rN r) r.n 0 { an := c.an, ev := c.ev, de := c.de, ex := c.ex, cl := c.cl, st := c.st, day := c.day, due := c.due, xd := c.xd, e0 := c.e0, e1 := c.e1, aw := c.aw : Cs }).1.e1)), .v (i64 ((runG (rE r) (rN r) r.n 0 { an := c.an, ev := c.ev, de := c.de, ex := c.ex, cl := c.cl, st := c.st, day := c.day, due := c.due, xd := c.xd, e0 := c.e0, e1 := c.e1, aw := c.aw : Cs }).1.aw))], .v (i64 ((↑(runG (rE r) (rN r) r.n 0 { an := c.an, ev := c.ev, de := c.de, ex := c.ex, cl := c.cl, st := c.st, day := c.day, due := c.due, xd := c.xd, e0 := c.e0, e1 := c.e1, aw := c.aw : Cs }).snd.1 : Int))), .v (i64 ((runG (rE r) (rN r) r.n 0 { an := c.an, ev := c.ev, de := c.de, ex := c.ex, cl := c.cl, st := c.st, day := c.day, due := c.due, xd := c.xd, e0 := c.e0, e1 := c.e1, aw := c.aw : Cs }).snd.2))]) (some [.agg [.v (i64 ((runG (rE r) (rN r) r.n 0 { an := c.an, ev := c.ev, de := c.de, ex := c.ex, cl := c.cl, st := c.st, day := c.day, due := c.due, xd := c.xd, e0 := c.e0, e1 := c.e1, aw := c.aw : Cs }).1.an)), .v (i64 ((runG (rE r) (rN r) r.n 0 { an := c.an, ev := c.ev, de := c.de, ex := c.ex, cl := c.cl, st := c.st, day := c.day, due := c.due, xd := c.xd, e0 := c.e0, e1 := c.e1, aw := c.aw : Cs }).1.ev)), .v (i64 ((runG (rE r) (rN r) r.n 0 { an := c.an, ev := c.ev, de := c.de, ex := c.ex, cl := c.cl, st := c.st, day := c.day, due := c.due, xd := c.xd, e0 := c.e0, e1 := c.e1, aw := c.aw : Cs }).1.de)), .v (i64 ((runG (rE r) (rN r) r.n 0 { an := c.an, ev := c.ev, de := c.de, ex := c.ex, cl := c.cl, st := c.st, day := c.day, due := c.due, xd := c.xd, e0 := c.e0, e1 := c.e1, aw := c.aw : Cs }).1.ex)), .v (i64 ((runG (rE r) (rN r) r.n 0 { an := c.an, ev := c.ev, de := c.de, ex := c.ex, cl := c.cl, st := c.st, day := c.day, due := c.due, xd := c.xd, e0 := c.e0, e1 := c.e1, aw := c.aw : Cs }).1.cl)), .v (.int .u8 ((runG (rE r) (rN r) r.n 0 { an := c.an, ev := c.ev, de := c.de, ex := c.ex, cl := c.cl, st := c.st, day := c.day, due := c.due, xd := c.xd, e0 := c.e0, e1 := c.e1, aw := c.aw : Cs }).1.st)), .v (i64 ((runG (rE r) (rN r) r.n 0 { an := c.an, ev := c.ev, de := c.de, ex := c.ex, cl := c.cl, st := c.st, day := c.day, due := c.due, xd := c.xd, e0 := c.e0, e1 := c.e1, aw := c.aw : Cs }).1.day)), .v (i64 ((runG (rE r) (rN r) r.n 0 { an := c.an, ev := c.ev, de := c.de, ex := c.ex, cl := c.cl, st := c.st, day := c.day, due := c.due, xd := c.xd, e0 := c.e0, e1 := c.e1, aw := c.aw : Cs }).1.due)), .v (i64 ((runG (rE r) (rN r) r.n 0 { an := c.an, ev := c.ev, de := c.de, ex := c.ex, cl := c.cl, st := c.st, day := c.day, due := c.due, xd := c.xd, e0 := c.e0, e1 := c.e1, aw := c.aw : Cs }).1.xd)), .v (i64 ((runG (rE r) (rN r) r.n 0 { an := c.an, ev := c.ev, de := c.de, ex := c.ex, cl := c.cl, st := c.st, day := c.day, due := c.due, xd := c.xd, e0 := c.e0, e1 := c.e1, aw := c.aw : Cs }).1.e0)), .v (i64 ((runG (rE r) (rN r) r.n 0 { an := c.an, ev := c.ev, de := c.de, ex := c.ex, cl := c.cl, st := c.st, day := c.day, due := c.due, xd := c.xd, e0 := c.e0, e1 := c.e1, aw := c.aw : Cs }).1.e1)), .v (i64 ((runG (rE r) (rN r) r.n 0 { an := c.an, ev := c.ev, de := c.de, ex := c.ex, cl := c.cl, st := c.st, day := c.day, due := c.due, xd := c.xd, e0 := c.e0, e1 := c.e1, aw := c.aw : Cs }).1.aw))], .v (i64 ((↑r.n : Int))), .v (i64 (0))])) (none)))) (none) := by kernel_rfl
def Frp : List D → Option (Bool × List D)
  | [.agg [.v (.int .i64 an), .v (.int .i64 ev), .v (.int .i64 de), .v (.int .i64 ex), .v (.int .i64 cl), .v (.int .u8 st), .v (.int .i64 day), .v (.int .i64 due), .v (.int .i64 xd), .v (.int .i64 e0), .v (.int .i64 e1), .v (.int .i64 aw)], .slice [.int .u8, .int .i64, .int .i64, .int .i64, .int .i64] r] => some (u8B st, [csD (rpR ⟨an, ev, de, ex, cl, st, day, due, xd, e0, e1, aw⟩ r).1, .v (i64 ((rpR ⟨an, ev, de, ex, cl, st, day, due, xd, e0, e1, aw⟩ r).2.1 : Nat)), .v (i64 (rpR ⟨an, ev, de, ex, cl, st, day, due, xd, e0, e1, aw⟩ r).2.2)])
  | _ => none
theorem den_rp : Den Try.prog 23 Frp := evF_den C23_ok fun ds rs h => by
  unfold Frp at h
  split at h
  · rename_i an ev de ex cl st day due xd e0 e1 aw r
    simp only [Option.some.injEq, Prod.mk.injEq] at h
    obtain ⟨h1, rfl⟩ := h
    refine (t23 ⟨an, ev, de, ex, cl, st, day, due, xd, e0, e1, aw⟩ r).trans ?_
    dsimp only
    rw [h1]
    unfold rpR
    by_cases hg : goodC ⟨an, ev, de, ex, cl, st, day, due, xd, e0, e1, aw⟩
    · rw [if_neg (by simpa using hg), chk0 hg]
      by_cases hn : 100 < r.n
      · rw [if_pos hn, show decide ((r.n : Int) > 100) = true by simp; omega]
        rfl
      · rw [if_neg hn, show decide ((r.n : Int) > 100) = false by simp; omega, decide_eq_true hg, show decide (r.n ≤ 1000) = true by simp; omega]
        simp only [decide_true, Bool.and_self, br_true, br_false, bne_self_eq_false]
        cases he : ((runG (rE r) (rN r) r.n 0 ⟨an, ev, de, ex, cl, st, day, due, xd, e0, e1, aw⟩).2.2 != 0)
        · have he' : (runG (rE r) (rN r) r.n 0 ⟨an, ev, de, ex, cl, st, day, due, xd, e0, e1, aw⟩).2.2 = 0 := by simpa using he
          have hk := (runG_le (e := rE r) (nx := rN r) (m := r.n) (j := 0) (c := ⟨an, ev, de, ex, cl, st, day, due, xd, e0, e1, aw⟩)).2.2.1 he'
          rw [he', hk, Nat.zero_add]
          rfl
        · rfl
    · rw [if_pos hg, chk8 hg]
      rfl
  · cases h

/-! ### The reference's -/
def S24 (len : Nat) (j : Int) (r : Row) (c : Cs) : St := ⟨us 1 ++ [.slice (some ⟨0, 0, some 0⟩) len 0, .pointer (some ⟨1, 0, some 0⟩)] ++ us 1 ++ [.pointer (some ⟨2, 0, some 0⟩)] ++ us 2 ++ [i64 j] ++ us 34, [[]], [some (.row ksV false r), boxC c, boxC zeroC]⟩
def S24r (len : Nat) (n e : Int) (r : Row) (c : Cs) : St := ⟨us 1 ++ [.slice (some ⟨0, 0, some 0⟩) len 0, .pointer (some ⟨1, 0, some 0⟩)] ++ us 1 ++ [.pointer (some ⟨2, 0, some 0⟩), i64 n, i64 e] ++ us 35, [[]], [some (.row ksV false r), boxC c, boxC c]⟩
def S24x (len : Nat) (r : Row) (c : Cs) : St := ⟨us 1 ++ [.slice (some ⟨0, 0, some 0⟩) len 0, .pointer (some ⟨1, 0, some 0⟩)] ++ us 1 ++ [.pointer (some ⟨2, 0, some 0⟩)] ++ us 37, [[]], [some (.row ksV false r), boxC c, boxC zeroC]⟩
def G24 : List It → (X → St → Option (List D)) → Option (List D)
  | [.n len, .r r, .i an, .i ev, .i de, .i ex, .i cl, .i st, .i day, .i due, .i xd, .i e0, .i e1, .i aw], k =>
    br (decide (len ≤ 1000) && decide (goodC ⟨an, ev, de, ex, cl, st, day, due, xd, e0, e1, aw⟩)) (br ((runG (rE r) (rN r) len 0 ⟨an, ev, de, ex, cl, st, day, due, xd, e0, e1, aw⟩).2.2 != 0) (k .ret (S24r len ((runG (rE r) (rN r) len 0 ⟨an, ev, de, ex, cl, st, day, due, xd, e0, e1, aw⟩).2.1 : Nat) (runG (rE r) (rN r) len 0 ⟨an, ev, de, ex, cl, st, day, due, xd, e0, e1, aw⟩).2.2 r (runG (rE r) (rN r) len 0 ⟨an, ev, de, ex, cl, st, day, due, xd, e0, e1, aw⟩).1)) (k (.exit 0) (S24x len r (runG (rE r) (rN r) len 0 ⟨an, ev, de, ex, cl, st, day, due, xd, e0, e1, aw⟩).1))) none
  | _, _ => none
def l24 : LoopC where
  f := 24
  id := 6
  lv := [1, 2, 4, 7]
  lx := [1, 2, 4, 5, 6]
  p := { τ := pu 1 ++ [.v (.sl 0), .v (.c (.pointer (some ⟨1, 0, some 0⟩)))] ++ pu 1 ++ [.v (.c (.pointer (some ⟨2, 0, some 0⟩)))] ++ pu 2 ++ [.v (.c (i64 0))] ++ pu 34, saved := [[]], mem := [.row ksV false, boxP, boxZ] }
  G := G24
noncomputable def C24 : Cx := mkCx Try.prog fns [(17, Fchk), (22, Fap)] [l24]
theorem round24 (q : Nat) (R : St → Option (List D)) (K : X → St → Option (List D)) (c : Cs) (r : Row) (len : Nat) (j : Nat) :
   evCode C24 24 true (inl C24 (q + 4)) (lbody C24.P 24 6) (S24 len j r c) (rnd [1, 2, 4, 7] (some [1, 2, 4, 5, 6]) R K) =
     br (decide ((j : Int) < len)) (br (decide (0 ≤ (j : Int)) && decide ((j : Int) < len)) (br (u8B c.st) (br (rE r c j != 0) (K .ret (S24r len j (rE r c j) r c)) (R (S24 len (IntKind.i64.wrap (j + 1)) r (rN r c j)))) none) none) (K (.exit 0) (S24x len r c)) := by kernel_rfl
theorem loop24 : LoopOk C24 l24 := ⟨by kernel_rfl, fun q its k rr h => by
  show rounds [1, 2, 4, 7] (some [1, 2, 4, 5, 6]) (evCode C24 24 true (inl C24 (q + 4)) (lbody C24.P 24 6)) 18446744073709551616 (bst l24.p its) k = some rr
  change G24 its k = some rr at h
  unfold G24 at h
  split at h
  · rename_i len r an ev de ex cl st day due xd e0 e1 aw
    rcases br_some h with ⟨h1, h2⟩ | ⟨_, h2⟩
    · simp only [Bool.and_eq_true, decide_eq_true_eq] at h1
      obtain ⟨h3, hg⟩ := h1
      rw [← h2]
      have key := rounds_run (lv := [1, 2, 4, 7]) (lx := some [1, 2, 4, 5, 6]) (f := evCode C24 24 true (inl C24 (q + 4)) (lbody C24.P 24 6)) (S := fun j c => S24 len j r c) (len := len)
        (T := fun j c R K => br (u8B c.st) (br (rE r c j != 0) (K .ret (S24r len j (rE r c j) r c)) (R (rN r c j))) none) (E := fun c K => K (.exit 0) (S24x len r c))
        (fun j hj c R K => by
          rw [round24, wrap64 (by omega) (by omega), show decide ((j : Int) < (len : Int)) = true by simpa using hj, show (decide (0 ≤ (j : Int))) = true by simp]
          rfl)
        (fun c R K => by
          rw [round24, show decide ((len : Int) < (len : Int)) = false by simp]
          rfl) (fun j c R R' K hR => by simp only [hR]) k len 0 ⟨an, ev, de, ex, cl, st, day, due, xd, e0, e1, aw⟩ (by omega) 18446744073709551616 (by omega)
      rw [runL_runG (ok := fun c => u8B c.st) (G := goodC) (Kr := fun c j e K => K .ret (S24r len j e r c)) (fun c hc => gd_u8 hc) rN_good k len 0 ⟨an, ev, de, ex, cl, st, day, due, xd, e0, e1, aw⟩ hg] at key
      exact key
    · cases h2
  · cases h⟩
theorem C24_ok : CxOk C24 := mkCx_ok enter mixed (fun p h => by
  simp only [List.mem_cons, List.not_mem_nil, or_false] at h
  rcases h with rfl | rfl
  · exact den_chkr
  · exact den_tar) (fun l h => by
  simp only [List.mem_singleton] at h
  subst h
  exact loop24)
theorem t24 (c : Cs) (r : Row) : evF C24 6 24 [csD c, .slice ksV r] =
    br (u8B c.st) (br (chkE c != 0) (some [.agg [.v (i64 (0)), .v (i64 (0)), .v (i64 (0)), .v (i64 (0)), .v (i64 (0)), .v (.int .u8 (0)), .v (i64 (0)), .v (i64 (0)), .v (i64 (0)), .v (i64 (0)), .v (i64 (0)), .v (i64 (0))], .v (i64 (0)), .v (i64 (8))]) (br (decide ((↑r.n : Int) > 100)) (some [.agg [.v (i64 (0)), .v (i64 (0)), .v (i64 (0)), .v (i64 (0)), .v (i64 (0)), .v (.int .u8 (0)), .v (i64 (0)), .v (i64 (0)), .v (i64 (0)), .v (i64 (0)), .v (i64 (0)), .v (i64 (0))], .v (i64 (0)), .v (i64 (4))]) (br (decide (r.n ≤ 1000) && decide (goodC { an := c.an, ev := c.ev, de := c.de, ex := c.ex, cl := c.cl, st := c.st, day := c.day, due := c.due, xd := c.xd, e0 := c.e0, e1 := c.e1, aw := c.aw : Cs })) (br ((runG (rE r) (rN r) r.n 0 { an := c.an, ev := c.ev, de := c.de, ex := c.ex, cl := c.cl, st := c.st, day := c.day, due := c.due, xd := c.xd, e0 := c.e0, e1 := c.e1, aw := c.aw : Cs }).snd.2 != 0) (some [.agg [.v (i64 ((runG (rE r) (rN r) r.n 0 { an := c.an, ev := c.ev, de := c.de, ex := c.ex, cl := c.cl, st := c.st, day := c.day, due := c.due, xd := c.xd, e0 := c.e0, e1 := c.e1, aw := c.aw : Cs }).1.an)), .v (i64 ((runG (rE r) (rN r) r.n 0 { an := c.an, ev := c.ev, de := c.de, ex := c.ex, cl := c.cl, st := c.st, day := c.day, due := c.due, xd := c.xd, e0 := c.e0, e1 := c.e1, aw := c.aw : Cs }).1.ev)), .v (i64 ((runG (rE r) (rN r) r.n 0 { an := c.an, ev := c.ev, de := c.de, ex := c.ex, cl := c.cl, st := c.st, day := c.day, due := c.due, xd := c.xd, e0 := c.e0, e1 := c.e1, aw := c.aw : Cs }).1.de)), .v (i64 ((runG (rE r) (rN r) r.n 0 { an := c.an, ev := c.ev, de := c.de, ex := c.ex, cl := c.cl, st := c.st, day := c.day, due := c.due, xd := c.xd, e0 := c.e0, e1 := c.e1, aw := c.aw : Cs }).1.ex)), .v (i64 ((runG (rE r) (rN r) r.n 0 { an := c.an, ev := c.ev, de := c.de, ex := c.ex, cl := c.cl, st := c.st, day := c.day, due := c.due, xd := c.xd, e0 := c.e0, e1 := c.e1, aw := c.aw : Cs }).1.cl)), .v (.int .u8 ((runG (rE r) (rN r) r.n 0 { an := c.an, ev := c.ev, de := c.de, ex := c.ex, cl := c.cl, st := c.st, day := c.day, due := c.due, xd := c.xd, e0 := c.e0, e1 := c.e1, aw := c.aw : Cs }).1.st)), .v (i64 ((runG (rE r) (rN r) r.n 0 { an := c.an, ev := c.ev, de := c.de, ex := c.ex, cl := c.cl, st := c.st, day := c.day, due := c.due, xd := c.xd, e0 := c.e0, e1 := c.e1, aw := c.aw : Cs }).1.day)), .v (i64 ((runG (rE r) (rN r) r.n 0 { an := c.an, ev := c.ev, de := c.de, ex := c.ex, cl := c.cl, st := c.st, day := c.day, due := c.due, xd := c.xd, e0 := c.e0, e1 := c.e1, aw := c.aw : Cs }).1.due)), .v (i64 ((runG (rE r) (rN r) r.n 0 { an := c.an, ev := c.ev, de := c.de, ex := c.ex, cl := c.cl, st := c.st, day := c.day, due := c.due, xd := c.xd, e0 := c.e0, e1 := c.e1, aw := c.aw : Cs }).1.xd)), .v (i64 ((runG (rE r) (rN r) r.n 0 { an := c.an, ev := c.ev, de := c.de, ex := c.ex, cl := c.cl, st := c.st, day := c.day, due := c.due, xd := c.xd, e0 := c.e0, e1 := c.e1, aw := c.aw : Cs }).1.e0)), .v (i64 ((runG (rE r) (rN r) r.n 0 { an := c.an, ev := c.ev, de := c.de, ex := c.ex, cl := c.cl, st := c.st, day := c.day, due := c.due, xd := c.xd, e0 := c.e0, e1 := c.e1, aw := c.aw : Cs }).1.e1)), .v (i64 ((runG (rE r) (rN r) r.n 0 { an := c.an, ev := c.ev, de := c.de, ex := c.ex, cl := c.cl, st := c.st, day := c.day, due := c.due, xd := c.xd, e0 := c.e0, e1 := c.e1, aw := c.aw : Cs }).1.aw))], .v (i64 ((↑(runG (rE r) (rN r) r.n 0 { an := c.an, ev := c.ev, de := c.de, ex := c.ex, cl := c.cl, st := c.st, day := c.day, due := c.due, xd := c.xd, e0 := c.e0, e1 := c.e1, aw := c.aw : Cs }).snd.1 : Int))), .v (i64 ((runG (rE r) (rN r) r.n 0 { an := c.an, ev := c.ev, de := c.de, ex := c.ex, cl := c.cl, st := c.st, day := c.day, due := c.due, xd := c.xd, e0 := c.e0, e1 := c.e1, aw := c.aw : Cs }).snd.2))]) (some [.agg [.v (i64 ((runG (rE r) (rN r) r.n 0 { an := c.an, ev := c.ev, de := c.de, ex := c.ex, cl := c.cl, st := c.st, day := c.day, due := c.due, xd := c.xd, e0 := c.e0, e1 := c.e1, aw := c.aw : Cs }).1.an)), .v (i64 ((runG (rE r) (rN r) r.n 0 { an := c.an, ev := c.ev, de := c.de, ex := c.ex, cl := c.cl, st := c.st, day := c.day, due := c.due, xd := c.xd, e0 := c.e0, e1 := c.e1, aw := c.aw : Cs }).1.ev)), .v (i64 ((runG (rE r) (rN r) r.n 0 { an := c.an, ev := c.ev, de := c.de, ex := c.ex, cl := c.cl, st := c.st, day := c.day, due := c.due, xd := c.xd, e0 := c.e0, e1 := c.e1, aw := c.aw : Cs }).1.de)), .v (i64 ((runG (rE r) (rN r) r.n 0 { an := c.an, ev := c.ev, de := c.de, ex := c.ex, cl := c.cl, st := c.st, day := c.day, due := c.due, xd := c.xd, e0 := c.e0, e1 := c.e1, aw := c.aw : Cs }).1.ex)), .v (i64 ((runG (rE r) (rN r) r.n 0 { an := c.an, ev := c.ev, de := c.de, ex := c.ex, cl := c.cl, st := c.st, day := c.day, due := c.due, xd := c.xd, e0 := c.e0, e1 := c.e1, aw := c.aw : Cs }).1.cl)), .v (.int .u8 ((runG (rE r) (rN r) r.n 0 { an := c.an, ev := c.ev, de := c.de, ex := c.ex, cl := c.cl, st := c.st, day := c.day, due := c.due, xd := c.xd, e0 := c.e0, e1 := c.e1, aw := c.aw : Cs }).1.st)), .v (i64 ((runG (rE r) (rN r) r.n 0 { an := c.an, ev := c.ev, de := c.de, ex := c.ex, cl := c.cl, st := c.st, day := c.day, due := c.due, xd := c.xd, e0 := c.e0, e1 := c.e1, aw := c.aw : Cs }).1.day)), .v (i64 ((runG (rE r) (rN r) r.n 0 { an := c.an, ev := c.ev, de := c.de, ex := c.ex, cl := c.cl, st := c.st, day := c.day, due := c.due, xd := c.xd, e0 := c.e0, e1 := c.e1, aw := c.aw : Cs }).1.due)), .v (i64 ((runG (rE r) (rN r) r.n 0 { an := c.an, ev := c.ev, de := c.de, ex := c.ex, cl := c.cl, st := c.st, day := c.day, due := c.due, xd := c.xd, e0 := c.e0, e1 := c.e1, aw := c.aw : Cs }).1.xd)), .v (i64 ((runG (rE r) (rN r) r.n 0 { an := c.an, ev := c.ev, de := c.de, ex := c.ex, cl := c.cl, st := c.st, day := c.day, due := c.due, xd := c.xd, e0 := c.e0, e1 := c.e1, aw := c.aw : Cs }).1.e0)), .v (i64 ((runG (rE r) (rN r) r.n 0 { an := c.an, ev := c.ev, de := c.de, ex := c.ex, cl := c.cl, st := c.st, day := c.day, due := c.due, xd := c.xd, e0 := c.e0, e1 := c.e1, aw := c.aw : Cs }).1.e1)), .v (i64 ((runG (rE r) (rN r) r.n 0 { an := c.an, ev := c.ev, de := c.de, ex := c.ex, cl := c.cl, st := c.st, day := c.day, due := c.due, xd := c.xd, e0 := c.e0, e1 := c.e1, aw := c.aw : Cs }).1.aw))], .v (i64 ((↑r.n : Int))), .v (i64 (0))])) (none)))) (none) := by kernel_rfl
theorem den_rpr : Den Try.prog 24 Frp := evF_den C24_ok fun ds rs h => by
  unfold Frp at h
  split at h
  · rename_i an ev de ex cl st day due xd e0 e1 aw r
    simp only [Option.some.injEq, Prod.mk.injEq] at h
    obtain ⟨h1, rfl⟩ := h
    refine (t24 ⟨an, ev, de, ex, cl, st, day, due, xd, e0, e1, aw⟩ r).trans ?_
    dsimp only
    rw [h1]
    unfold rpR
    by_cases hg : goodC ⟨an, ev, de, ex, cl, st, day, due, xd, e0, e1, aw⟩
    · rw [if_neg (by simpa using hg), chk0 hg]
      by_cases hn : 100 < r.n
      · rw [if_pos hn, show decide ((r.n : Int) > 100) = true by simp; omega]
        rfl
      · rw [if_neg hn, show decide ((r.n : Int) > 100) = false by simp; omega, decide_eq_true hg, show decide (r.n ≤ 1000) = true by simp; omega]
        simp only [decide_true, Bool.and_self, br_true, br_false, bne_self_eq_false]
        cases he : ((runG (rE r) (rN r) r.n 0 ⟨an, ev, de, ex, cl, st, day, due, xd, e0, e1, aw⟩).2.2 != 0)
        · have he' : (runG (rE r) (rN r) r.n 0 ⟨an, ev, de, ex, cl, st, day, due, xd, e0, e1, aw⟩).2.2 = 0 := by simpa using he
          have hk := (runG_le (e := rE r) (nx := rN r) (m := r.n) (j := 0) (c := ⟨an, ev, de, ex, cl, st, day, due, xd, e0, e1, aw⟩)).2.2.1 he'
          rw [he', hk, Nat.zero_add]
          rfl
        · rfl
    · rw [if_pos hg, chk8 hg]
      rfl
  · cases h
end Go.Proofs.Ytiiaimghkmlhlaa

/- LedgerSums: its loops. No conditions. -/
import Derived.Test.YtpblmkephkhlkaaDoorE12
namespace Go.Proofs.YtpblmkephkhlkaaDoor
open Go.Ev
set_option linter.all false
def Rk (own : Bool) (r : Row) : Option Blk := some (.row Lg.ks3 own r)
/-- A payment back. -/
def pk1 (l : Row) (i : Nat) : Row := winOf ((((Row.zeros 1).setI 0 0 (l.I i 1)).setI 0 1 (l.I i 0)).setI 0 2 (l.I i 2)) 0 1
def bkR (l : Row) : Nat → Nat → Row → Row
  | 0, _, bk => bk
  | m + 1, k, bk => bkR l m (k + 1) ((winOf bk 0 k).app (pk1 l m))
def S9a (n : Int) (nl na nb nc : Nat) (ok : Bool) (e f g : Int) (i : Int) (l a b c : Row) : St := ⟨[i64 n, sl 0 nl] ++ us 5 ++ [.bool ok, sl 1 na, i64 e, sl 2 nb, i64 f, sl 3 nc, i64 g, .slice none 0 0, i64 i] ++ us 153, [[]], [Rk false l, Rb true a, Rb true b, Rb true c]⟩
def S9b (n : Int) (nl na nb nc nk : Nat) (ok : Bool) (e f g : Int) (i : Int) (l a b c bk : Row) : St := ⟨[i64 n, sl 0 nl] ++ us 5 ++ [.bool ok, sl 1 na, i64 e, sl 2 nb, i64 f, sl 3 nc, i64 g, sl 4 nk, i64 i] ++ us 153, [[]], [Rk false l, Rb true a, Rb true b, Rb true c, Rk true bk]⟩
def S9x (n : Int) (nl na nb nc : Nat) (ok : Bool) (e f g : Int) (l a b c : Row) : St := ⟨[i64 n, sl 0 nl] ++ us 5 ++ [.bool ok, sl 1 na, i64 e, sl 2 nb, i64 f, sl 3 nc, i64 g, .slice none 0 0] ++ us 154, [[]], [Rk false l, Rb true a, Rb true b, Rb true c]⟩
def S9y (n : Int) (nl na nb nc nk : Nat) (ok : Bool) (e f g : Int) (l a b c bk : Row) : St := ⟨[i64 n, sl 0 nl] ++ us 5 ++ [.bool ok, sl 1 na, i64 e, sl 2 nb, i64 f, sl 3 nc, i64 g, sl 4 nk] ++ us 154, [[]], [Rk false l, Rb true a, Rb true b, Rb true c, Rk true bk]⟩
/-- All payments back. -/
def backR (l : Row) (L : Nat) : Row := bkR l (L - 1) 1 (Row.nil.app (pk1 l (L - 1)))
def G9 (cd : Nat → Int → Bool) : List It → (X → St → Option (List D)) → Option (List D)
  | [.i n, .n nl, .b ok, .n na, .i e, .n nb, .i f, .n nc, .i g, .i i, .r l, .r a, .r b, .r c], k => br (cd nl i) (br (decide (nl = 0)) (k (.exit 0) (S9x n nl na nb nc ok e f g l a b c)) (k (.exit 0) (S9y n nl na nb nc nl ok e f g l a b c (backR l nl)))) none
  | _, _ => none
def l9 (cd : Nat → Int → Bool) : LoopC where
  f := 8
  id := 9
  lv := [0, 1, 7, 8, 9, 10, 11, 12, 13, 14, 15]
  lx := [0, 1, 6, 7, 8, 9, 10, 11, 12, 13, 14]
  p := { τ := [.v (.int .i64), .v (.sl 0)] ++ pu 5 ++ [.v .bool, .v (.sl 1), .v (.int .i64), .v (.sl 2), .v (.int .i64), .v (.sl 3), .v (.int .i64), .v (.c (.slice none 0 0)), .v (.int .i64)] ++ pu 153, saved := [[]], mem := [.row Lg.ks3 false, .row ks1 true, .row ks1 true, .row ks1 true] }
  G := G9 cd
/-- The sum of balances, and whether those of both lists together are others. -/
def suL (a b c : Row) : Nat → Nat → Int → Bool × Int
  | 0, _, s => (false, s)
  | m + 1, j, s => if c.I j 0 ≠ wi (a.I j 0 + b.I j 0) then (true, wi (s + a.I j 0)) else suL a b c m (j + 1) (wi (s + a.I j 0))
def S17 (n : Int) (na nb nc : Nat) (ok : Bool) (sum i : Int) (a b c : Row) : St := ⟨[i64 n] ++ us 6 ++ [.bool ok, sl 0 na] ++ us 1 ++ [sl 1 nb] ++ us 1 ++ [sl 2 nc] ++ us 5 ++ [i64 sum, i64 i] ++ us 149, [[]], [Rb true a, Rb true b, Rb true c]⟩
def S17r (ok : Bool) (sum : Int) : St := ⟨us 6 ++ [.bool false, .bool ok] ++ us 10 ++ [i64 sum] ++ us 150, [[]], []⟩
def S17x (ok : Bool) (sum : Int) : St := ⟨us 7 ++ [.bool ok] ++ us 10 ++ [i64 sum] ++ us 150, [[]], []⟩
def G17 (cd : Int → Nat → Nat → Nat → Bool) : List It → (X → St → Option (List D)) → Option (List D)
  | [.i n, .b ok, .n na, .n nb, .n nc, .r a, .r b, .r c], k => br (cd n na nb nc) (br (suL a b c n.toNat 0 0).1 (k .ret (S17r ok (suL a b c n.toNat 0 0).2)) (k (.exit 2) (S17x ok (suL a b c n.toNat 0 0).2))) none
  | _, _ => none
def l17 (cd : Int → Nat → Nat → Nat → Bool) : LoopC where
  f := 8
  id := 17
  lv := [0, 7, 8, 10, 12, 18, 19]
  lx := [6, 7, 18]
  p := { τ := [.v (.int .i64)] ++ pu 6 ++ [.v .bool, .v (.sl 0)] ++ pu 1 ++ [.v (.sl 1)] ++ pu 1 ++ [.v (.sl 2)] ++ pu 5 ++ [.v (.c (i64 0)), .v (.c (i64 0))] ++ pu 149, saved := [[]], mem := [.row ks1 true, .row ks1 true, .row ks1 true] }
  G := G17 cd
def nzB (r : Row) (t : Nat) : Bool := r.I t 0 != 0
def Sz (n : Nat) (j : Int) (r : Row) : St := ⟨[sl 0 n] ++ us 2 ++ [i64 j] ++ us 11, [[]], [Rb false r]⟩
def Szr : St := ⟨us 2 ++ [.bool false] ++ us 12, [[]], []⟩
def Szx : St := ⟨us 15, [[]], []⟩
def G2 (cd : Nat → Bool) : List It → (X → St → Option (List D)) → Option (List D)
  | [.n n, .r r], k => br (cd n) (br (anyF (nzB r) n 0) (k .ret Szr) (k (.exit 0) Szx)) none
  | _, _ => none
def l2 (cd : Nat → Bool) : LoopC where
  f := 18
  id := 2
  lv := [0, 3]
  lx := [2]
  p := { τ := [.v (.sl 0)] ++ pu 2 ++ [.v (.c (i64 0))] ++ pu 11, saved := [[]], mem := [.row ks1 false] }
  G := G2 cd
noncomputable def C5g (cz : Nat → Bool) : Cx := mkCx Tryd.prog fns [] [l2 cz]
theorem roundz (cz : Nat → Bool) (R : St → Option (List D)) (K : X → St → Option (List D)) (p : Nat) (n : Nat) (j : Int) (r : Row) : evCode (C5g cz) 18 true (inl (C5g cz) (p + 4)) (lbody (C5g cz).P 18 2) (Sz n j r) (rnd [0, 3] (some [2]) R K) =
    br (decide (j < (n : Int))) (br (decide (0 ≤ j) && decide (j < (n : Int))) (br (r.I (0 + j.toNat) 0 != 0) (K .ret Szr) (R (Sz n (wi (j + 1)) r))) none) (K (.exit 0) Szx) := by kernel_rfl
def inz (n : Nat) : Bool := decide (n ≤ 1000)
noncomputable def C5 : Cx := C5g inz
set_option maxRecDepth 100000 in
theorem loop2 : LoopOk C5 (l2 inz) := ⟨by kernel_rfl, fun q its k rr h => by
  show rounds [0, 3] (some [2]) (evCode C5 18 true (inl C5 (q + 4)) (lbody C5.P 18 2)) 18446744073709551616 (Go.Ev.bst (l2 inz).p its) k = some rr
  change G2 inz its k = some rr at h
  unfold G2 at h
  split at h
  · rename_i n r
    rcases br_some h with ⟨h1, h2⟩ | ⟨_, h2⟩
    · have h1 := of_decide_eq_true h1
      rw [← h2]
      exact rounds_scan (S := fun j => Sz n j r) (len := n) (bad := nzB r) (Kb := fun K => K .ret Szr) (Ke := fun K => K (.exit 0) Szx)
        (fun j hj R K => by
          refine (roundz inz R K q n j r).trans ?_
          rw [show (decide (0 ≤ (j : Int)) && decide ((j : Int) < (n : Int))) = true by simp only [Bool.and_eq_true, decide_eq_true_eq]; omega, decide_eq_true (show (j : Int) < (n : Int) by omega), br_true, br_true, Int.toNat_natCast, Nat.zero_add, wiN (n := (j : Int) + 1) (by omega) (by omega)]
          rfl)
        (fun R K => by
          refine (roundz inz R K q n n r).trans ?_
          rw [decide_eq_false (show ¬ (n : Int) < (n : Int) by omega), br_false]) k n 0 (by omega) _ (by omega)
    · cases h2
  · cases h⟩
theorem C5_ok : CxOk C5 := mkCx_ok enter mixed (fun p h => by cases h) (fun l h => by
  simp only [List.mem_cons, List.not_mem_nil, or_false] at h
  rcases h with rfl
  exact loop2)
theorem tzero (cz : Nat → Bool) (r : Row) : evF (C5g cz) 6 18 [.slice ks1 r] = br (cz r.n) (br (anyF (nzB r) r.n 0) (some [.v (.bool false)]) (some [.v (.bool true)])) none := by kernel_rfl
def zrB (r : Row) : Bool := !anyF (nzB r) r.n 0
def Fzero : List D → Option (Bool × List D)
  | [.slice [.int .i64] r] => some (decide (r.n ≤ 1000), [.v (.bool (zrB r))])
  | _ => none
theorem den_zero : Den Tryd.prog 18 Fzero := evF_den C5_ok fun ds rs h => by
  unfold Fzero at h
  split at h
  · rename_i r
    simp only [Option.some.injEq, Prod.mk.injEq] at h
    obtain ⟨h0, rfl⟩ := h
    refine (tzero inz r).trans ?_
    rw [show inz r.n = true from h0, br_true]
    unfold zrB
    cases anyF (nzB r) r.n 0
    · rw [br_false]; rfl
    · rw [br_true]; rfl
  · cases h
noncomputable def C6g (c9 : Nat → Int → Bool) (c17 : Int → Nat → Nat → Nat → Bool) : Cx := mkCx Tryd.prog fns [(15, Falive), (17, Lg.F7), (27, Lg.F5), (18, Fzero)] [l9 c9, l17 c17]
section
variable (c9 : Nat → Int → Bool) (c17 : Int → Nat → Nat → Nat → Bool)
theorem round9a (R : St → Option (List D)) (K : X → St → Option (List D)) (p : Nat) (n : Int) (nl na nb nc : Nat) (ok : Bool) (e f g : Int) (i : Int) (l a b c : Row) : evCode (C6g c9 c17) 8 true (inl (C6g c9 c17) (p + 4)) (lbody (C6g c9 c17).P 8 9) (S9a n nl na nb nc ok e f g i l a b c) (rnd [0, 1, 7, 8, 9, 10, 11, 12, 13, 14, 15] (some [0, 1, 6, 7, 8, 9, 10, 11, 12, 13, 14]) R K) =
    br (decide (i ≥ 0)) (br (decide (0 ≤ i) && decide (i < (nl : Int))) (br (decide (0 ≤ i) && decide (i < (nl : Int))) (br (decide (0 ≤ i) && decide (i < (nl : Int))) (R (S9b n nl na nb nc 1 ok e f g (wi (i - 1)) l a b c (Row.nil.app (pk1 l (0 + i.toNat))))) none) none) none) (K (.exit 0) (S9x n nl na nb nc ok e f g l a b c)) := by kernel_rfl
theorem round9b (R : St → Option (List D)) (K : X → St → Option (List D)) (p : Nat) (n : Int) (nl na nb nc nk : Nat) (ok : Bool) (e f g : Int) (i : Int) (l a b c bk : Row) : evCode (C6g c9 c17) 8 true (inl (C6g c9 c17) (p + 4)) (lbody (C6g c9 c17).P 8 9) (S9b n nl na nb nc nk ok e f g i l a b c bk) (rnd [0, 1, 7, 8, 9, 10, 11, 12, 13, 14, 15] (some [0, 1, 6, 7, 8, 9, 10, 11, 12, 13, 14]) R K) =
    br (decide (i ≥ 0)) (br (decide (0 ≤ i) && decide (i < (nl : Int))) (br (decide (0 ≤ i) && decide (i < (nl : Int))) (br (decide (0 ≤ i) && decide (i < (nl : Int))) (br (decide (nk + 1 ≤ 10000000000)) (R (S9b n nl na nb nc (nk + 1) ok e f g (wi (i - 1)) l a b c ((winOf bk 0 nk).app (pk1 l (0 + i.toNat))))) none) none) none) none) (K (.exit 0) (S9y n nl na nb nc nk ok e f g l a b c bk)) := by kernel_rfl
theorem round17 (R : St → Option (List D)) (K : X → St → Option (List D)) (p : Nat) (n : Int) (na nb nc : Nat) (ok : Bool) (sum i : Int) (a b c : Row) : evCode (C6g c9 c17) 8 true (inl (C6g c9 c17) (p + 4)) (lbody (C6g c9 c17).P 8 17) (S17 n na nb nc ok sum i a b c) (rnd [0, 7, 8, 10, 12, 18, 19] (some [6, 7, 18]) R K) =
    br (decide (i < n)) (br (decide (0 ≤ i) && decide (i < (na : Int))) (br (decide (0 ≤ i) && decide (i < (nc : Int))) (br (decide (0 ≤ i) && decide (i < (na : Int))) (br (decide (0 ≤ i) && decide (i < (nb : Int))) (br (c.I (0 + i.toNat) 0 != wi (a.I (0 + i.toNat) 0 + b.I (0 + i.toNat) 0)) (K .ret (S17r ok (wi (sum + a.I (0 + i.toNat) 0)))) (R (S17 n na nb nc ok (wi (sum + a.I (0 + i.toNat) 0)) (wi (i + 1)) a b c))) none) none) none) none) (K (.exit 2) (S17x ok sum)) := by kernel_rfl
end
theorem tsums (c9 : Nat → Int → Bool) (c17 : Int → Nat → Nat → Nat → Bool) (n : Int) (l m : Row) : evF (C6g c9 c17) 6 8 [.v (i64 n), .slice Lg.ks3 l, .slice Lg.ks3 m] =
    br (decide ((↑l.n : Int) > 60)) (some [.v (.bool (true))]) (br (decide ((↑m.n : Int) > 60)) (some [.v (.bool (true))]) (br (Lg.chk n (winOf l 0 l.n) != 0) (some [.v (.bool (true))]) (br (Lg.chk n (winOf m 0 m.n) != 0) (some [.v (.bool (true))]) (br (decide (0 + (winOf l 0 l.n).n ≤ 10000000000)) (br (decide (0 + (winOf l 0 l.n).n + (winOf m 0 m.n).n ≤ 10000000000)) (br (c9 l.n (IntKind.i64.wrap ((↑l.n : Int) - 1))) (br (decide (l.n = 0)) (br (decide (0 + (winOf l 0 l.n).n ≤ 10000000000)) (br (Lg.chk n (winOf l 0 l.n) != 0) (some [.v (.bool (false))]) (br (Lg.chk n (winOf m 0 m.n) != 0) (some [.v (.bool (false))]) (br (Lg.chk n (winOf ((winOf ((winOf (Row.zeros 0) 0 0).app (winOf l 0 l.n)) 0 (0 + (winOf l 0 l.n).n)).app (winOf m 0 m.n)) 0 (0 + (winOf l 0 l.n).n + (winOf m 0 m.n).n)) != 0) (some [.v (.bool (false))]) (br (Lg.chk n (winOf (Row.nil.app (winOf l 0 l.n)) 0 (0 + (winOf l 0 l.n).n)) != 0) (some [.v (.bool (false))]) (br ((↑(Lg.bal n (winOf l 0 l.n)).n : Int) != n) (some [.v (.bool (false))]) (br ((↑(Lg.bal n (winOf m 0 m.n)).n : Int) != n) (some [.v (.bool (false))]) (br ((↑(Lg.bal n (winOf ((winOf ((winOf (Row.zeros 0) 0 0).app (winOf l 0 l.n)) 0 (0 + (winOf l 0 l.n).n)).app (winOf m 0 m.n)) 0 (0 + (winOf l 0 l.n).n + (winOf m 0 m.n).n))).n : Int) != n) (some [.v (.bool (false))]) (br (decide ((winOf (Lg.bal n (winOf (Row.nil.app (winOf l 0 l.n)) 0 (0 + (winOf l 0 l.n).n))) 0 (Lg.bal n (winOf (Row.nil.app (winOf l 0 l.n)) 0 (0 + (winOf l 0 l.n).n))).n).n ≤ 1000)) (br (!zrB (winOf (Lg.bal n (winOf (Row.nil.app (winOf l 0 l.n)) 0 (0 + (winOf l 0 l.n).n))) 0 (Lg.bal n (winOf (Row.nil.app (winOf l 0 l.n)) 0 (0 + (winOf l 0 l.n).n))).n)) (some [.v (.bool (false))]) (br (c17 n (Lg.bal n (winOf l 0 l.n)).n (Lg.bal n (winOf m 0 m.n)).n (Lg.bal n (winOf ((winOf ((winOf (Row.zeros 0) 0 0).app (winOf l 0 l.n)) 0 (0 + (winOf l 0 l.n).n)).app (winOf m 0 m.n)) 0 (0 + (winOf l 0 l.n).n + (winOf m 0 m.n).n))).n) (br ((suL (Lg.bal n (winOf l 0 l.n)) (Lg.bal n (winOf m 0 m.n)) (Lg.bal n (winOf ((winOf ((winOf (Row.zeros 0) 0 0).app (winOf l 0 l.n)) 0 (0 + (winOf l 0 l.n).n)).app (winOf m 0 m.n)) 0 (0 + (winOf l 0 l.n).n + (winOf m 0 m.n).n))) n.toNat 0 0).1) (some [.v (.bool (false))]) (some [.v (.bool ((suL (Lg.bal n (winOf l 0 l.n)) (Lg.bal n (winOf m 0 m.n)) (Lg.bal n (winOf ((winOf ((winOf (Row.zeros 0) 0 0).app (winOf l 0 l.n)) 0 (0 + (winOf l 0 l.n).n)).app (winOf m 0 m.n)) 0 (0 + (winOf l 0 l.n).n + (winOf m 0 m.n).n))) n.toNat 0 0).2 == 0))])) (none))) (none))))))))) (none)) (br (decide (l.n + (winOf l 0 l.n).n ≤ 10000000000)) (br (Lg.chk n (winOf l 0 l.n) != 0) (some [.v (.bool (false))]) (br (Lg.chk n (winOf m 0 m.n) != 0) (some [.v (.bool (false))]) (br (Lg.chk n (winOf ((winOf ((winOf (Row.zeros 0) 0 0).app (winOf l 0 l.n)) 0 (0 + (winOf l 0 l.n).n)).app (winOf m 0 m.n)) 0 (0 + (winOf l 0 l.n).n + (winOf m 0 m.n).n)) != 0) (some [.v (.bool (false))]) (br (Lg.chk n (winOf ((winOf (backR l l.n) 0 l.n).app (winOf l 0 l.n)) 0 (l.n + (winOf l 0 l.n).n)) != 0) (some [.v (.bool (false))]) (br ((↑(Lg.bal n (winOf l 0 l.n)).n : Int) != n) (some [.v (.bool (false))]) (br ((↑(Lg.bal n (winOf m 0 m.n)).n : Int) != n) (some [.v (.bool (false))]) (br ((↑(Lg.bal n (winOf ((winOf ((winOf (Row.zeros 0) 0 0).app (winOf l 0 l.n)) 0 (0 + (winOf l 0 l.n).n)).app (winOf m 0 m.n)) 0 (0 + (winOf l 0 l.n).n + (winOf m 0 m.n).n))).n : Int) != n) (some [.v (.bool (false))]) (br (decide ((winOf (Lg.bal n (winOf ((winOf (backR l l.n) 0 l.n).app (winOf l 0 l.n)) 0 (l.n + (winOf l 0 l.n).n))) 0 (Lg.bal n (winOf ((winOf (backR l l.n) 0 l.n).app (winOf l 0 l.n)) 0 (l.n + (winOf l 0 l.n).n))).n).n ≤ 1000)) (br (!zrB (winOf (Lg.bal n (winOf ((winOf (backR l l.n) 0 l.n).app (winOf l 0 l.n)) 0 (l.n + (winOf l 0 l.n).n))) 0 (Lg.bal n (winOf ((winOf (backR l l.n) 0 l.n).app (winOf l 0 l.n)) 0 (l.n + (winOf l 0 l.n).n))).n)) (some [.v (.bool (false))]) (br (c17 n (Lg.bal n (winOf l 0 l.n)).n (Lg.bal n (winOf m 0 m.n)).n (Lg.bal n (winOf ((winOf ((winOf (Row.zeros 0) 0 0).app (winOf l 0 l.n)) 0 (0 + (winOf l 0 l.n).n)).app (winOf m 0 m.n)) 0 (0 + (winOf l 0 l.n).n + (winOf m 0 m.n).n))).n) (br ((suL (Lg.bal n (winOf l 0 l.n)) (Lg.bal n (winOf m 0 m.n)) (Lg.bal n (winOf ((winOf ((winOf (Row.zeros 0) 0 0).app (winOf l 0 l.n)) 0 (0 + (winOf l 0 l.n).n)).app (winOf m 0 m.n)) 0 (0 + (winOf l 0 l.n).n + (winOf m 0 m.n).n))) n.toNat 0 0).1) (some [.v (.bool (false))]) (some [.v (.bool ((suL (Lg.bal n (winOf l 0 l.n)) (Lg.bal n (winOf m 0 m.n)) (Lg.bal n (winOf ((winOf ((winOf (Row.zeros 0) 0 0).app (winOf l 0 l.n)) 0 (0 + (winOf l 0 l.n).n)).app (winOf m 0 m.n)) 0 (0 + (winOf l 0 l.n).n + (winOf m 0 m.n).n))) n.toNat 0 0).2 == 0))])) (none))) (none))))))))) (none))) (none)) (none)) (none))))) := by kernel_rfl
end Go.Proofs.YtpblmkephkhlkaaDoor

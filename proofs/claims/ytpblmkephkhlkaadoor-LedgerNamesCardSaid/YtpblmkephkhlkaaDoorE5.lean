/- Package ledger: the check of balances, on both sides. No conditions. -/
import Derived.Test.YtpblmkephkhlkaaDoorE4
namespace Go.Proofs.YtpblmkephkhlkaaDoor
open Go.Ev
set_option linter.all false
/-- Balances are gone through: whether one is too great, and the sum so far. -/
def ckL (b : Row) : Nat → Nat → Int → Bool × Int
  | 0, _, s => (false, s)
  | m + 1, j, s => if b.I j 0 < -1000000000 ∨ b.I j 0 > 1000000000 then (true, s) else ckL b m (j + 1) (wi (s + b.I j 0))
def S6 (n : Nat) (sum j : Int) (b : Row) : St := ⟨us 4 ++ [i64 sum] ++ us 8 ++ [sl 0 n, i64 n, i64 j] ++ us 15, [[]], [Rb false b]⟩
def S6r (sum : Int) : St := ⟨us 2 ++ [i64 8] ++ us 1 ++ [i64 sum] ++ us 26, [[]], []⟩
def S6x (sum : Int) : St := ⟨us 4 ++ [i64 sum] ++ us 26, [[]], []⟩
def G6 (cd : Nat → Int → Bool) : List It → (X → St → Option (List D)) → Option (List D)
  | [.n n, .i n', .r b], k => br (cd n n') (br (ckL b n 0 0).1 (k .ret (S6r (ckL b n 0 0).2)) (k (.exit 0) (S6x (ckL b n 0 0).2))) none
  | _, _ => none
def l6 (cd : Nat → Int → Bool) : LoopC where
  f := 28
  id := 6
  lv := [4, 13, 14, 15]
  lx := [2, 4]
  p := { τ := pu 4 ++ [.v (.c (i64 0))] ++ pu 8 ++ [.v (.sl 0), .v (.int .i64), .v (.c (i64 0))] ++ pu 15, saved := [[]], mem := [.row ks1 false] }
  G := G6 cd
def S5 (n : Nat) (sum j : Int) (b : Row) : St := ⟨[sl 0 n] ++ us 2 ++ [i64 sum, i64 j] ++ us 30, [[]], [Rb false b]⟩
def S5r (sum : Int) : St := ⟨us 2 ++ [i64 8, i64 sum] ++ us 31, [[]], []⟩
def S5x (sum : Int) : St := ⟨us 3 ++ [i64 sum] ++ us 31, [[]], []⟩
def G5 (cd : Nat → Int → Bool) : List It → (X → St → Option (List D)) → Option (List D)
  | [.n n, .r b], k => br (cd n n) (br (ckL b n 0 0).1 (k .ret (S5r (ckL b n 0 0).2)) (k (.exit 0) (S5x (ckL b n 0 0).2))) none
  | _, _ => none
def l5 (cd : Nat → Int → Bool) : LoopC where
  f := 16
  id := 5
  lv := [0, 3, 4]
  lx := [2, 3]
  p := { τ := [.v (.sl 0)] ++ pu 2 ++ [.v (.c (i64 0)), .v (.c (i64 0))] ++ pu 30, saved := [[]], mem := [.row ks1 false] }
  G := G5 cd
noncomputable def C2g (cd : Nat → Int → Bool) : Cx := mkCx Tryd.prog fns [] [l6 cd, l5 cd]
theorem round6 (cd : Nat → Int → Bool) (R : St → Option (List D)) (K : X → St → Option (List D)) (p : Nat) (n : Nat) (sum j : Int) (b : Row) : evCode (C2g cd) 28 true (inl (C2g cd) (p + 4)) (lbody (C2g cd).P 28 6) (S6 n sum j b) (rnd [4, 13, 14, 15] (some [2, 4]) R K) =
    br (decide (j < (n : Int))) (br (decide (0 ≤ j) && decide (j < (n : Int))) (br (decide (b.I (0 + j.toNat) 0 < -1000000000)) (K .ret (S6r sum)) (br (decide (b.I (0 + j.toNat) 0 > 1000000000)) (K .ret (S6r sum)) (R (S6 n (wi (sum + b.I (0 + j.toNat) 0)) (wi (j + 1)) b)))) none) (K (.exit 0) (S6x sum)) := by kernel_rfl
theorem round5 (cd : Nat → Int → Bool) (R : St → Option (List D)) (K : X → St → Option (List D)) (p : Nat) (n : Nat) (sum j : Int) (b : Row) : evCode (C2g cd) 16 true (inl (C2g cd) (p + 4)) (lbody (C2g cd).P 16 5) (S5 n sum j b) (rnd [0, 3, 4] (some [2, 3]) R K) =
    br (decide (j < (n : Int))) (br (decide (0 ≤ j) && decide (j < (n : Int))) (br (decide (b.I (0 + j.toNat) 0 < -1000000000)) (K .ret (S5r sum)) (br (decide (0 ≤ j) && decide (j < (n : Int))) (br (decide (b.I (0 + j.toNat) 0 > 1000000000)) (K .ret (S5r sum)) (br (decide (0 ≤ j) && decide (j < (n : Int))) (R (S5 n (wi (sum + b.I (0 + j.toNat) 0)) (wi (j + 1)) b)) none)) none)) none) (K (.exit 0) (S5x sum)) := by kernel_rfl
def inCk (n : Nat) (m : Int) : Bool := decide (m = n ∧ n ≤ 1000)
noncomputable def C2 : Cx := C2g inCk
theorem go6 {f : St → (X → St → Option (List D)) → Option (List D)} {lv : List Tmp} {lx : Option (List Tmp)} {S : Int → Int → St} {Sr Sx : Int → St} {n : Nat} {b : Row} (hn : n ≤ 1000)
    (hr : ∀ (sum : Int) (j : Nat) R K, f (S sum j) (rnd lv lx R K) = if j < n then (if b.I j 0 < -1000000000 ∨ b.I j 0 > 1000000000 then K .ret (Sr sum) else R (S (wi (sum + b.I j 0)) (j + 1 : Nat))) else K (.exit 0) (Sx sum)) (K : X → St → Option (List D)) :
    ∀ (m fu j : Nat) (s : Int), j + m = n → m < fu → rounds lv lx f fu (S s j) K = br (ckL b m j s).1 (K .ret (Sr (ckL b m j s).2)) (K (.exit 0) (Sx (ckL b m j s).2))
  | 0, fu + 1, j, s, h0, h1 => by
    rw [rnds1, hr, if_neg (by omega)]
    rfl
  | m + 1, fu + 1, j, s, h0, h1 => by
    rw [rnds1, hr, if_pos (by omega)]
    unfold ckL
    by_cases hb : b.I j 0 < -1000000000 ∨ b.I j 0 > 1000000000
    · rw [if_pos hb, if_pos hb]
      rfl
    · rw [if_neg hb, if_neg hb]
      exact go6 hn hr K m fu (j + 1) _ (by omega) (by omega)
set_option maxRecDepth 100000 in
theorem loop6 : LoopOk C2 (l6 inCk) := ⟨by kernel_rfl, fun q its k rr h => by
  show rounds [4, 13, 14, 15] (some [2, 4]) (evCode C2 28 true (inl C2 (q + 4)) (lbody C2.P 28 6)) 18446744073709551616 (bst (l6 inCk).p its) k = some rr
  change G6 inCk its k = some rr at h
  unfold G6 at h
  split at h
  · rename_i n n' b
    rcases br_some h with ⟨h1, h2⟩ | ⟨_, h2⟩
    · obtain ⟨k1, k2⟩ := of_decide_eq_true h1
      subst k1
      rw [← h2]
      exact go6 (S := fun s j => S6 n s j b) (Sr := S6r) (Sx := S6x) k2 (fun sum j R K => by
        refine (round6 inCk R K q n sum j b).trans ?_
        by_cases hj : j < n
        · rw [if_pos hj, decide_eq_true (show (j : Int) < (n : Int) by omega), br_true, decide_eq_true (show (0 : Int) ≤ (j : Int) by omega), show (true && true) = true from rfl, br_true, Int.toNat_natCast, Nat.zero_add, wiN (n := (j : Int) + 1) (by omega) (by omega)]
          by_cases h1 : b.I j 0 < -1000000000
          · rw [decide_eq_true h1, br_true, if_pos (.inl h1)]
          · rw [decide_eq_false h1, br_false]
            by_cases h2 : b.I j 0 > 1000000000
            · rw [decide_eq_true h2, br_true, if_pos (.inr h2)]
            · rw [decide_eq_false h2, br_false, if_neg (by omega)]
              rfl
        · rw [if_neg hj, decide_eq_false (show ¬ (j : Int) < (n : Int) by omega), br_false]) k n 18446744073709551616 0 0 (by omega) (by omega)
    · cases h2
  · cases h⟩
set_option maxRecDepth 100000 in
theorem loop5 : LoopOk C2 (l5 inCk) := ⟨by kernel_rfl, fun q its k rr h => by
  show rounds [0, 3, 4] (some [2, 3]) (evCode C2 16 true (inl C2 (q + 4)) (lbody C2.P 16 5)) 18446744073709551616 (bst (l5 inCk).p its) k = some rr
  change G5 inCk its k = some rr at h
  unfold G5 at h
  split at h
  · rename_i n b
    rcases br_some h with ⟨h1, h2⟩ | ⟨_, h2⟩
    · obtain ⟨_, k2⟩ := of_decide_eq_true h1
      rw [← h2]
      exact go6 (S := fun s j => S5 n s j b) (Sr := S5r) (Sx := S5x) k2 (fun sum j R K => by
        refine (round5 inCk R K q n sum j b).trans ?_
        by_cases hj : j < n
        · rw [if_pos hj, decide_eq_true (show (j : Int) < (n : Int) by omega), br_true, decide_eq_true (show (0 : Int) ≤ (j : Int) by omega), show (true && true) = true from rfl, br_true, br_true, br_true, Int.toNat_natCast, Nat.zero_add, wiN (n := (j : Int) + 1) (by omega) (by omega)]
          by_cases h1 : b.I j 0 < -1000000000
          · rw [decide_eq_true h1, br_true, if_pos (.inl h1)]
          · rw [decide_eq_false h1, br_false]
            by_cases h2 : b.I j 0 > 1000000000
            · rw [decide_eq_true h2, br_true, if_pos (.inr h2)]
            · rw [decide_eq_false h2, br_false, if_neg (by omega)]
              rfl
        · rw [if_neg hj, decide_eq_false (show ¬ (j : Int) < (n : Int) by omega), br_false]) k n 18446744073709551616 0 0 (by omega) (by omega)
    · cases h2
  · cases h⟩
theorem C2_ok : CxOk C2 := mkCx_ok enter mixed (fun p h => by cases h) (fun l h => by
  simp only [List.mem_cons, List.not_mem_nil, or_false] at h
  rcases h with rfl | rfl
  · exact loop6
  · exact loop5)
def ckB (b : Row) : Bool := (ckL b b.n 0 0).1
def ckS (b : Row) : Int := (ckL b b.n 0 0).2
/-- The error of balances. -/
def ckE (b : Row) : Int := if b.n < 1 ∨ 10 < b.n then 2 else if ckB b = true ∨ ckS b ≠ 0 then 8 else 0
def Fck : List D → Option (Bool × List D)
  | [.slice [.int .i64] b] => some (true, [.v (i64 (ckE b))])
  | _ => none
theorem tcheck (cd : Nat → Int → Bool) (b : Row) : evF (C2g cd) 6 28 [.slice ks1 b] =
    br (decide ((b.n : Int) < 1)) (some [.v (i64 2)]) (br (decide ((b.n : Int) > 10)) (some [.v (i64 2)]) (br (cd b.n b.n) (br (ckB b) (some [.v (i64 8)]) (br (ckS b != 0) (some [.v (i64 8)]) (some [.v (i64 0)]))) none)) := by kernel_rfl
theorem tstart (cd : Nat → Int → Bool) (b : Row) : evF (C2g cd) 6 16 [.slice ks1 b] =
    br (decide ((b.n : Int) ≥ 1)) (br (!decide ((b.n : Int) ≤ 10)) (some [.v (i64 2)]) (br (cd b.n b.n) (br (ckB b) (some [.v (i64 8)]) (br (ckS b != 0) (some [.v (i64 8)]) (some [.v (i64 0)]))) none)) (some [.v (i64 2)]) := by kernel_rfl
theorem ck_tail (b : Row) (h : ¬ (b.n < 1 ∨ 10 < b.n)) : br (ckB b) (some [D.v (i64 8)]) (br (ckS b != 0) (some [.v (i64 8)]) (some [.v (i64 0)])) = some [.v (i64 (ckE b))] := by
  unfold ckE
  rw [if_neg h]
  cases hb : ckB b
  · by_cases hs : ckS b = 0
    · rw [br_false, show (ckS b != 0) = false by simpa using hs, br_false, if_neg (by rintro (h | h); exact absurd h (by decide); exact h hs)]
    · rw [br_false, show (ckS b != 0) = true by simpa using hs, br_true, if_pos (.inr hs)]
  · rw [br_true, if_pos (.inl rfl)]
theorem den_ck : Den Tryd.prog 28 Fck := evF_den C2_ok fun ds rs h => by
  unfold Fck at h
  split at h
  · rename_i b
    simp only [Option.some.injEq, Prod.mk.injEq, true_and] at h
    subst h
    refine (tcheck inCk b).trans ?_
    by_cases h1 : (b.n : Int) < 1
    · rw [decide_eq_true h1, br_true]; unfold ckE; rw [if_pos (by omega)]
    · rw [decide_eq_false h1, br_false]
      by_cases h2 : (b.n : Int) > 10
      · rw [decide_eq_true h2, br_true]; unfold ckE; rw [if_pos (by omega)]
      · rw [decide_eq_false h2, br_false, show inCk b.n b.n = true from decide_eq_true ⟨rfl, by omega⟩, br_true, ck_tail b (by omega)]
  · cases h
theorem den_start : Den Tryd.prog 16 Fck := evF_den C2_ok fun ds rs h => by
  unfold Fck at h
  split at h
  · rename_i b
    simp only [Option.some.injEq, Prod.mk.injEq, true_and] at h
    subst h
    refine (tstart inCk b).trans ?_
    by_cases h1 : (b.n : Int) ≥ 1
    · rw [decide_eq_true h1, br_true]
      by_cases h2 : (b.n : Int) ≤ 10
      · rw [decide_eq_true h2, show (!true) = false from rfl, br_false, show inCk b.n b.n = true from decide_eq_true ⟨rfl, by omega⟩, br_true, ck_tail b (by omega)]
      · rw [decide_eq_false h2, show (!false) = true from rfl, br_true]; unfold ckE; rw [if_pos (by omega)]
    · rw [decide_eq_false h1, br_false]; unfold ckE; rw [if_pos (by omega)]
  · cases h
end Go.Proofs.YtpblmkephkhlkaaDoor

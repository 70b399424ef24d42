/- LedgerSums: the loops' contracts, and the law. No conditions. -/
import Derived.Test.YtpblmkephkhlkaaDoorE14
namespace Go.Proofs.YtpblmkephkhlkaaDoor
open Go.Ev
set_option linter.all false
def in9 (nl : Nat) (i : Int) : Bool := decide (i = (nl : Int) - 1 ∧ nl ≤ 1000)
def in17 (n : Int) (na nb nc : Nat) : Bool := decide (n ≤ 1000 ∧ n = na ∧ n = nb ∧ n = nc)
noncomputable def C6 : Cx := C6g in9 in17
theorem go9 {f : St → (X → St → Option (List D)) → Option (List D)} {lv : List Tmp} {lx : Option (List Tmp)} {n : Int} {nl na nb nc : Nat} {ok : Bool} {e ff g : Int} {l a b c : Row} (hl : nl ≤ 1000)
    (hr : ∀ (nk : Nat) (i : Int) (bk : Row) R K, f (S9b n nl na nb nc nk ok e ff g i l a b c bk) (rnd lv lx R K) =
      br (decide (i ≥ 0)) (br (decide (0 ≤ i) && decide (i < (nl : Int))) (br (decide (0 ≤ i) && decide (i < (nl : Int))) (br (decide (0 ≤ i) && decide (i < (nl : Int))) (br (decide (nk + 1 ≤ 10000000000)) (R (S9b n nl na nb nc (nk + 1) ok e ff g (wi (i - 1)) l a b c ((winOf bk 0 nk).app (pk1 l (0 + i.toNat))))) none) none) none) none) (K (.exit 0) (S9y n nl na nb nc nk ok e ff g l a b c bk))) (K : X → St → Option (List D)) :
    ∀ (m fu k : Nat) (bk : Row), k + m = nl → m < fu → rounds lv lx f fu (S9b n nl na nb nc k ok e ff g ((m : Int) - 1) l a b c bk) K = K (.exit 0) (S9y n nl na nb nc nl ok e ff g l a b c (bkR l m k bk))
  | 0, fu + 1, k, bk, h0, h1 => by
    rw [rnds1, hr, decide_eq_false (show ¬ ((0 : Nat) : Int) - 1 ≥ 0 by omega), br_false, show k = nl by omega]
    rfl
  | m + 1, fu + 1, k, bk, h0, h1 => by
    rw [rnds1, hr, show ((m + 1 : Nat) : Int) - 1 = (m : Int) by omega, show (decide (0 ≤ (m : Int)) && decide ((m : Int) < (nl : Int))) = true by simp only [Bool.and_eq_true, decide_eq_true_eq]; omega, decide_eq_true (show (m : Int) ≥ 0 by omega), br_true, br_true, br_true, br_true, decide_eq_true (show k + 1 ≤ 10000000000 by omega), br_true, Int.toNat_natCast, Nat.zero_add, wiN (n := (m : Int) - 1) (by omega) (by omega)]
    exact go9 hl hr K m fu (k + 1) _ (by omega) (by omega)
theorem go17 {f : St → (X → St → Option (List D)) → Option (List D)} {lv : List Tmp} {lx : Option (List Tmp)} {n : Nat} {ok : Bool} {a b c : Row} (hn : n ≤ 1000)
    (hr : ∀ (sum i : Int) R K, f (S17 n n n n ok sum i a b c) (rnd lv lx R K) =
      br (decide (i < (n : Int))) (br (decide (0 ≤ i) && decide (i < (n : Int))) (br (decide (0 ≤ i) && decide (i < (n : Int))) (br (decide (0 ≤ i) && decide (i < (n : Int))) (br (decide (0 ≤ i) && decide (i < (n : Int))) (br (c.I (0 + i.toNat) 0 != wi (a.I (0 + i.toNat) 0 + b.I (0 + i.toNat) 0)) (K .ret (S17r ok (wi (sum + a.I (0 + i.toNat) 0)))) (R (S17 n n n n ok (wi (sum + a.I (0 + i.toNat) 0)) (wi (i + 1)) a b c))) none) none) none) none) (K (.exit 2) (S17x ok sum))) (K : X → St → Option (List D)) :
    ∀ (m fu j : Nat) (s : Int), j + m = n → m < fu → rounds lv lx f fu (S17 n n n n ok s j a b c) K = br (suL a b c m j s).1 (K .ret (S17r ok (suL a b c m j s).2)) (K (.exit 2) (S17x ok (suL a b c m j s).2))
  | 0, fu + 1, j, s, h0, h1 => by
    rw [rnds1, hr, decide_eq_false (show ¬ (j : Int) < (n : Int) by omega), br_false]
    rfl
  | m + 1, fu + 1, j, s, h0, h1 => by
    rw [rnds1, hr, show (decide (0 ≤ (j : Int)) && decide ((j : Int) < (n : Int))) = true by simp only [Bool.and_eq_true, decide_eq_true_eq]; omega, decide_eq_true (show (j : Int) < (n : Int) by omega), br_true, br_true, br_true, br_true, br_true, Int.toNat_natCast, Nat.zero_add, wiN (n := (j : Int) + 1) (by omega) (by omega)]
    unfold suL
    by_cases h : c.I j 0 = wi (a.I j 0 + b.I j 0)
    · rw [if_neg (fun hh => hh h), show (c.I j 0 != wi (a.I j 0 + b.I j 0)) = false by simpa using h, br_false]
      exact go17 hn hr K m fu (j + 1) _ (by omega) (by omega)
    · rw [if_pos h, show (c.I j 0 != wi (a.I j 0 + b.I j 0)) = true by simpa using h, br_true]
      rfl
set_option maxRecDepth 100000 in
theorem loop9 : LoopOk C6 (l9 in9) := ⟨by kernel_rfl, fun q its k rr h => by
  show rounds [0, 1, 7, 8, 9, 10, 11, 12, 13, 14, 15] (some [0, 1, 6, 7, 8, 9, 10, 11, 12, 13, 14]) (evCode C6 8 true (inl C6 (q + 4)) (lbody C6.P 8 9)) 18446744073709551616 (Go.Ev.bst (l9 in9).p its) k = some rr
  change G9 in9 its k = some rr at h
  unfold G9 at h
  split at h
  · rename_i n nl ok na e nb ff nc g i l a b c
    rcases br_some h with ⟨h1, h2⟩ | ⟨_, h2⟩
    · obtain ⟨k1, k2⟩ := of_decide_eq_true h1
      subst k1
      rw [← h2]
      show rounds _ _ _ (18446744073709551615 + 1) (S9a n nl na nb nc ok e ff g ((nl : Int) - 1) l a b c) k = _
      rw [rnds1]
      refine (round9a in9 in17 _ k q n nl na nb nc ok e ff g _ l a b c).trans ?_
      by_cases h0 : nl = 0
      · rw [decide_eq_false (show ¬ (nl : Int) - 1 ≥ 0 by omega), br_false, decide_eq_true h0, br_true]
      · rw [show (decide (0 ≤ (nl : Int) - 1) && decide ((nl : Int) - 1 < (nl : Int))) = true by simp only [Bool.and_eq_true, decide_eq_true_eq]; omega, decide_eq_true (show (nl : Int) - 1 ≥ 0 by omega), br_true, br_true, br_true, br_true, decide_eq_false h0, br_false,
          wiN (n := (nl : Int) - 1 - 1) (by omega) (by omega), show 0 + ((nl : Int) - 1).toNat = nl - 1 by omega, show (nl : Int) - 1 - 1 = ((nl - 1 : Nat) : Int) - 1 by omega]
        exact go9 k2 (fun nk i bk R K => round9b in9 in17 R K q n nl na nb nc nk ok e ff g i l a b c bk) k (nl - 1) 18446744073709551615 1 _ (by omega) (by omega)
    · cases h2
  · cases h⟩
set_option maxRecDepth 100000 in
theorem loop17 : LoopOk C6 (l17 in17) := ⟨by kernel_rfl, fun q its k rr h => by
  show rounds [0, 7, 8, 10, 12, 18, 19] (some [6, 7, 18]) (evCode C6 8 true (inl C6 (q + 4)) (lbody C6.P 8 17)) 18446744073709551616 (Go.Ev.bst (l17 in17).p its) k = some rr
  change G17 in17 its k = some rr at h
  unfold G17 at h
  split at h
  · rename_i n ok na nb nc a b c
    rcases br_some h with ⟨h1, h2⟩ | ⟨_, h2⟩
    · obtain ⟨k0, k1, k2, k3⟩ := of_decide_eq_true h1
      subst k1
      obtain rfl : na = nb := by omega
      obtain rfl : na = nc := by omega
      rw [← h2]
      exact go17 (by omega) (fun sum i R K => round17 in9 in17 R K q na na na na ok sum i a b c) k na 18446744073709551616 0 0 (by omega) (by omega)
    · cases h2
  · cases h⟩
theorem C6_ok : CxW C6 Wt := mkCx_okW enter mixed (fun p h => by
  simp only [List.mem_cons, List.not_mem_nil, or_false] at h
  rcases h with rfl | rfl | rfl | rfl
  · exact den_alive
  · exact Lg.den8.at _
  · exact Lg.den5.at _
  · exact den_zero.at _) (fun l h => by
  simp only [List.mem_cons, List.not_mem_nil, or_false] at h
  rcases h with rfl | rfl
  · exact loop9
  · exact loop17)
/-! Sums over the parties. -/
def sr (f : Nat → Int) : Nat → Nat → Int
  | 0, _ => 0
  | m + 1, j => f j + sr f m (j + 1)
theorem sr_add (f g : Nat → Int) : ∀ m j, sr (fun p => f p + g p) m j = sr f m j + sr g m j
  | 0, _ => rfl
  | m + 1, j => by simp only [sr, sr_add f g m (j + 1)]; omega
theorem sr_sub (f g : Nat → Int) : ∀ m j, sr (fun p => f p - g p) m j = sr f m j - sr g m j
  | 0, _ => rfl
  | m + 1, j => by simp only [sr, sr_sub f g m (j + 1)]; omega
theorem sr_one (t : Int) (c : Int) : ∀ m j : Nat, sr (fun p => if t = (p : Int) then c else 0) m j = if (j : Int) ≤ t ∧ t < (j : Int) + m then c else 0
  | 0, j => by rw [if_neg (by omega)]; rfl
  | m + 1, j => by
    simp only [sr, sr_one t c m (j + 1)]
    by_cases h : t = (j : Int)
    · rw [if_pos h, if_neg (by omega), if_pos (by omega)]; omega
    · rw [if_neg h]
      by_cases h2 : ((j + 1 : Nat) : Int) ≤ t ∧ t < ((j + 1 : Nat) : Int) + m
      · rw [if_pos h2, if_pos (by omega)]; omega
      · rw [if_neg h2, if_neg (by omega)]; omega
theorem sr_zero : ∀ m j, sr (fun _ => 0) m j = 0
  | 0, _ => rfl
  | m + 1, j => by simp only [sr, sr_zero m (j + 1)]; rfl
theorem sum_dl {n : Nat} {x : Pt} (h : okP n x) : sr (fun p => dl x p) n 0 = 0 := by
  obtain ⟨⟨f0, f1⟩, ⟨t0, t1⟩, _⟩ := h
  unfold dl
  rw [sr_sub (fun p => if x.2.1 = (p : Int) then x.2.2 else 0) (fun p => if x.1 = (p : Int) then x.2.2 else 0), sr_one, sr_one, if_pos (by omega), if_pos (by omega)]
  omega
theorem sum_bl {n : Nat} : ∀ xs : List Pt, (∀ x ∈ xs, okP n x) → sr (fun p => bl xs p) n 0 = 0
  | [], _ => sr_zero n 0
  | x :: xs, h => by
    have e : (fun p : Nat => bl (x :: xs) p) = fun p : Nat => dl x p + bl xs p := rfl
    rw [e, sr_add, sum_dl (h x (by simp)), sum_bl xs fun y hy => h y (by simp [hy])]
    rfl
theorem bl_range {n : Int} : ∀ (xs : List Pt), (∀ x ∈ xs, okP n x) → ∀ p : Int, -(xs.length * 1000000000 : Int) ≤ bl xs p ∧ bl xs p ≤ xs.length * 1000000000
  | [], _, p => by simp [bl]
  | x :: xs, h, p => by
    have h1 := dl_range (h x (by simp)) p
    have h2 := bl_range xs (fun y hy => h y (by simp [hy])) p
    simp only [bl, List.length_cons]
    omega
theorem suL_ok {a b c : Row} (hc : ∀ p, c.I p 0 = wi (a.I p 0 + b.I p 0)) (ha : ∀ p, -1000000000000 ≤ a.I p 0 ∧ a.I p 0 ≤ 1000000000000) : ∀ (m j : Nat) (s B : Int), B + m * 1000000000000 ≤ 1000000000000000000 → -B ≤ s → s ≤ B → suL a b c m j s = (false, s + sr (fun p => a.I p 0) m j)
  | 0, j, s, B, _, _, _ => by simp [suL, sr]
  | m + 1, j, s, B, hB, h1, h2 => by
    have := ha j
    unfold suL
    rw [if_neg (fun h => h (hc j)), wiN (n := s + a.I j 0) (by omega) (by omega), suL_ok hc ha m (j + 1) _ (B + 1000000000000) (by omega) (by omega) (by omega)]
    simp only [sr]
    rw [Int.add_assoc]
theorem chk_of {n : Int} {r : Row} (hn : 1 ≤ n ∧ n ≤ 10) {xs : List Pt} (h : pl r = xs) (hl : xs.length ≤ 200) (hx : ∀ x ∈ xs, okP n x) : Lg.chk n r = 0 :=
  (chk_iff n r).mpr ⟨hn, by rw [← h] at hl; simpa [pl] using hl, by rw [h]; exact hx⟩
theorem law_sums (n : Int) (l m : Row) : evF C6 6 8 [.v (i64 n), .slice Lg.ks3 l, .slice Lg.ks3 m] = some [.v (.bool true)] := by
  refine (tsums in9 in17 n l m).trans ?_
  refine br_splitP (fun _ => rfl) (fun hl => br_splitP (fun _ => rfl) (fun hm => ?_))
  by_cases hcl : Lg.chk n (winOf l 0 l.n) = 0
  · by_cases hcm : Lg.chk n (winOf m 0 m.n) = 0
    · obtain ⟨hn, _, hA⟩ := (chk_iff _ _).mp hcl
      obtain ⟨_, _, hB⟩ := (chk_iff _ _).mp hcm
      have hnl : (winOf l 0 l.n).n = l.n := rfl
      have hnm : (winOf m 0 m.n).n = m.n := rfl
      have lenA : (pl (winOf l 0 l.n)).length = l.n := by rw [pl_win]; simp
      have lenB : (pl (winOf m 0 m.n)).length = m.n := by rw [pl_win]; simp
      have p14 : pl (winOf ((winOf (Row.zeros 0) 0 0).app (winOf l 0 l.n)) 0 (0 + (winOf l 0 l.n).n)) = pl (winOf l 0 l.n) := pl_app (winOf (Row.zeros 0) 0 0) (winOf l 0 l.n)
      have p15 : pl (winOf ((winOf ((winOf (Row.zeros 0) 0 0).app (winOf l 0 l.n)) 0 (0 + (winOf l 0 l.n).n)).app (winOf m 0 m.n)) 0 (0 + (winOf l 0 l.n).n + (winOf m 0 m.n).n)) = pl (winOf l 0 l.n) ++ pl (winOf m 0 m.n) := by
        rw [← p14]
        exact pl_app (winOf ((winOf (Row.zeros 0) 0 0).app (winOf l 0 l.n)) 0 (0 + (winOf l 0 l.n).n)) (winOf m 0 m.n)
      have p9 : pl (winOf (Row.nil.app (winOf l 0 l.n)) 0 (0 + (winOf l 0 l.n).n)) = pl (winOf l 0 l.n) := pl_app Row.nil (winOf l 0 l.n)
      have p21 : 0 < l.n → pl (winOf ((winOf (backR l l.n) 0 l.n).app (winOf l 0 l.n)) 0 (l.n + (winOf l 0 l.n).n)) = (pl (winOf l 0 l.n)).reverse.map sw ++ pl (winOf l 0 l.n) := fun h => by
        have := pl_app (winOf (backR l l.n) 0 l.n) (winOf l 0 l.n)
        rw [backR_pl l l.n h] at this
        exact this
      have hAB : ∀ x ∈ pl (winOf l 0 l.n) ++ pl (winOf m 0 m.n), okP n x := fun x hx => by
        rcases List.mem_append.mp hx with h | h
        · exact hA x h
        · exact hB x h
      have hC15 := chk_of hn p15 (by rw [List.length_append]; omega) hAB
      have hC9 := chk_of hn p9 (by omega) hA
      have hback : ∀ x ∈ (pl (winOf l 0 l.n)).reverse.map sw ++ pl (winOf l 0 l.n), okP n x := fun x hx => by
        rcases List.mem_append.mp hx with h | h
        · obtain ⟨y, hy, rfl⟩ := List.mem_map.mp h
          exact okP_sw (hA y (List.mem_reverse.mp hy))
        · exact hA x h
      obtain ⟨a1, a2⟩ := bal_I hcl
      obtain ⟨b1, b2⟩ := bal_I hcm
      obtain ⟨c1, c2⟩ := bal_I hC15
      obtain ⟨d1, d2⟩ := bal_I hC9
      rw [p15] at c2
      rw [p9] at d2
      obtain ⟨N, rfl⟩ := Int.eq_ofNat_of_zero_le (show 0 ≤ n by omega)
      rw [Int.toNat_natCast] at a1 b1 c1 d1
      have hra := bl_range _ hA
      have hrb := bl_range _ hB
      rw [lenA] at hra
      rw [lenB] at hrb
      have hsu := suL_ok (a := Lg.bal N (winOf l 0 l.n)) (b := Lg.bal N (winOf m 0 m.n)) (c := Lg.bal N (winOf ((winOf ((winOf (Row.zeros 0) 0 0).app (winOf l 0 l.n)) 0 (0 + (winOf l 0 l.n).n)).app (winOf m 0 m.n)) 0 (0 + (winOf l 0 l.n).n + (winOf m 0 m.n).n))) (fun p => by
        rw [c2, a2, b2, bl_app]
        have := hra p
        have := hrb p
        exact (wiN (by omega) (by omega)).symm) (fun p => by
        rw [a2]
        have := hra p
        omega) N 0 0 0 (by omega) (by omega) (by omega)
      have hs0 : sr (fun p => (Lg.bal N (winOf l 0 l.n)).I p 0) N 0 = 0 := by
        have : (fun p : Nat => (Lg.bal N (winOf l 0 l.n)).I p 0) = fun p : Nat => bl (pl (winOf l 0 l.n)) p := funext a2
        rw [this]
        exact sum_bl _ hA
      rw [hs0] at hsu
      have hz : ∀ r : Row, (∀ p : Nat, r.I p 0 = 0) → zrB (winOf r 0 r.n) = true := fun r hr => by
        unfold zrB
        rw [show anyF (nzB (winOf r 0 r.n)) (winOf r 0 r.n).n 0 = false by
          rw [anyF_false]
          intro i _ _
          show ((winOf r 0 r.n).I i 0 != 0) = false
          rw [show (winOf r 0 r.n).I i 0 = r.I i 0 from rfl, hr]
          rfl]
        rfl
      have hfin : br (in17 N (Lg.bal N (winOf l 0 l.n)).n (Lg.bal N (winOf m 0 m.n)).n (Lg.bal N (winOf ((winOf ((winOf (Row.zeros 0) 0 0).app (winOf l 0 l.n)) 0 (0 + (winOf l 0 l.n).n)).app (winOf m 0 m.n)) 0 (0 + (winOf l 0 l.n).n + (winOf m 0 m.n).n))).n) (br (suL (Lg.bal N (winOf l 0 l.n)) (Lg.bal N (winOf m 0 m.n)) (Lg.bal N (winOf ((winOf ((winOf (Row.zeros 0) 0 0).app (winOf l 0 l.n)) 0 (0 + (winOf l 0 l.n).n)).app (winOf m 0 m.n)) 0 (0 + (winOf l 0 l.n).n + (winOf m 0 m.n).n))) (N : Int).toNat 0 0).1 (some [D.v (.bool false)]) (some [D.v (.bool ((suL (Lg.bal N (winOf l 0 l.n)) (Lg.bal N (winOf m 0 m.n)) (Lg.bal N (winOf ((winOf ((winOf (Row.zeros 0) 0 0).app (winOf l 0 l.n)) 0 (0 + (winOf l 0 l.n).n)).app (winOf m 0 m.n)) 0 (0 + (winOf l 0 l.n).n + (winOf m 0 m.n).n))) (N : Int).toNat 0 0).2 == 0))])) none = some [.v (.bool true)] := by
        rw [a1, b1, c1, show in17 (N : Int) N N N = true from decide_eq_true ⟨by omega, rfl, rfl, rfl⟩, br_true, Int.toNat_natCast, hsu, br_false]
        rfl
      rw [show (Lg.chk (N : Int) (winOf l 0 l.n) != 0) = false by rw [hcl]; rfl, br_false, show (Lg.chk (N : Int) (winOf m 0 m.n) != 0) = false by rw [hcm]; rfl, br_false,
        decide_eq_true (show 0 + (winOf l 0 l.n).n ≤ 10000000000 by omega), br_true, decide_eq_true (show 0 + (winOf l 0 l.n).n + (winOf m 0 m.n).n ≤ 10000000000 by omega), br_true,
        show IntKind.i64.wrap ((l.n : Int) - 1) = (l.n : Int) - 1 from wiN (by omega) (by omega), show in9 l.n ((l.n : Int) - 1) = true from decide_eq_true ⟨rfl, by omega⟩, br_true, hfin,
        show (Lg.chk (N : Int) (winOf ((winOf ((winOf (Row.zeros 0) 0 0).app (winOf l 0 l.n)) 0 (0 + (winOf l 0 l.n).n)).app (winOf m 0 m.n)) 0 (0 + (winOf l 0 l.n).n + (winOf m 0 m.n).n)) != 0) = false by rw [hC15]; rfl,
        show (Lg.chk (N : Int) (winOf (Row.nil.app (winOf l 0 l.n)) 0 (0 + (winOf l 0 l.n).n)) != 0) = false by rw [hC9]; rfl,
        show (((Lg.bal (N : Int) (winOf l 0 l.n)).n : Int) != (N : Int)) = false by rw [a1]; simp, show (((Lg.bal (N : Int) (winOf m 0 m.n)).n : Int) != (N : Int)) = false by rw [b1]; simp,
        show (((Lg.bal (N : Int) (winOf ((winOf ((winOf (Row.zeros 0) 0 0).app (winOf l 0 l.n)) 0 (0 + (winOf l 0 l.n).n)).app (winOf m 0 m.n)) 0 (0 + (winOf l 0 l.n).n + (winOf m 0 m.n).n))).n : Int) != (N : Int)) = false by rw [c1]; simp]
      by_cases h0 : l.n = 0
      · rw [decide_eq_true h0, br_true]
        have hzz := hz (Lg.bal N (winOf (Row.nil.app (winOf l 0 l.n)) 0 (0 + (winOf l 0 l.n).n))) (fun p => by
          rw [d2, pl_win, h0]
          rfl)
        rw [br_true, br_false, br_false, br_false, br_false, br_false, br_false, br_false, decide_eq_true (show (winOf (Lg.bal (N : Int) (winOf (Row.nil.app (winOf l 0 l.n)) 0 (0 + (winOf l 0 l.n).n))) 0 (Lg.bal (N : Int) (winOf (Row.nil.app (winOf l 0 l.n)) 0 (0 + (winOf l 0 l.n).n))).n).n ≤ 1000 by
          show (Lg.bal (N : Int) (winOf (Row.nil.app (winOf l 0 l.n)) 0 (0 + (winOf l 0 l.n).n))).n ≤ 1000
          rw [d1]; omega), br_true, hzz]
        rfl
      · have hC21 := chk_of hn (p21 (by omega)) (by simp only [List.length_append, List.length_map, List.length_reverse]; omega) hback
        obtain ⟨e1, e2⟩ := bal_I hC21
        rw [p21 (by omega)] at e2
        rw [Int.toNat_natCast] at e1
        have hzz := hz (Lg.bal N (winOf ((winOf (backR l l.n) 0 l.n).app (winOf l 0 l.n)) 0 (l.n + (winOf l 0 l.n).n))) (fun p => by
          rw [e2, bl_app, bl_sw, bl_rev]
          omega)
        rw [decide_eq_false h0, br_false, decide_eq_true (show l.n + (winOf l 0 l.n).n ≤ 10000000000 by omega), br_true, br_false, br_false, br_false,
          show (Lg.chk (N : Int) (winOf ((winOf (backR l l.n) 0 l.n).app (winOf l 0 l.n)) 0 (l.n + (winOf l 0 l.n).n)) != 0) = false by rw [hC21]; rfl, br_false, br_false, br_false, br_false,
          decide_eq_true (show (winOf (Lg.bal (N : Int) (winOf ((winOf (backR l l.n) 0 l.n).app (winOf l 0 l.n)) 0 (l.n + (winOf l 0 l.n).n))) 0 (Lg.bal (N : Int) (winOf ((winOf (backR l l.n) 0 l.n).app (winOf l 0 l.n)) 0 (l.n + (winOf l 0 l.n).n))).n).n ≤ 1000 by
            show (Lg.bal (N : Int) (winOf ((winOf (backR l l.n) 0 l.n).app (winOf l 0 l.n)) 0 (l.n + (winOf l 0 l.n).n))).n ≤ 1000
            rw [e1]; omega), br_true, hzz]
        rfl
    · rw [show (Lg.chk n (winOf l 0 l.n) != 0) = false by rw [hcl]; rfl, br_false, show (Lg.chk n (winOf m 0 m.n) != 0) = true by simpa using hcm, br_true]
  · rw [show (Lg.chk n (winOf l 0 l.n) != 0) = true by simpa using hcl, br_true]
end Go.Proofs.YtpblmkephkhlkaaDoor

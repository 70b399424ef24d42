/- Balances, of the program and of the reference. No conditions. -/
import Derived.Test.YtpblmkephkhlkaaDoorE10
namespace Go.Proofs.YtpblmkephkhlkaaDoor.Lg
open Go.Ev
set_option linter.all false

/-- A payment is booked. -/
def book1 (r : Row) (j : Nat) (o : Row) : Row := o.setI (0 + (r.I (0 + j) 0).toNat) 0 (IntKind.i64.wrap (o.I (0 + (r.I (0 + j) 0).toNat) 0 - r.I (0 + j) 2))
def book (r : Row) (j : Nat) (o : Row) : Row := (book1 r j o).setI (0 + (r.I (0 + j) 1).toNat) 0 (IntKind.i64.wrap ((book1 r j o).I (0 + (r.I (0 + j) 1).toNat) 0 + r.I (0 + j) 2))
def books (r : Row) : Nat → Nat → Row → Row
  | 0, _, o => o
  | m + 1, j, o => books r m (j + 1) (book r j o)
def bal (n : Int) (r : Row) : Row := bif chk n r != 0 then .nil else winOf (books r r.n 0 (.zeros n.toNat)) 0 n.toNat
def F5 : List D → Option (Bool × List D)
  | [.v (.int .i64 n), .slice [.int .i64, .int .i64, .int .i64] r] => some (true, [.slice [.int .i64] (bal n r), .v (i64 (chk n r))])
  | _ => none
def inR (n : Nat) (x : Int) : Bool := decide (0 ≤ x) && decide (x < n)

theorem good_in {n : Nat} {r : Row} {j : Nat} (h : bad n r j = false) : inR n (r.I (0 + j) 0) = true ∧ inR n (r.I (0 + j) 1) = true := by
  rw [Nat.zero_add]
  simp only [bad, isB, Bool.or_eq_false_iff, Bool.not_eq_false', Bool.and_eq_true, decide_eq_true_eq] at h
  simp only [inR, Bool.and_eq_true, decide_eq_true_eq]
  omega

theorem runL_books {A : Type} {κ : Type} (n : Nat) (r : Row) (E : Row → κ → Option A) (K : κ) : ∀ (m j : Nat) (o : Row), anyF (bad n r) m j = false →
    runL (fun j o R _ => br (inR n (r.I (0 + j) 0)) (br (inR n (r.I (0 + j) 1)) (R (book r j o)) none) none) E K m j o = E (books r m j o) K
  | 0, _, _, _ => rfl
  | m + 1, j, o, h => by
    simp only [anyF, Bool.or_eq_false_iff] at h
    simp only [runL, books]
    rw [(good_in h.1).1, (good_in h.1).2]
    exact runL_books n r E K m (j + 1) _ h.2

/-! ### ledger.Balances -/
def S5 (n len : Nat) (l : Int) (j : Int) (r o : Row) : St := { τ := us 7 ++ [.slice (some ⟨0, 0, some 0⟩) n 0] ++ us 10 ++ [.slice (some ⟨1, 0, some 0⟩) len 0, i64 l, i64 j] ++ us 23, saved := [[]], mem := [some (.row [.int .i64] true o), some (.row ks3 false r)] }
def S5x (n : Nat) (o : Row) : St := { τ := us 7 ++ [.slice (some ⟨0, 0, some 0⟩) n 0] ++ us 36, saved := [[]], mem := [some (.row [.int .i64] true o)] }
def G5 : List It → (X → St → Option (List D)) → Option (List D)
  | [.n n, .n len, .i l, .r o, .r r], k => br (decide (l = (len : Int)) && decide (len ≤ 1000) && !anyF (bad (n : Int) r) len 0) (k (.exit 0) (S5x n (books r len 0 o))) none
  | _, _ => none
def l5 : LoopC where
  f := 27
  id := 6
  lv := [7, 18, 19, 20]
  lx := [4, 5, 7]
  p := { τ := pu 7 ++ [.v (.sl 0)] ++ pu 10 ++ [.v (.sl 1), .v (.int .i64), .v (.c (i64 0))] ++ pu 23, saved := [[]], mem := [.row [.int .i64] true, .row ks3 false] }
  G := G5
noncomputable def C5 : Cx := mkCx Tryd.prog fns [(38, F7)] [l5]

theorem round5 (d : Nat) (R : St → Option (List D)) (K : X → St → Option (List D)) (n len : Nat) (l : Int) (j : Nat) (r o : Row) :
    evCode C5 27 true (inl C5 (d + 4)) (lbody C5.P 27 6) (S5 n len l j r o) (rnd [7, 18, 19, 20] (some [4, 5, 7]) R K) =
    br (decide ((j : Int) < l)) (br (decide (0 ≤ (j : Int)) && decide ((j : Int) < len)) (br (inR n (r.I (0 + j) 0)) (br (inR n (r.I (0 + j) 0)) (br (inR n (r.I (0 + j) 1)) (br (inR n (r.I (0 + j) 1))
      (R (S5 n len l (IntKind.i64.wrap (j + 1)) r (book r j o))) none) none) none) none) none) (K (.exit 0) (S5x n o)) := by kernel_rfl

theorem loop5 : LoopOk C5 l5 := ⟨by kernel_rfl, fun d its k rr h => by
  show rounds [7, 18, 19, 20] (some [4, 5, 7]) (evCode C5 27 true (inl C5 (d + 4)) (lbody C5.P 27 6)) 18446744073709551616 (Go.Ev.bst l5.p its) k = some rr
  change G5 its k = some rr at h
  unfold G5 at h
  split at h
  · rename_i n len l o r
    rcases br_some h with ⟨h1, h2⟩ | ⟨_, h2⟩
    · simp only [Bool.and_eq_true, decide_eq_true_eq, Bool.not_eq_true'] at h1
      obtain ⟨⟨rfl, h1⟩, hb⟩ := h1
      rw [← h2]
      have key := rounds_run (lv := [7, 18, 19, 20]) (lx := some [4, 5, 7]) (f := evCode C5 27 true (inl C5 (d + 4)) (lbody C5.P 27 6)) (S := fun j o => S5 n len len j r o) (len := len)
        (T := fun j o R _ => br (inR n (r.I (0 + j) 0)) (br (inR n (r.I (0 + j) 1)) (R (book r j o)) none) none) (E := fun o K => K (.exit 0) (S5x n o))
        (fun j hj o R K => by
          rw [round5, wrap64 (by omega) (by omega), show decide ((j : Int) < (len : Int)) = true by simpa using hj, show (decide (0 ≤ (j : Int))) = true by simp]
          cases inR n (r.I (0 + j) 0) <;> cases inR n (r.I (0 + j) 1) <;> rfl)
        (fun o R K => by
          rw [round5, show decide ((len : Int) < (len : Int)) = false by simp]
          rfl) (fun j o R R' K hR => by simp only [hR]) k len 0 o (by omega) 18446744073709551616 (by omega)
      rw [runL_books n r _ k len 0 o hb] at key
      exact key
    · cases h2
  · cases h⟩

theorem C5_ok : CxOk C5 := mkCx_ok enter mixed (fun p h => by
  simp only [List.mem_singleton] at h
  subst h
  exact den7) (fun l h => by
  simp only [List.mem_singleton] at h
  subst h
  exact loop5)

theorem t5 (n : Int) (r : Row) : evF C5 6 27 (pay n r) =
    br (chk n r != 0) (some [.slice [.int .i64] .nil, .v (i64 (chk n r))]) (br (decide (0 ≤ n) && decide (n ≤ n) && decide (n ≤ 100000000000))
      (br (decide ((r.n : Int) = (r.n : Int)) && decide (r.n ≤ 1000) && !anyF (bad (n.toNat : Int) r) r.n 0) (some [.slice [.int .i64] (winOf (books r r.n 0 (.zeros n.toNat)) 0 n.toNat), .v (i64 0)]) none) none) := by kernel_rfl

theorem chk_zero {n : Int} {r : Row} (h : (chk n r != 0) = false) : 1 ≤ n ∧ n ≤ 10 ∧ r.n ≤ 200 ∧ anyF (bad n r) r.n 0 = false := by
  simp only [bne_eq_false_iff_eq] at h
  unfold chk partiesB at h
  cases h1 : decide (n ≥ 1) <;> cases h2 : decide (n ≤ 10) <;> cases h3 : decide ((r.n : Int) > 200) <;> cases h4 : anyF (bad n r) r.n 0 <;> simp [h1, h2, h3, h4] at h
  simp only [decide_eq_true_eq, decide_eq_false_iff_not] at h1 h2 h3
  exact ⟨by omega, by omega, by omega, rfl⟩

theorem den5 : Den Tryd.prog 27 F5 := evF_den C5_ok fun ds rs h => by
  unfold F5 at h
  split at h
  · rename_i n r
    cases h
    refine (t5 n r).trans ?_
    unfold bal
    cases hc : (chk n r != 0)
    · obtain ⟨h1, h2, h3, h4⟩ := chk_zero hc
      have e0 : chk n r = 0 := by simpa using hc
      rw [show ((n.toNat : Nat) : Int) = n by omega, h4, e0]
      have e1 : (decide (0 ≤ n) && decide (n ≤ n) && decide (n ≤ 100000000000)) = true := by simp; omega
      have e2 : (decide ((r.n : Int) = (r.n : Int)) && decide (r.n ≤ 1000)) = true := by simp; omega
      rw [e1, e2]
      rfl
    · rfl
  · cases h

end Go.Proofs.YtpblmkephkhlkaaDoor.Lg

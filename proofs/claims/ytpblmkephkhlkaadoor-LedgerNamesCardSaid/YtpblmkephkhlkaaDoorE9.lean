/- Package ledger and its reference: what Check returns. No conditions. -/
import Derived.Test.YtpblmkephkhlkaaDoorE8
namespace Go.Proofs.YtpblmkephkhlkaaDoor.Lg
open Go.Ev

set_option linter.all false
def ks3 : List CK := [.int .i64, .int .i64, .int .i64]
def pay (n : Int) (r : Row) : List D := [.v (i64 n), .slice ks3 r]

/-- Where a payment is bad. -/
def isB (n p : Int) : Bool := decide (p ≥ 0) && decide (p < n)
def bad (n : Int) (r : Row) (j : Nat) : Bool := !isB n (r.I j 0) || !isB n (r.I j 1) || r.I j 0 == r.I j 1 || decide (r.I j 2 < 1) || decide (r.I j 2 > 1000000000)
def partiesB (n : Int) : Bool := decide (n ≥ 1) && decide (n ≤ 10)
/-- The error of a list of payments. -/
def chk (n : Int) (r : Row) : Int := bif partiesB n then (bif decide ((r.n : Int) > 200) then 4 else bif anyF (bad n r) r.n 0 then 8 else 0) else 2

/-! ### is, of the reference -/
def F19 : List D → Option (Bool × List D)
  | [.v (.int .i64 n), .v (.int .i64 p)] => some (true, [.v (.bool (isB n p))])
  | _ => none
noncomputable def C0 : Cx := mkCx Tryd.prog fns [] []
theorem C0_ok : CxOk C0 := mkCx_ok enter mixed (fun p h => by cases h) (fun l h => by cases h)
theorem t19 (n p : Int) : evF C0 6 35 [.v (i64 n), .v (i64 p)] = br (decide (p ≥ 0)) (some [.v (.bool (decide (p < n)))]) (some [.v (.bool false)]) := by kernel_rfl
theorem den19 : Den Tryd.prog 35 F19 := evF_den C0_ok fun ds rs h => by
  unfold F19 at h
  split at h
  · rename_i n p
    cases h
    refine (t19 n p).trans ?_
    unfold isB
    cases decide (p ≥ 0) <;> rfl
  · cases h

/-! ### ledger.Check -/
def S7 (n : Int) (len : Nat) (l : Int) (j : Int) (r : Row) : St := { τ := [i64 n] ++ us 15 ++ [.slice (some ⟨0, 0, some 0⟩) len 0, i64 l, i64 j] ++ us 29, saved := [[]], mem := [some (.row ks3 false r)] }
def S7r : St := { τ := us 4 ++ [i64 8] ++ us 43, saved := [[]], mem := [] }
def S7x : St := { τ := us 48, saved := [[]], mem := [] }
def G7 : List It → (X → St → Option (List D)) → Option (List D)
  | [.i n, .n len, .i l, .r r], k => br (decide (l = (len : Int)) && decide (len ≤ 1000)) (br (anyF (bad n r) len 0) (k .ret S7r) (k (.exit 0) S7x)) none
  | _, _ => none
def l7 : LoopC where
  f := 38
  id := 7
  lv := [0, 16, 17, 18]
  lx := [4]
  p := { τ := [.v (.int .i64)] ++ pu 15 ++ [.v (.sl 0), .v (.int .i64), .v (.c (i64 0))] ++ pu 29, saved := [[]], mem := [.row ks3 false] }
  G := G7
noncomputable def C7 : Cx := mkCx Tryd.prog fns [] [l7]

theorem round7 (d : Nat) (R : St → Option (List D)) (K : X → St → Option (List D)) (n : Int) (len : Nat) (l : Int) (j : Nat) (r : Row) :
    evCode C7 38 true (inl C7 (d + 4)) (lbody C7.P 38 7) (S7 n len l j r) (rnd [0, 16, 17, 18] (some [4]) R K) =
    br (decide ((j : Int) < l)) (br (decide (0 ≤ (j : Int)) && decide ((j : Int) < len))
      (br (decide (r.I (0 + j) 0 ≥ 0)) (br (!decide (r.I (0 + j) 0 < n)) (K .ret S7r)
        (br (decide (r.I (0 + j) 1 ≥ 0)) (br (!decide (r.I (0 + j) 1 < n)) (K .ret S7r)
          (br (r.I (0 + j) 0 == r.I (0 + j) 1) (K .ret S7r)
            (br (decide (r.I (0 + j) 2 ≥ 1)) (br (!decide (r.I (0 + j) 2 ≤ 1000000000)) (K .ret S7r) (R (S7 n len l (IntKind.i64.wrap (j + 1)) r))) (K .ret S7r)))) (K .ret S7r))) (K .ret S7r)) none) (K (.exit 0) S7x) := by kernel_rfl

theorem bad_tree {A : Type} (n : Int) (r : Row) (j : Nat) (x y : Option A) :
    (br (decide (r.I (0 + j) 0 ≥ 0)) (br (!decide (r.I (0 + j) 0 < n)) x
        (br (decide (r.I (0 + j) 1 ≥ 0)) (br (!decide (r.I (0 + j) 1 < n)) x
          (br (r.I (0 + j) 0 == r.I (0 + j) 1) x
            (br (decide (r.I (0 + j) 2 ≥ 1)) (br (!decide (r.I (0 + j) 2 ≤ 1000000000)) x y) x))) x)) x) = br (bad n r j) x y := by
  rw [Nat.zero_add]
  have e1 : decide (r.I j 2 < 1) = !decide (r.I j 2 ≥ 1) := by rw [Bool.eq_iff_iff]; simp only [Bool.not_eq_true', decide_eq_true_eq, decide_eq_false_iff_not]; omega
  have e2 : decide (r.I j 2 > 1000000000) = !decide (r.I j 2 ≤ 1000000000) := by rw [Bool.eq_iff_iff]; simp only [Bool.not_eq_true', decide_eq_true_eq, decide_eq_false_iff_not]; omega
  unfold bad isB
  rw [e1, e2]
  cases decide (r.I j 0 ≥ 0) <;> cases decide (r.I j 0 < n) <;> cases decide (r.I j 1 ≥ 0) <;> cases decide (r.I j 1 < n) <;> cases (r.I j 0 == r.I j 1) <;> cases decide (r.I j 2 ≥ 1) <;> cases decide (r.I j 2 ≤ 1000000000) <;> rfl

theorem loop7 : LoopOk C7 l7 := ⟨by kernel_rfl, fun d its k rr h => by
  show rounds [0, 16, 17, 18] (some [4]) (evCode C7 38 true (inl C7 (d + 4)) (lbody C7.P 38 7)) 18446744073709551616 (Go.Ev.bst l7.p its) k = some rr
  change G7 its k = some rr at h
  unfold G7 at h
  split at h
  · rename_i n len l r
    rcases br_some h with ⟨h1, h2⟩ | ⟨_, h2⟩
    · simp only [Bool.and_eq_true, decide_eq_true_eq] at h1
      obtain ⟨rfl, h1⟩ := h1
      rw [← h2]
      exact rounds_scan (S := fun j => S7 n len len j r) (len := len) (bad := bad n r) (Kb := fun K => K .ret S7r) (Ke := fun K => K (.exit 0) S7x)
        (fun j hj R K => by
          rw [round7, wrap64 (by omega) (by omega), show decide ((j : Int) < (len : Int)) = true by simpa using hj, show (decide (0 ≤ (j : Int))) = true by simp]
          simp only [Bool.and_true, br_true]
          exact bad_tree n r j _ _)
        (fun R K => by
          rw [round7, show decide ((len : Int) < (len : Int)) = false by simp]
          rfl) k len 0 (by omega) _ (by omega)
    · cases h2
  · cases h⟩

theorem C7_ok : CxOk C7 := mkCx_ok enter mixed (fun p h => by cases h) (fun l h => by
  simp only [List.mem_singleton] at h
  subst h
  exact loop7)

def F7 : List D → Option (Bool × List D)
  | [.v (.int .i64 n), .slice [.int .i64, .int .i64, .int .i64] r] => some (true, [.v (i64 (chk n r))])
  | _ => none

theorem t7 (n : Int) (r : Row) : evF C7 6 38 (pay n r) =
    br (decide (n < 1)) (some [.v (i64 2)]) (br (decide (n > 10)) (some [.v (i64 2)]) (br (decide ((r.n : Int) > 200)) (some [.v (i64 4)])
      (br (decide ((r.n : Int) = (r.n : Int)) && decide (r.n ≤ 1000)) (br (anyF (bad n r) r.n 0) (some [.v (i64 8)]) (some [.v (i64 0)])) none))) := by kernel_rfl

theorem chk_tree (n : Int) (r : Row) {A : Type} (g : Int → Option A) : (br (decide (n < 1)) (g 2) (br (decide (n > 10)) (g 2) (br (decide ((r.n : Int) > 200)) (g 4)
      (br (decide ((r.n : Int) = (r.n : Int)) && decide (r.n ≤ 1000)) (br (anyF (bad n r) r.n 0) (g 8) (g 0)) none)))) = g (chk n r) := by
  have e1 : decide (n < 1) = !decide (n ≥ 1) := by rw [Bool.eq_iff_iff]; simp only [Bool.not_eq_true', decide_eq_true_eq, decide_eq_false_iff_not]; omega
  have e2 : decide (n > 10) = !decide (n ≤ 10) := by rw [Bool.eq_iff_iff]; simp only [Bool.not_eq_true', decide_eq_true_eq, decide_eq_false_iff_not]; omega
  have e3 : decide ((r.n : Int) > 200) = false → (decide ((r.n : Int) = (r.n : Int)) && decide (r.n ≤ 1000)) = true := by intro h; simp at h ⊢; omega
  unfold chk partiesB
  rw [e1, e2]
  cases h : decide ((r.n : Int) > 200)
  · rw [e3 h]
    cases decide (n ≥ 1) <;> cases decide (n ≤ 10) <;> cases anyF (bad n r) r.n 0 <;> rfl
  · cases decide (n ≥ 1) <;> cases decide (n ≤ 10) <;> rfl

theorem den7 : Den Tryd.prog 38 F7 := evF_den C7_ok fun ds rs h => by
  unfold F7 at h
  split at h
  · rename_i n r
    cases h
    exact (t7 n r).trans (chk_tree n r fun e => some [D.v (i64 e)])
  · cases h
end Go.Proofs.YtpblmkephkhlkaaDoor.Lg

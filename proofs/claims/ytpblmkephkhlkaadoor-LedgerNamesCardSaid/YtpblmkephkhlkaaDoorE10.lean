/- The reference's Check and Same. No conditions. -/
import Derived.Test.YtpblmkephkhlkaaDoorE9
namespace Go.Proofs.YtpblmkephkhlkaaDoor.Lg
open Go.Ev
set_option linter.all false

/-! ### Check of the reference -/
def S8 (n : Int) (len : Nat) (j : Int) (r : Row) : St := { τ := [i64 n, .slice (some ⟨0, 0, some 0⟩) len 0] ++ us 3 ++ [i64 j] ++ us 59, saved := [[]], mem := [some (.row ks3 false r)] }
def S8r : St := { τ := us 4 ++ [i64 8] ++ us 60, saved := [[]], mem := [] }
def S8x : St := { τ := us 65, saved := [[]], mem := [] }
def G8 : List It → (X → St → Option (List D)) → Option (List D)
  | [.i n, .n len, .r r], k => br (decide (len ≤ 1000)) (br (anyF (bad n r) len 0) (k .ret S8r) (k (.exit 0) S8x)) none
  | _, _ => none
def l8 : LoopC where
  f := 17
  id := 6
  lv := [0, 1, 5]
  lx := [4]
  p := { τ := [.v (.int .i64), .v (.sl 0)] ++ pu 3 ++ [.v (.c (i64 0))] ++ pu 59, saved := [[]], mem := [.row ks3 false] }
  G := G8
noncomputable def C8 : Cx := mkCx Tryd.prog fns [(35, F19)] [l8]

theorem round8 (d : Nat) (R : St → Option (List D)) (K : X → St → Option (List D)) (n : Int) (len : Nat) (j : Nat) (r : Row) :
    evCode C8 17 true (inl C8 (d + 4)) (lbody C8.P 17 6) (S8 n len j r) (rnd [0, 1, 5] (some [4]) R K) =
    br (decide ((j : Int) < len)) (br (decide (0 ≤ (j : Int)) && decide ((j : Int) < len)) (br true (br (!isB n (r.I (0 + j) 0)) (K .ret S8r)
      (br (decide (0 ≤ (j : Int)) && decide ((j : Int) < len)) (br true (br (!isB n (r.I (0 + j) 1)) (K .ret S8r)
        (br (decide (0 ≤ (j : Int)) && decide ((j : Int) < len)) (br (decide (0 ≤ (j : Int)) && decide ((j : Int) < len)) (br (r.I (0 + j) 0 == r.I (0 + j) 1) (K .ret S8r)
          (br (decide (0 ≤ (j : Int)) && decide ((j : Int) < len)) (br (decide (r.I (0 + j) 2 < 1)) (K .ret S8r)
            (br (decide (0 ≤ (j : Int)) && decide ((j : Int) < len)) (br (decide (r.I (0 + j) 2 > 1000000000)) (K .ret S8r)
              (R (S8 n len (IntKind.i64.wrap (j + 1)) r))) none)) none)) none) none)) none) none)) none) none) (K (.exit 0) S8x) := by kernel_rfl

theorem bad_or {A : Type} (n : Int) (r : Row) (j : Nat) (x y : Option A) : br (bad n r j) x y = br (!isB n (r.I (0 + j) 0)) x (br (!isB n (r.I (0 + j) 1)) x (br (r.I (0 + j) 0 == r.I (0 + j) 1) x (br (decide (r.I (0 + j) 2 < 1)) x (br (decide (r.I (0 + j) 2 > 1000000000)) x y)))) := by
  rw [Nat.zero_add]
  unfold bad
  cases isB n (r.I j 0) <;> cases isB n (r.I j 1) <;> cases (r.I j 0 == r.I j 1) <;> cases decide (r.I j 2 < 1) <;> cases decide (r.I j 2 > 1000000000) <;> rfl

theorem loop8 : LoopOk C8 l8 := ⟨by kernel_rfl, fun d its k rr h => by
  show rounds [0, 1, 5] (some [4]) (evCode C8 17 true (inl C8 (d + 4)) (lbody C8.P 17 6)) 18446744073709551616 (Go.Ev.bst l8.p its) k = some rr
  change G8 its k = some rr at h
  unfold G8 at h
  split at h
  · rename_i n len r
    rcases br_some h with ⟨h1, h2⟩ | ⟨_, h2⟩
    · simp only [decide_eq_true_eq] at h1
      rw [← h2]
      exact rounds_scan (S := fun j => S8 n len j r) (len := len) (bad := bad n r) (Kb := fun K => K .ret S8r) (Ke := fun K => K (.exit 0) S8x)
        (fun j hj R K => by
          rw [round8, wrap64 (by omega) (by omega), show decide ((j : Int) < (len : Int)) = true by simpa using hj, show (decide (0 ≤ (j : Int))) = true by simp]
          simp only [Bool.and_true, br_true]
          exact (bad_or n r j _ _).symm)
        (fun R K => by
          rw [round8, show decide ((len : Int) < (len : Int)) = false by simp]
          rfl) k len 0 (by omega) _ (by omega)
    · cases h2
  · cases h⟩

theorem C8_ok : CxOk C8 := mkCx_ok enter mixed (fun p h => by
  simp only [List.mem_singleton] at h
  subst h
  exact den19) (fun l h => by
  simp only [List.mem_singleton] at h
  subst h
  exact loop8)

theorem t8 (n : Int) (r : Row) : evF C8 6 17 (pay n r) =
    br (decide (n ≥ 1)) (br (!decide (n ≤ 10)) (some [.v (i64 2)]) (br (decide ((r.n : Int) > 200)) (some [.v (i64 4)])
      (br (decide (r.n ≤ 1000)) (br (anyF (bad n r) r.n 0) (some [.v (i64 8)]) (some [.v (i64 0)])) none))) (some [.v (i64 2)]) := by kernel_rfl

theorem den8 : Den Tryd.prog 17 F7 := evF_den C8_ok fun ds rs h => by
  unfold F7 at h
  split at h
  · rename_i n r
    cases h
    refine (t8 n r).trans ?_
    have e3 : decide ((r.n : Int) > 200) = false → decide (r.n ≤ 1000) = true := by intro h; simp at h ⊢; omega
    unfold chk partiesB
    cases h : decide ((r.n : Int) > 200)
    · rw [e3 h]
      cases decide (n ≥ 1) <;> cases decide (n ≤ 10) <;> cases anyF (bad n r) r.n 0 <;> rfl
    · cases decide (n ≥ 1) <;> cases decide (n ≤ 10) <;> rfl
  · cases h

/-! ### Same -/
def neI (r s : Row) (j : Nat) : Bool := r.I j 0 != s.I j 0
def same (r s : Row) : Bool := bif (r.n : Int) != (s.n : Int) then false else bif anyF (neI r s) r.n 0 then false else true
def big : Nat := 9223372036854775807
def F9 : List D → Option (Bool × List D)
  | [.slice [.int .i64] r, .slice [.int .i64] s] => some (decide (r.n ≤ big), [.v (.bool (same r s))])
  | _ => none
def S9 (len len2 : Nat) (j : Int) (r s : Row) : St := { τ := [.slice (some ⟨0, 0, some 0⟩) len 0, .slice (some ⟨1, 0, some 0⟩) len2 0] ++ us 3 ++ [i64 j] ++ us 20, saved := [[]], mem := [some (.row [.int .i64] false r), some (.row [.int .i64] false s)] }
def S9r : St := { τ := us 4 ++ [.bool false] ++ us 21, saved := [[]], mem := [] }
def S9x : St := { τ := us 26, saved := [[]], mem := [] }
def G9 : List It → (X → St → Option (List D)) → Option (List D)
  | [.n len, .n len2, .r r, .r s], k => br (decide (len ≤ big) && decide ((len : Int) = (len2 : Int))) (br (anyF (neI r s) len 0) (k .ret S9r) (k (.exit 0) S9x)) none
  | _, _ => none
def l9 : LoopC where
  f := 13
  id := 4
  lv := [0, 1, 5]
  lx := [4]
  p := { τ := [.v (.sl 0), .v (.sl 1)] ++ pu 3 ++ [.v (.c (i64 0))] ++ pu 20, saved := [[]], mem := [.row [.int .i64] false, .row [.int .i64] false] }
  G := G9
noncomputable def C9 : Cx := mkCx Tryd.prog fns [] [l9]

theorem round9 (d : Nat) (R : St → Option (List D)) (K : X → St → Option (List D)) (len len2 : Nat) (j : Nat) (r s : Row) :
    evCode C9 13 true (inl C9 (d + 4)) (lbody C9.P 13 4) (S9 len len2 j r s) (rnd [0, 1, 5] (some [4]) R K) =
    br (decide ((j : Int) < len)) (br (decide (0 ≤ (j : Int)) && decide ((j : Int) < len)) (br (decide (0 ≤ (j : Int)) && decide ((j : Int) < len2))
      (br (r.I (0 + j) 0 != s.I (0 + j) 0) (K .ret S9r) (R (S9 len len2 (IntKind.i64.wrap (j + 1)) r s))) none) none) (K (.exit 0) S9x) := by kernel_rfl

theorem loop9 : LoopOk C9 l9 := ⟨by kernel_rfl, fun d its k rr h => by
  show rounds [0, 1, 5] (some [4]) (evCode C9 13 true (inl C9 (d + 4)) (lbody C9.P 13 4)) 18446744073709551616 (Go.Ev.bst l9.p its) k = some rr
  change G9 its k = some rr at h
  unfold G9 at h
  split at h
  · rename_i len len2 r s
    rcases br_some h with ⟨h1, h2⟩ | ⟨_, h2⟩
    · simp only [Bool.and_eq_true, decide_eq_true_eq] at h1
      obtain ⟨h4, h3⟩ := h1
      have h1 : len ≤ 9223372036854775807 := h4
      obtain rfl : len = len2 := by omega
      rw [← h2]
      exact rounds_scan (S := fun j => S9 len len j r s) (len := len) (bad := neI r s) (Kb := fun K => K .ret S9r) (Ke := fun K => K (.exit 0) S9x)
        (fun j hj R K => by
          rw [round9, wrap64 (by omega) (by omega), show decide ((j : Int) < (len : Int)) = true by simpa using hj, show (decide (0 ≤ (j : Int))) = true by simp, Nat.zero_add]
          rfl)
        (fun R K => by
          rw [round9, show decide ((len : Int) < (len : Int)) = false by simp]
          rfl) k len 0 (by omega) _ (by omega)
    · cases h2
  · cases h⟩

theorem C9_ok : CxOk C9 := mkCx_ok enter mixed (fun p h => by cases h) (fun l h => by
  simp only [List.mem_singleton] at h
  subst h
  exact loop9)

theorem t9 (r s : Row) : evF C9 6 13 [.slice [.int .i64] r, .slice [.int .i64] s] =
    br ((r.n : Int) != (s.n : Int)) (some [.v (.bool false)]) (br (decide (r.n ≤ big) && decide ((r.n : Int) = (s.n : Int))) (br (anyF (neI r s) r.n 0) (some [.v (.bool false)]) (some [.v (.bool true)])) none) := by kernel_rfl

theorem den9 : Den Tryd.prog 13 F9 := evF_den C9_ok fun ds rs h => by
  unfold F9 at h
  split at h
  · rename_i r s
    simp only [Option.some.injEq, Prod.mk.injEq] at h
    obtain ⟨h, rfl⟩ := h
    refine (t9 r s).trans ?_
    rw [h]
    unfold same
    cases hn : ((r.n : Int) != (s.n : Int))
    · have : decide ((r.n : Int) = (s.n : Int)) = true := by simpa using hn
      rw [this]
      cases anyF (neI r s) r.n 0 <;> rfl
    · rfl
  · cases h
theorem same_self (r : Row) : same r r = true := by
  have : anyF (neI r r) r.n 0 = false := anyF_false.2 fun i _ _ => by simp [neI]
  simp [same, this]
end Go.Proofs.YtpblmkephkhlkaaDoor.Lg

/- Owed of the reference, and whether expenses are great. No conditions. -/
import Derived.Test.YtpblmkephkhlkaaL9
namespace Go.Proofs.Ytpblmkephkhlkaa
open Go.Ev

def S14 (n : Int) (nn len : Nat) (j : Int) (r o : Row) : St := { τ := [i64 n, .slice (some ⟨0, 0, some 0⟩) len 0] ++ us 4 ++ [.slice (some ⟨1, 0, some 0⟩) nn 0, i64 j] ++ us 60, saved := [[]], mem := [some (.row ksE false r), some (.row [.int .i64] true o)] }
def S14r (e : Int) (nn : Nat) (o : Row) : St := { τ := us 4 ++ [.slice none 0 0, i64 e, .slice (some ⟨0, 0, some 0⟩) nn 0] ++ us 61, saved := [[]], mem := [some (.row [.int .i64] true o)] }
def S14x (nn : Nat) (o : Row) : St := { τ := us 6 ++ [.slice (some ⟨0, 0, some 0⟩) nn 0] ++ us 61, saved := [[]], mem := [some (.row [.int .i64] true o)] }
def T14 (n : Int) (nn len : Nat) (j : Int) (m : Nat) (k : Int) (r o s : Row) : St :=
  { τ := [i64 n, .slice (some ⟨0, 0, some 0⟩) len 0] ++ us 4 ++ [.slice (some ⟨1, 0, some 0⟩) nn 0, i64 j, .slice (some ⟨2, 0, some 0⟩) m 0] ++ us 1 ++ [i64 k] ++ us 57, saved := [[]], mem := [some (.row ksE false r), some (.row [.int .i64] true o), some (.row [.int .i64] true s)] }
def G14i : List It → (X → St → Option (List D)) → Option (List D)
  | [.i n, .n len, .n nn, .i j, .n m, .r r, .r o, .r s], k => br (decide (m = n.toNat) && decide (nn = n.toNat) && decide (n ≤ 1000)) (k (.exit 2) (S14 n nn len j r (adds s n.toNat 0 o))) none
  | _, _ => none
def G14 : List It → (X → St → Option (List D)) → Option (List D)
  | [.i n, .n len, .n nn, .r r, .r o], k => br (decide (len ≤ 1000) && decide (nn = n.toNat) && !anyF (wide r) len 0) (br (anyF (failE n r) len 0) (k .ret (S14r (fstE n r len 0) nn (fstO n r len 0 o))) (k (.exit 0) (S14x nn (ows n r len 0 o)))) none
  | _, _ => none
def l14i : LoopC where
  f := 14
  id := 13
  lv := [0, 1, 6, 7, 8, 10]
  lx := [0, 1, 4, 5, 6, 7]
  p := { τ := [.v (.int .i64), .v (.sl 0)] ++ pu 4 ++ [.v (.sl 1), .v (.int .i64), .v (.sl 2)] ++ pu 1 ++ [.v (.c (i64 0))] ++ pu 57, saved := [[]], mem := [.row ksE false, .row [.int .i64] true, .row [.int .i64] true] }
  G := G14i
def l14 : LoopC where
  f := 14
  id := 7
  lv := [0, 1, 6, 7]
  lx := [4, 5, 6]
  p := { τ := [.v (.int .i64), .v (.sl 0)] ++ pu 4 ++ [.v (.sl 1), .v (.c (i64 0))] ++ pu 60, saved := [[]], mem := [.row ksE false, .row [.int .i64] true] }
  G := G14
noncomputable def C14 : Cx := mkCx Try.prog fns [(12, F11)] [l14, l14i]

theorem round14i (d : Nat) (R : St → Option (List D)) (K : X → St → Option (List D)) (n : Int) (nn len : Nat) (j : Int) (m : Nat) (k : Nat) (r o s : Row) :
    evCode C14 14 true (inl C14 (d + 4)) (lbody C14.P 14 13) (T14 n nn len j m k r o s) (rnd [0, 1, 6, 7, 8, 10] (some [0, 1, 4, 5, 6, 7]) R K) =
    br (decide ((k : Int) < n)) (br (decide (0 ≤ (k : Int)) && decide ((k : Int) < nn)) (br (decide (0 ≤ (k : Int)) && decide ((k : Int) < m)) (br (decide (0 ≤ (k : Int)) && decide ((k : Int) < nn))
      (R (T14 n nn len j m (IntKind.i64.wrap (k + 1)) r (add1 s k o) s)) none) none) none) (K (.exit 2) (S14 n nn len j r o)) := by kernel_rfl

theorem loop14i : LoopOk C14 l14i := ⟨by kernel_rfl, fun d its k rr h => by
  show rounds [0, 1, 6, 7, 8, 10] (some [0, 1, 4, 5, 6, 7]) (evCode C14 14 true (inl C14 (d + 4)) (lbody C14.P 14 13)) 18446744073709551616 (bst l14i.p its) k = some rr
  change G14i its k = some rr at h
  unfold G14i at h
  split at h
  · rename_i n len nn j m r o s
    rcases br_some h with ⟨h1, h2⟩ | ⟨_, h2⟩
    · simp only [Bool.and_eq_true, decide_eq_true_eq] at h1
      obtain ⟨⟨rfl, rfl⟩, h4⟩ := h1
      rw [← h2]
      have key := rounds_run (lv := [0, 1, 6, 7, 8, 10]) (lx := some [0, 1, 4, 5, 6, 7]) (f := evCode C14 14 true (inl C14 (d + 4)) (lbody C14.P 14 13)) (S := fun k o => T14 n n.toNat len j n.toNat k r o s) (len := n.toNat)
        (T := fun k o R _ => R (add1 s k o)) (E := fun o K => K (.exit 2) (S14 n n.toNat len j r o))
        (fun k hk o R K => by
          rw [round14i, wrap64 (by omega) (by omega), show (decide (0 ≤ (k : Int)) && decide ((k : Int) < (n.toNat : Int))) = true by simp; omega, show decide ((k : Int) < n) = true by simp; omega]
          rfl)
        (fun o R K => by
          rw [round14i, show decide (((n.toNat : Nat) : Int) < n) = false by simp; omega]
          rfl) (fun j o R R' K hR => by simp only [hR]) k n.toNat 0 o (by omega) 18446744073709551616 (by omega)
      have e : ∀ (w v : Nat) (o : Row), runL (fun k o R _ => R (add1 s k o)) (fun o (K : X → St → Option (List D)) => K (.exit 2) (S14 n n.toNat len j r o)) k w v o = k (.exit 2) (S14 n n.toNat len j r (adds s w v o)) := by
        intro w
        induction w with
        | zero => intro v o; rfl
        | succ w ih => intro v o; simp only [runL, adds]; exact ih _ _
      rw [e] at key
      exact key
    · cases h2
  · cases h⟩

theorem round14 (d : Nat) (R : St → Option (List D)) (K : X → St → Option (List D)) (n : Int) (nn len : Nat) (j : Nat) (r o : Row) :
    evCode C14 14 true (inl C14 (d + 4)) (lbody C14.P 14 7) (S14 n nn len j r o) (rnd [0, 1, 6, 7] (some [4, 5, 6]) R K) =
    br (decide ((j : Int) < len)) (br (decide (0 ≤ (j : Int)) && decide ((j : Int) < len)) (br (decide ((wr (r.R (0 + j) 2)).n ≤ 1000)) (br (failE n r j) (K .ret (S14r (sE n r j) nn o))
      (br (decide ((sR n r j).n = n.toNat) && decide (nn = n.toNat) && decide (n ≤ 1000)) (br (decide (0 ≤ (j : Int)) && decide ((j : Int) < len)) (br (inR nn (r.I (0 + j) 0)) (br (decide (0 ≤ (j : Int)) && decide ((j : Int) < len)) (br (inR nn (r.I (0 + j) 0))
        (R (S14 n nn len (IntKind.i64.wrap (j + 1)) r (less (r.I (0 + j) 0) (r.I (0 + j) 1) (adds (sR n r j) n.toNat 0 o)))) none) none) none) none) none)) none) none) (K (.exit 0) (S14x nn o)) := by kernel_rfl

theorem loop14 : LoopOk C14 l14 := ⟨by kernel_rfl, fun d its k rr h => by
  show rounds [0, 1, 6, 7] (some [4, 5, 6]) (evCode C14 14 true (inl C14 (d + 4)) (lbody C14.P 14 7)) 18446744073709551616 (bst l14.p its) k = some rr
  change G14 its k = some rr at h
  unfold G14 at h
  split at h
  · rename_i n len nn r o
    rcases br_some h with ⟨h1, h2⟩ | ⟨_, h2⟩
    · simp only [Bool.and_eq_true, decide_eq_true_eq, Bool.not_eq_true'] at h1
      obtain ⟨⟨h3, rfl⟩, hw⟩ := h1
      rw [anyF_false] at hw
      rw [← h2]
      have key := rounds_run (lv := [0, 1, 6, 7]) (lx := some [4, 5, 6]) (f := evCode C14 14 true (inl C14 (d + 4)) (lbody C14.P 14 7)) (S := fun j o => S14 n n.toNat len j r o) (len := len)
        (T := fun j o R K => br (failE n r j) (K .ret (S14r (sE n r j) n.toNat o)) (R (owStep n r j o))) (E := fun o K => K (.exit 0) (S14x n.toNat o))
        (fun j hj o R K => by
          have hw1 : (wr (r.R (0 + j) 2)).n ≤ 1000 := by
            have := hw j (by omega) (by omega)
            simp only [wide, decide_eq_false_iff_not] at this
            show (r.R (0 + j) 2).n ≤ 1000
            omega
          rw [round14, wrap64 (by omega) (by omega), show (decide (0 ≤ (j : Int)) && decide ((j : Int) < len)) = true by simp; omega, show decide ((j : Int) < (len : Int)) = true by simpa using hj, decide_eq_true hw1]
          rw [br_true, br_true, br_true]
          cases hf : failE n r j
          · obtain ⟨g1, g2, g3, g4⟩ := sE_zero hf
            rw [g1, g2, show (decide (n.toNat = n.toNat) && decide (n.toNat = n.toNat) && decide (n ≤ 1000)) = true by simp; omega]
            rfl
          · rfl)
        (fun o R K => by
          rw [round14, show decide ((len : Int) < (len : Int)) = false by simp]
          rfl) (fun j o R R' K hR => by simp only [hR]) k len 0 o (by omega) 18446744073709551616 (by omega)
      rw [runL_ows n r (fun e o (K : X → St → Option (List D)) => K .ret (S14r e n.toNat o)) _ k len 0 o] at key
      exact key
    · cases h2
  · cases h⟩

theorem C14_ok : CxOk C14 := mkCx_ok enter mixed (fun p h => by
  simp only [List.mem_singleton] at h
  subst h
  exact den12) (fun l h => by
  simp only [List.mem_cons, List.not_mem_nil, or_false] at h
  rcases h with rfl | rfl
  · exact loop14
  · exact loop14i)

theorem t14 (n : Int) (r : Row) : evF C14 6 14 [.v (i64 n), .slice ksE r] =
    br (decide (n ≥ 1)) (br (!decide (n ≤ 10)) (some [.slice [.int .i64] .nil, .v (i64 2)]) (br (decide ((r.n : Int) > 200)) (some [.slice [.int .i64] .nil, .v (i64 4)])
      (br (decide (0 ≤ n) && decide (n ≤ n) && decide (n ≤ 100000000000)) (br (decide (r.n ≤ 1000) && decide (n.toNat = n.toNat) && !anyF (wide r) r.n 0)
        (br (anyF (failE n r) r.n 0) (some [.slice [.int .i64] .nil, .v (i64 (fstE n r r.n 0))]) (some [.slice [.int .i64] (winOf (ows n r r.n 0 (.zeros n.toNat)) 0 n.toNat), .v (i64 0)])) none) none))) (some [.slice [.int .i64] .nil, .v (i64 2)]) := by kernel_rfl

theorem den14 : Den Try.prog 14 F13 := evF_den C14_ok fun ds rs h => by
  unfold F13 at h
  split at h
  · rename_i n r
    simp only [Option.some.injEq, Prod.mk.injEq, Bool.not_eq_true'] at h
    obtain ⟨hw, rfl⟩ := h
    refine (t14 n r).trans (Eq.trans ?_ (owed_tree n r hw fun o e => some [D.slice [.int .i64] o, D.v (i64 e)]))
    have e1 : decide (n < 1) = !decide (n ≥ 1) := by rw [Bool.eq_iff_iff]; simp only [Bool.not_eq_true', decide_eq_true_eq, decide_eq_false_iff_not]; omega
    have e2 : decide (n > 10) = !decide (n ≤ 10) := by rw [Bool.eq_iff_iff]; simp only [Bool.not_eq_true', decide_eq_true_eq, decide_eq_false_iff_not]; omega
    rw [e1, e2, show decide ((r.n : Int) = (r.n : Int)) = true by simp, Bool.true_and]
    cases decide (n ≥ 1) <;> rfl
  · cases h

/-! ### GreatExpenses -/
def lng (r : Row) (j : Nat) : Bool := decide (((r.R (0 + j) 2).n : Int) > 20)
def F10 : List D → Option (Bool × List D)
  | [.slice [.int .i64, .int .i64, .slice [.int .i64]] r] => some (decide (r.n ≤ big), [.v (.bool (anyF (lng r) r.n 0 || decide ((r.n : Int) > 210)))])
  | _ => none
def S10 (len : Nat) (j : Int) (r : Row) : St := { τ := [.slice (some ⟨0, 0, some 0⟩) len 0] ++ us 2 ++ [i64 j] ++ us 16, saved := [[]], mem := [some (.row ksE false r)] }
def S10r (len : Nat) (r : Row) : St := { τ := [.slice (some ⟨0, 0, some 0⟩) len 0] ++ us 1 ++ [.bool true] ++ us 17, saved := [[]], mem := [some (.row ksE false r)] }
def S10x (len : Nat) (r : Row) : St := { τ := [.slice (some ⟨0, 0, some 0⟩) len 0] ++ us 19, saved := [[]], mem := [some (.row ksE false r)] }
def G10 : List It → (X → St → Option (List D)) → Option (List D)
  | [.n len, .r r], k => br (decide (len ≤ big)) (br (anyF (lng r) len 0) (k .ret (S10r len r)) (k (.exit 0) (S10x len r))) none
  | _, _ => none
def l10 : LoopC where
  f := 10
  id := 2
  lv := [0, 3]
  lx := [0, 2]
  p := { τ := [.v (.sl 0)] ++ pu 2 ++ [.v (.c (i64 0))] ++ pu 16, saved := [[]], mem := [.row ksE false] }
  G := G10
noncomputable def C10 : Cx := mkCx Try.prog fns [] [l10]

theorem round10 (d : Nat) (R : St → Option (List D)) (K : X → St → Option (List D)) (len : Nat) (j : Nat) (r : Row) :
    evCode C10 10 true (inl C10 (d + 4)) (lbody C10.P 10 2) (S10 len j r) (rnd [0, 3] (some [0, 2]) R K) =
    br (decide ((j : Int) < len)) (br (decide (0 ≤ (j : Int)) && decide ((j : Int) < len)) (br (lng r j) (K .ret (S10r len r)) (R (S10 len (IntKind.i64.wrap (j + 1)) r))) none) (K (.exit 0) (S10x len r)) := by kernel_rfl

theorem loop10 : LoopOk C10 l10 := ⟨by kernel_rfl, fun d its k rr h => by
  show rounds [0, 3] (some [0, 2]) (evCode C10 10 true (inl C10 (d + 4)) (lbody C10.P 10 2)) 18446744073709551616 (bst l10.p its) k = some rr
  change G10 its k = some rr at h
  unfold G10 at h
  split at h
  · rename_i len r
    rcases br_some h with ⟨h1, h2⟩ | ⟨_, h2⟩
    · have h1 : len ≤ 9223372036854775807 := of_decide_eq_true h1
      rw [← h2]
      exact rounds_scan (S := fun j => S10 len j r) (len := len) (bad := lng r) (Kb := fun K => K .ret (S10r len r)) (Ke := fun K => K (.exit 0) (S10x len r))
        (fun j hj R K => by
          rw [round10, wrap64 (by omega) (by omega), show (decide (0 ≤ (j : Int)) && decide ((j : Int) < len)) = true by simp; omega, show decide ((j : Int) < (len : Int)) = true by simpa using hj]
          rfl)
        (fun R K => by
          rw [round10, show decide ((len : Int) < (len : Int)) = false by simp]
          rfl) k len 0 (by omega) _ (by omega)
    · cases h2
  · cases h⟩

theorem C10_ok : CxOk C10 := mkCx_ok enter mixed (fun p h => by cases h) (fun l h => by
  simp only [List.mem_singleton] at h
  subst h
  exact loop10)

theorem t10 (r : Row) : evF C10 6 10 [.slice ksE r] = br (decide (r.n ≤ big)) (br (anyF (lng r) r.n 0) (some [.v (.bool true)]) (some [.v (.bool (decide ((r.n : Int) > 210)))])) none := by kernel_rfl

theorem den10 : Den Try.prog 10 F10 := evF_den C10_ok fun ds rs h => by
  unfold F10 at h
  split at h
  · rename_i r
    simp only [Option.some.injEq, Prod.mk.injEq] at h
    obtain ⟨hb, rfl⟩ := h
    refine (t10 r).trans ?_
    rw [hb]
    cases anyF (lng r) r.n 0 <;> rfl
  · cases h
end Go.Proofs.Ytpblmkephkhlkaa

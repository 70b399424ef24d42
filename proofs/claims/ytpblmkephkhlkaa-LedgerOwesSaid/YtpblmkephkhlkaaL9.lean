/- Owed, of the program and of the reference. No conditions. -/
import Derived.Test.YtpblmkephkhlkaaL8
namespace Go.Proofs.Ytpblmkephkhlkaa
open Go.Ev

/-- The row that is handed to a callee. -/
def wr (r : Row) : Row := winOf r 0 r.n
def ksE : List CK := [.int .i64, .int .i64, .slice [.int .i64]]
def sE (n : Int) (r : Row) (j : Nat) : Int := shE n (r.I (0 + j) 0) (r.I (0 + j) 1) (wr (r.R (0 + j) 2))
def sR (n : Int) (r : Row) (j : Nat) : Row := shR n (r.I (0 + j) 0) (r.I (0 + j) 1) (wr (r.R (0 + j) 2))
def add1 (s : Row) (k : Nat) (o : Row) : Row := o.setI (0 + k) 0 (IntKind.i64.wrap (o.I (0 + k) 0 + s.I (0 + k) 0))
def adds (s : Row) : Nat → Nat → Row → Row
  | 0, _, o => o
  | q + 1, k, o => adds s q (k + 1) (add1 s k o)
def less (b c : Int) (o : Row) : Row := o.setI (0 + b.toNat) 0 (IntKind.i64.wrap (o.I (0 + b.toNat) 0 - c))
def owStep (n : Int) (r : Row) (j : Nat) (o : Row) : Row := less (r.I (0 + j) 0) (r.I (0 + j) 1) (adds (sR n r j) n.toNat 0 o)
def ows (n : Int) (r : Row) : Nat → Nat → Row → Row
  | 0, _, o => o
  | m + 1, j, o => ows n r m (j + 1) (owStep n r j o)
def fstE (n : Int) (r : Row) : Nat → Nat → Int
  | 0, _ => 0
  | m + 1, j => bif sE n r j != 0 then sE n r j else fstE n r m (j + 1)
def fstO (n : Int) (r : Row) : Nat → Nat → Row → Row
  | 0, _, o => o
  | m + 1, j, o => bif sE n r j != 0 then o else fstO n r m (j + 1) (owStep n r j o)
def wide (r : Row) (j : Nat) : Bool := decide ((r.R (0 + j) 2).n > 1000)
def failE (n : Int) (r : Row) (j : Nat) : Bool := sE n r j != 0

theorem runL_ows {A : Type} {κ : Type} (n : Int) (r : Row) (B : Int → Row → κ → Option A) (E : Row → κ → Option A) (K : κ) : ∀ (m j : Nat) (o : Row),
    runL (fun j o R K => br (failE n r j) (B (sE n r j) o K) (R (owStep n r j o))) E K m j o = br (anyF (failE n r) m j) (B (fstE n r m j) (fstO n r m j o) K) (E (ows n r m j o) K)
  | 0, _, _ => rfl
  | m + 1, j, o => by
    simp only [runL, anyF, fstE, fstO, ows]
    rw [runL_ows n r B E K m (j + 1)]
    unfold failE
    cases sE n r j != 0 <;> rfl

/-- A share that is no error: who paid is a party, and there is a share for each one. -/
theorem sE_zero {n : Int} {r : Row} {j : Nat} (h : failE n r j = false) : inR n.toNat (r.I (0 + j) 0) = true ∧ (sR n r j).n = n.toNat ∧ 1 ≤ n ∧ n ≤ 10 := by
  have h0 : sE n r j = 0 := by simpa [failE] using h
  have hs : shE n (r.I (0 + j) 0) (r.I (0 + j) 1) (wr (r.R (0 + j) 2)) = 0 := h0
  unfold sR shR
  rw [hs]
  unfold shE at hs
  cases hp : partiesB n
  · rw [hp] at hs; exact absurd (show (2 : Int) = 0 from hs) (by decide)
  · cases he : expB n (r.I (0 + j) 0) (r.I (0 + j) 1) (wr (r.R (0 + j) 2))
    · rw [hp, he] at hs; exact absurd (show (8 : Int) = 0 from hs) (by decide)
    · simp only [partiesB, Bool.and_eq_true, decide_eq_true_eq] at hp
      simp only [expB, isB, Bool.and_eq_true, decide_eq_true_eq] at he
      refine ⟨?_, rfl, hp⟩
      simp only [inR, Bool.and_eq_true, decide_eq_true_eq]
      omega

/-! ### ledger.Owed -/
def S13 (n : Int) (nn len : Nat) (l j : Int) (r o : Row) : St := { τ := [i64 n] ++ us 6 ++ [.slice (some ⟨0, 0, some 0⟩) nn 0] ++ us 16 ++ [.slice (some ⟨1, 0, some 0⟩) len 0, i64 l, i64 j] ++ us 38, saved := [[]], mem := [some (.row [.int .i64] true o), some (.row ksE false r)] }
def S13r (e : Int) (nn : Nat) (o : Row) : St := { τ := us 4 ++ [.slice none 0 0, i64 e] ++ us 1 ++ [.slice (some ⟨0, 0, some 0⟩) nn 0] ++ us 57, saved := [[]], mem := [some (.row [.int .i64] true o)] }
def S13x (nn : Nat) (o : Row) : St := { τ := us 7 ++ [.slice (some ⟨0, 0, some 0⟩) nn 0] ++ us 57, saved := [[]], mem := [some (.row [.int .i64] true o)] }
def T13 (n : Int) (nn len : Nat) (l j : Int) (m : Nat) (l2 k : Int) (b c : Int) (q : Nat) (r o s t : Row) : St :=
  { τ := [i64 n] ++ us 6 ++ [.slice (some ⟨0, 0, some 0⟩) nn 0] ++ us 1 ++ [.pointer (some ⟨1, 0, some 0⟩)] ++ us 14 ++ [.slice (some ⟨2, 0, some 0⟩) len 0, i64 l, i64 j] ++ us 12 ++ [.slice (some ⟨3, 0, some 0⟩) m 0, i64 l2, i64 k] ++ us 23, saved := [[]],
    mem := [some (.row [.int .i64] true o), some (.box [i64 b, i64 c, .slice (some ⟨4, 0, some 0⟩) q 0]), some (.row ksE false r), some (.row [.int .i64] true s), some (.row [.int .i64] false t)] }
def T13x (n : Int) (nn len : Nat) (l j : Int) (b c : Int) (q : Nat) (r o t : Row) : St :=
  { τ := [i64 n] ++ us 6 ++ [.slice (some ⟨0, 0, some 0⟩) nn 0] ++ us 1 ++ [.pointer (some ⟨1, 0, some 0⟩)] ++ us 14 ++ [.slice (some ⟨2, 0, some 0⟩) len 0, i64 l, i64 j] ++ us 38, saved := [[]],
    mem := [some (.row [.int .i64] true o), some (.box [i64 b, i64 c, .slice (some ⟨3, 0, some 0⟩) q 0]), some (.row ksE false r), some (.row [.int .i64] false t)] }
def G13i : List It → (X → St → Option (List D)) → Option (List D)
  | [.i n, .n nn, .n len, .i l, .i j, .n m, .i l2, .r o, .i b, .i c, .n q, .r r, .r s, .r t], k => br (decide (l2 = (m : Int)) && decide (m ≤ nn) && decide (m ≤ 1000)) (k (.exit 2) (T13x n nn len l j b c q r (adds s m 0 o) t)) none
  | _, _ => none
def G13 : List It → (X → St → Option (List D)) → Option (List D)
  | [.i n, .n nn, .n len, .i l, .r o, .r r], k => br (decide (l = (len : Int)) && decide (len ≤ 1000) && decide (nn = n.toNat) && !anyF (wide r) len 0) (br (anyF (failE n r) len 0) (k .ret (S13r (fstE n r len 0) nn (fstO n r len 0 o))) (k (.exit 0) (S13x nn (ows n r len 0 o)))) none
  | _, _ => none
def l13i : LoopC where
  f := 13
  id := 14
  lv := [0, 7, 9, 24, 25, 26, 39, 40, 41]
  lx := [0, 4, 5, 7, 9, 24, 25, 26]
  p := { τ := [.v (.int .i64)] ++ pu 6 ++ [.v (.sl 0)] ++ pu 1 ++ [.v (.c (.pointer (some ⟨1, 0, some 0⟩)))] ++ pu 14 ++ [.v (.sl 2), .v (.int .i64), .v (.int .i64)] ++ pu 12 ++ [.v (.sl 3), .v (.int .i64), .v (.c (i64 0))] ++ pu 23, saved := [[]],
         mem := [.row [.int .i64] true, .box [.v (.int .i64), .v (.int .i64), .v (.sl 4)], .row ksE false, .row [.int .i64] true, .row [.int .i64] false] }
  G := G13i
def l13 : LoopC where
  f := 13
  id := 8
  lv := [0, 7, 24, 25, 26]
  lx := [4, 5, 7]
  p := { τ := [.v (.int .i64)] ++ pu 6 ++ [.v (.sl 0)] ++ pu 16 ++ [.v (.sl 1), .v (.int .i64), .v (.c (i64 0))] ++ pu 38, saved := [[]], mem := [.row [.int .i64] true, .row ksE false] }
  G := G13
noncomputable def C13 : Cx := mkCx Try.prog fns [(11, F11)] [l13, l13i]

theorem round13i (d : Nat) (R : St → Option (List D)) (K : X → St → Option (List D)) (n : Int) (nn len : Nat) (l j : Int) (m : Nat) (l2 : Int) (k : Nat) (b c : Int) (q : Nat) (r o s t : Row) :
    evCode C13 13 true (inl C13 (d + 4)) (lbody C13.P 13 14) (T13 n nn len l j m l2 k b c q r o s t) (rnd [0, 7, 9, 24, 25, 26, 39, 40, 41] (some [0, 4, 5, 7, 9, 24, 25, 26]) R K) =
    br (decide ((k : Int) < l2)) (br (decide (0 ≤ (k : Int)) && decide ((k : Int) < m)) (br (decide (0 ≤ (k : Int)) && decide ((k : Int) < nn)) (br (decide (0 ≤ (k : Int)) && decide ((k : Int) < nn))
      (R (T13 n nn len l j m l2 (IntKind.i64.wrap (k + 1)) b c q r (add1 s k o) s t)) none) none) none) (K (.exit 2) (T13x n nn len l j b c q r o t)) := by kernel_rfl

theorem loop13i : LoopOk C13 l13i := ⟨by kernel_rfl, fun d its k rr h => by
  show rounds [0, 7, 9, 24, 25, 26, 39, 40, 41] (some [0, 4, 5, 7, 9, 24, 25, 26]) (evCode C13 13 true (inl C13 (d + 4)) (lbody C13.P 13 14)) 18446744073709551616 (bst l13i.p its) k = some rr
  change G13i its k = some rr at h
  unfold G13i at h
  split at h
  · rename_i n nn len l j m l2 o b c q r s t
    rcases br_some h with ⟨h1, h2⟩ | ⟨_, h2⟩
    · simp only [Bool.and_eq_true, decide_eq_true_eq] at h1
      obtain ⟨⟨rfl, h3⟩, h4⟩ := h1
      rw [← h2]
      have key := rounds_run (lv := [0, 7, 9, 24, 25, 26, 39, 40, 41]) (lx := some [0, 4, 5, 7, 9, 24, 25, 26]) (f := evCode C13 13 true (inl C13 (d + 4)) (lbody C13.P 13 14)) (S := fun k o => T13 n nn len l j m m k b c q r o s t) (len := m)
        (T := fun k o R _ => R (add1 s k o)) (E := fun o K => K (.exit 2) (T13x n nn len l j b c q r o t))
        (fun k hk o R K => by
          rw [round13i, wrap64 (by omega) (by omega), show (decide (0 ≤ (k : Int)) && decide ((k : Int) < m)) = true by simp; omega, show (decide (0 ≤ (k : Int)) && decide ((k : Int) < nn)) = true by simp; omega, show decide ((k : Int) < (m : Int)) = true by simpa using hk]
          rfl)
        (fun o R K => by
          rw [round13i, show decide ((m : Int) < (m : Int)) = false by simp]
          rfl) (fun j o R R' K hR => by simp only [hR]) k m 0 o (by omega) 18446744073709551616 (by omega)
      have e : ∀ (w v : Nat) (o : Row), runL (fun k o R _ => R (add1 s k o)) (fun o (K : X → St → Option (List D)) => K (.exit 2) (T13x n nn len l j b c q r o t)) k w v o = k (.exit 2) (T13x n nn len l j b c q r (adds s w v o) t) := by
        intro w
        induction w with
        | zero => intro v o; rfl
        | succ w ih => intro v o; simp only [runL, adds]; exact ih _ _
      rw [e] at key
      exact key
    · cases h2
  · cases h⟩

theorem round13 (d : Nat) (R : St → Option (List D)) (K : X → St → Option (List D)) (n : Int) (nn len : Nat) (l : Int) (j : Nat) (r o : Row) :
    evCode C13 13 true (inl C13 (d + 4)) (lbody C13.P 13 8) (S13 n nn len l j r o) (rnd [0, 7, 24, 25, 26] (some [4, 5, 7]) R K) =
    br (decide ((j : Int) < l)) (br (decide (0 ≤ (j : Int)) && decide ((j : Int) < len)) (br (decide ((wr (r.R (0 + j) 2)).n ≤ 1000)) (br (failE n r j) (K .ret (S13r (sE n r j) nn o))
      (br (decide (((sR n r j).n : Int) = ((sR n r j).n : Int)) && decide ((sR n r j).n ≤ nn) && decide ((sR n r j).n ≤ 1000)) (br (inR nn (r.I (0 + j) 0)) (br (inR nn (r.I (0 + j) 0))
        (R (S13 n nn len l (IntKind.i64.wrap (j + 1)) r (less (r.I (0 + j) 0) (r.I (0 + j) 1) (adds (sR n r j) (sR n r j).n 0 o)))) none) none) none)) none) none) (K (.exit 0) (S13x nn o)) := by kernel_rfl

theorem loop13 : LoopOk C13 l13 := ⟨by kernel_rfl, fun d its k rr h => by
  show rounds [0, 7, 24, 25, 26] (some [4, 5, 7]) (evCode C13 13 true (inl C13 (d + 4)) (lbody C13.P 13 8)) 18446744073709551616 (bst l13.p its) k = some rr
  change G13 its k = some rr at h
  unfold G13 at h
  split at h
  · rename_i n nn len l o r
    rcases br_some h with ⟨h1, h2⟩ | ⟨_, h2⟩
    · simp only [Bool.and_eq_true, decide_eq_true_eq, Bool.not_eq_true'] at h1
      obtain ⟨⟨⟨rfl, h3⟩, rfl⟩, hw⟩ := h1
      rw [anyF_false] at hw
      rw [← h2]
      have key := rounds_run (lv := [0, 7, 24, 25, 26]) (lx := some [4, 5, 7]) (f := evCode C13 13 true (inl C13 (d + 4)) (lbody C13.P 13 8)) (S := fun j o => S13 n n.toNat len len j r o) (len := len)
        (T := fun j o R K => br (failE n r j) (K .ret (S13r (sE n r j) n.toNat o)) (R (owStep n r j o))) (E := fun o K => K (.exit 0) (S13x n.toNat o))
        (fun j hj o R K => by
          have hw1 : (wr (r.R (0 + j) 2)).n ≤ 1000 := by
            have := hw j (by omega) (by omega)
            simp only [wide, decide_eq_false_iff_not] at this
            show (r.R (0 + j) 2).n ≤ 1000
            omega
          rw [round13, wrap64 (by omega) (by omega), show (decide (0 ≤ (j : Int)) && decide ((j : Int) < len)) = true by simp; omega, show decide ((j : Int) < (len : Int)) = true by simpa using hj, decide_eq_true hw1]
          rw [br_true, br_true, br_true]
          cases hf : failE n r j
          · obtain ⟨g1, g2, g3, g4⟩ := sE_zero hf
            rw [g1, g2, show (decide (((n.toNat : Nat) : Int) = ((n.toNat : Nat) : Int)) && decide (n.toNat ≤ n.toNat) && decide (n.toNat ≤ 1000)) = true by simp; omega]
            rfl
          · rfl)
        (fun o R K => by
          rw [round13, show decide ((len : Int) < (len : Int)) = false by simp]
          rfl) (fun j o R R' K hR => by simp only [hR]) k len 0 o (by omega) 18446744073709551616 (by omega)
      rw [runL_ows n r (fun e o (K : X → St → Option (List D)) => K .ret (S13r e n.toNat o)) _ k len 0 o] at key
      exact key
    · cases h2
  · cases h⟩

theorem C13_ok : CxOk C13 := mkCx_ok enter mixed (fun p h => by
  simp only [List.mem_singleton] at h
  subst h
  exact den11) (fun l h => by
  simp only [List.mem_cons, List.not_mem_nil, or_false] at h
  rcases h with rfl | rfl
  · exact loop13
  · exact loop13i)

/-- The error of what is owed, and what is owed. -/
def owE (n : Int) (r : Row) : Int := bif partiesB n then (bif decide ((r.n : Int) > 200) then 4 else fstE n r r.n 0) else 2
def owR (n : Int) (r : Row) : Row := bif owE n r != 0 then .nil else winOf (ows n r r.n 0 (.zeros n.toNat)) 0 n.toNat
def F13 : List D → Option (Bool × List D)
  | [.v (.int .i64 n), .slice [.int .i64, .int .i64, .slice [.int .i64]] r] => some (!anyF (wide r) r.n 0, [.slice [.int .i64] (owR n r), .v (i64 (owE n r))])
  | _ => none

theorem t13 (n : Int) (r : Row) : evF C13 6 13 [.v (i64 n), .slice ksE r] =
    br (decide (n < 1)) (some [.slice [.int .i64] .nil, .v (i64 2)]) (br (decide (n > 10)) (some [.slice [.int .i64] .nil, .v (i64 2)]) (br (decide ((r.n : Int) > 200)) (some [.slice [.int .i64] .nil, .v (i64 4)])
      (br (decide (0 ≤ n) && decide (n ≤ n) && decide (n ≤ 100000000000)) (br (decide ((r.n : Int) = (r.n : Int)) && decide (r.n ≤ 1000) && decide (n.toNat = n.toNat) && !anyF (wide r) r.n 0)
        (br (anyF (failE n r) r.n 0) (some [.slice [.int .i64] .nil, .v (i64 (fstE n r r.n 0))]) (some [.slice [.int .i64] (winOf (ows n r r.n 0 (.zeros n.toNat)) 0 n.toNat), .v (i64 0)])) none) none))) := by kernel_rfl

theorem fstE_zero {n : Int} {r : Row} : ∀ {m j : Nat}, anyF (failE n r) m j = (fstE n r m j != 0)
  | 0, _ => rfl
  | m + 1, j => by
    simp only [anyF, fstE, fstE_zero (m := m)]
    unfold failE
    cases h : sE n r j != 0
    · rfl
    · simp only [Bool.true_or, cond_true, h]

theorem owed_tree (n : Int) (r : Row) (hw : anyF (wide r) r.n 0 = false) {A : Type} (g : Row → Int → Option A) :
    br (decide (n < 1)) (g .nil 2) (br (decide (n > 10)) (g .nil 2) (br (decide ((r.n : Int) > 200)) (g .nil 4)
      (br (decide (0 ≤ n) && decide (n ≤ n) && decide (n ≤ 100000000000)) (br (decide ((r.n : Int) = (r.n : Int)) && decide (r.n ≤ 1000) && decide (n.toNat = n.toNat) && !anyF (wide r) r.n 0)
        (br (anyF (failE n r) r.n 0) (g .nil (fstE n r r.n 0)) (g (winOf (ows n r r.n 0 (.zeros n.toNat)) 0 n.toNat) 0)) none) none))) = g (owR n r) (owE n r) := by
  have e1 : decide (n < 1) = !decide (n ≥ 1) := by rw [Bool.eq_iff_iff]; simp only [Bool.not_eq_true', decide_eq_true_eq, decide_eq_false_iff_not]; omega
  have e2 : decide (n > 10) = !decide (n ≤ 10) := by rw [Bool.eq_iff_iff]; simp only [Bool.not_eq_true', decide_eq_true_eq, decide_eq_false_iff_not]; omega
  rw [e1, e2, hw, fstE_zero]
  unfold owR
  cases h1 : decide (n ≥ 1)
  · have : owE n r = 2 := by simp [owE, partiesB, h1]
    rw [this]; rfl
  · cases h2 : decide (n ≤ 10)
    · have : owE n r = 2 := by simp [owE, partiesB, h2]
      rw [this]; rfl
    · cases h3 : decide ((r.n : Int) > 200)
      · have : owE n r = fstE n r r.n 0 := by simp [owE, partiesB, h1, h2, h3]
        rw [this]
        simp only [decide_eq_true_eq, decide_eq_false_iff_not] at h1 h2 h3
        rw [show (decide (0 ≤ n) && decide (n ≤ n) && decide (n ≤ 100000000000)) = true by simp; omega, show (decide ((r.n : Int) = (r.n : Int)) && decide (r.n ≤ 1000) && decide (n.toNat = n.toNat) && !false) = true by simp; omega]
        cases h4 : fstE n r r.n 0 != 0
        · have h5 : fstE n r r.n 0 = 0 := by simpa using h4
          rw [h5]
          rfl
        · rfl
      · have : owE n r = 4 := by simp [owE, partiesB, h1, h2, h3]
        rw [this]; rfl

theorem den13 : Den Try.prog 13 F13 := evF_den C13_ok fun ds rs h => by
  unfold F13 at h
  split at h
  · rename_i n r
    simp only [Option.some.injEq, Prod.mk.injEq, Bool.not_eq_true'] at h
    obtain ⟨hw, rfl⟩ := h
    exact (t13 n r).trans (owed_tree n r hw fun o e => some [D.slice [.int .i64] o, D.v (i64 e)])
  · cases h
end Go.Proofs.Ytpblmkephkhlkaa

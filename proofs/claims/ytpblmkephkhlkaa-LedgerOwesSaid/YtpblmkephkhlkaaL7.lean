/- Shares, of the program and of the reference. No conditions. -/
import Derived.Test.YtpblmkephkhlkaaL6
namespace Go.Proofs.Ytpblmkephkhlkaa
open Go.Ev

/-- The share of the j-th of m. -/
def sh (c : Int) (m j : Nat) : Int := c / m + (if (j : Int) < c % m then 1 else 0)
/-- What is left before the j-th. -/
def lf (c : Int) (m j : Nat) : Int := c - (j * (c / m) + (if (j : Int) < c % m then (j : Int) else c % m))
def shStep (r : Row) (c : Int) (m j : Nat) (o : Row) : Row := o.setI (0 + (r.I (0 + j) 0).toNat) 0 (sh c m j)
def shs (r : Row) (c : Int) (m : Nat) : Nat → Nat → Row → Row
  | 0, _, o => o
  | q + 1, j, o => shs r c m q (j + 1) (shStep r c m j o)

theorem setI_self {o : Row} {e j : Nat} {x : Int} : (o.setI e j x).I e j = x := by simp [Row.setI, Row.I]
theorem setI_setI {o : Row} {e j : Nat} {x y : Int} : (o.setI e j x).setI e j y = o.setI e j y := by
  simp only [Row.setI, Row.I, Row.n, Row.B, Row.S, Row.R]
  congr 1
  funext e' j'
  cases (Nat.beq e' e && Nat.beq j' j) <;> rfl

theorem runL_shs {A : Type} {κ : Type} (n : Nat) (r : Row) (c : Int) (m : Nat) (E : Row → κ → Option A) (K : κ) : ∀ (q j : Nat) (o : Row), anyF (badE n r) q j = false →
    runL (fun j o R _ => br (inR n (r.I (0 + j) 0)) (R (shStep r c m j o)) none) E K q j o = E (shs r c m q j o) K
  | 0, _, _, _ => rfl
  | q + 1, j, o, h => by
    simp only [anyF, Bool.or_eq_false_iff] at h
    simp only [runL, shs]
    have : inR n (r.I (0 + j) 0) = true := by
      rw [Nat.zero_add]
      have := h.1
      simp only [badE, isB, Bool.or_eq_false_iff, Bool.not_eq_false', Bool.and_eq_true, decide_eq_true_eq] at this
      simp only [inR, Bool.and_eq_true, decide_eq_true_eq]
      omega
    rw [this]
    exact runL_shs n r c m E K q (j + 1) _ h.2

theorem div_facts {c : Int} {m j : Nat} (hc : 1 ≤ c) (hm : j < m) : 0 ≤ c / m ∧ c / m ≤ c ∧ 0 ≤ c % m ∧ c % m < m ∧ c = m * (c / m) + c % m ∧ (j : Int) * (c / m) ≤ m * (c / m) ∧ 0 ≤ (j : Int) * (c / m) := by
  have h1 : (0 : Int) < m := by omega
  have q0 : 0 ≤ c / m := Int.ediv_nonneg (by omega) (by omega)
  refine ⟨q0, Int.ediv_le_self _ (by omega), Int.emod_nonneg _ (by omega), Int.emod_lt_of_pos _ h1, (Int.mul_ediv_add_emod c m).symm, Int.mul_le_mul_of_nonneg_right (by omega) q0, Int.mul_nonneg (by omega) q0⟩

theorem lf_bounds {c : Int} {m j : Nat} (hc : 1 ≤ c) (hm : j < m) : 0 ≤ lf c m j ∧ lf c m j ≤ c := by
  obtain ⟨h1, h2, h3, h4, h5, h6, h7⟩ := div_facts hc hm
  unfold lf
  split <;> omega

theorem sh_bounds {c : Int} {m j : Nat} (hc : 1 ≤ c) (hm : j < m) : 0 ≤ sh c m j ∧ sh c m j ≤ c + 1 := by
  obtain ⟨h1, h2, h3, h4, h5, h6, h7⟩ := div_facts hc hm
  unfold sh
  split <;> omega

theorem sh_eq {c : Int} {m j : Nat} (hc : 1 ≤ c) (hm : j < m) : (lf c m j + ((m : Int) - j) - 1).tdiv ((m : Int) - j) = sh c m j := by
  obtain ⟨h1, h2, h3, h4, h5, h6, h7⟩ := div_facts hc hm
  obtain ⟨h8, h9⟩ := lf_bounds hc hm
  rw [Int.tdiv_eq_ediv_of_nonneg (by omega)]
  have hk : (0 : Int) < (m : Int) - j := by omega
  have e : lf c m j = ((m : Int) - j) * (c / m) + (if (j : Int) < c % m then c % m - j else 0) := by
    unfold lf
    rw [Int.sub_mul]
    split <;> omega
  rw [e]
  unfold sh
  split
  · rename_i h
    rw [show ((m : Int) - j) * (c / m) + (c % m - j) + ((m : Int) - j) - 1 = (c % m - j - 1) + ((m : Int) - j) * (c / m + 1) by rw [Int.mul_add]; omega, Int.add_mul_ediv_left _ _ (by omega), Int.ediv_eq_zero_of_lt (by omega) (by omega)]
    omega
  · rename_i h
    rw [show ((m : Int) - j) * (c / m) + 0 + ((m : Int) - j) - 1 = ((m : Int) - j - 1) + ((m : Int) - j) * (c / m) by omega, Int.add_mul_ediv_left _ _ (by omega), Int.ediv_eq_zero_of_lt (by omega) (by omega)]
    omega

theorem lf_step {c : Int} {m j : Nat} (hc : 1 ≤ c) (hm : j < m) : lf c m j - sh c m j = lf c m (j + 1) := by
  obtain ⟨h1, h2, h3, h4, h5, h6, h7⟩ := div_facts hc hm
  unfold lf sh
  rw [show (((j + 1 : Nat) : Int)) * (c / m) = j * (c / m) + c / m by rw [show ((j + 1 : Nat) : Int) = (j : Int) + 1 by omega, Int.add_mul]; omega]
  split <;> split <;> omega

/-! ### ledger.Shares -/
def mem11 (b c : Int) (len : Nat) (r o : Row) : List (Option Blk) := [some (.box [i64 b, i64 c, .slice (some ⟨2, 0, some 0⟩) len 0]), some (.row [.int .i64] true o), some (.row [.int .i64] false r)]
def pm11 : List PB := [.box [.v (.int .i64), .v (.int .i64), .v (.sl 2)], .row [.int .i64] true, .row [.int .i64] false]
def S11 (n len : Nat) (b c left l j : Int) (r o : Row) : St := { τ := us 3 ++ [.pointer (some ⟨0, 0, some 0⟩)] ++ us 3 ++ [.slice (some ⟨1, 0, some 0⟩) n 0, i64 left] ++ us 17 ++ [.slice (some ⟨2, 0, some 0⟩) len 0, i64 l, i64 j] ++ us 26, saved := [[]], mem := mem11 b c len r o }
def S11x (n : Nat) (o : Row) : St := { τ := us 7 ++ [.slice (some ⟨0, 0, some 0⟩) n 0] ++ us 47, saved := [[]], mem := [some (.row [.int .i64] true o)] }
def good11 (n len : Nat) (c : Int) (r : Row) : Bool := decide (len ≤ 1000) && decide (c ≥ 1) && decide (c ≤ 1000000000) && !anyF (badE (n : Int) r) len 0
def G11 : List It → (X → St → Option (List D)) → Option (List D)
  | [.n n, .i left, .n len, .i l, .i _, .i c, .n len2, .r o, .r r], k => br (decide (left = c) && decide (l = (len : Int)) && decide ((len : Int) = (len2 : Int)) && good11 n len c r) (k (.exit 0) (S11x n (shs r c len len 0 o))) none
  | _, _ => none
def l11 : LoopC where
  f := 11
  id := 9
  lv := [3, 7, 8, 26, 27, 28]
  lx := [4, 5, 7]
  p := { τ := pu 3 ++ [.v (.c (.pointer (some ⟨0, 0, some 0⟩)))] ++ pu 3 ++ [.v (.sl 1), .v (.int .i64)] ++ pu 17 ++ [.v (.sl 2), .v (.int .i64), .v (.c (i64 0))] ++ pu 26, saved := [[]], mem := pm11 }
  G := G11
noncomputable def C11 : Cx := mkCx Try.prog fns [(20, F20)] [l11]

theorem round11 (d : Nat) (R : St → Option (List D)) (K : X → St → Option (List D)) (n len : Nat) (b c left l : Int) (j : Nat) (r o : Row) :
    evCode C11 11 true (inl C11 (d + 4)) (lbody C11.P 11 9) (S11 n len b c left l j r o) (rnd [3, 7, 8, 26, 27, 28] (some [4, 5, 7]) R K) =
    br (decide ((j : Int) < l)) (br (decide (0 ≤ (j : Int)) && decide ((j : Int) < len)) (br (decide (IntKind.i64.wrap (len - j) = 0)) none (br (inR n (r.I (0 + j) 0)) (br (inR n (r.I (0 + j) 0))
      (R (S11 n len b c (IntKind.i64.wrap (left - (o.setI (0 + (r.I (0 + j) 0).toNat) 0 (IntKind.i64.wrap ((IntKind.i64.wrap (IntKind.i64.wrap (left + IntKind.i64.wrap (len - j)) - 1)).tdiv (IntKind.i64.wrap (len - j))))).I (0 + (r.I (0 + j) 0).toNat) 0))
        l (IntKind.i64.wrap (j + 1)) r (o.setI (0 + (r.I (0 + j) 0).toNat) 0 (IntKind.i64.wrap ((IntKind.i64.wrap (IntKind.i64.wrap (left + IntKind.i64.wrap (len - j)) - 1)).tdiv (IntKind.i64.wrap (len - j))))))) none) none)) none) (K (.exit 0) (S11x n o)) := by kernel_rfl

theorem loop11 : LoopOk C11 l11 := ⟨by kernel_rfl, fun d its k rr h => by
  show rounds [3, 7, 8, 26, 27, 28] (some [4, 5, 7]) (evCode C11 11 true (inl C11 (d + 4)) (lbody C11.P 11 9)) 18446744073709551616 (bst l11.p its) k = some rr
  change G11 its k = some rr at h
  unfold G11 at h
  split at h
  · rename_i n left len l b c len2 o r
    rcases br_some h with ⟨h1, h2⟩ | ⟨_, h2⟩
    · simp only [good11, Bool.and_eq_true, decide_eq_true_eq, Bool.not_eq_true'] at h1
      obtain ⟨⟨⟨rfl, rfl⟩, h3⟩, ⟨⟨h4, h5⟩, h6⟩, hb⟩ := h1
      obtain rfl : len = len2 := by omega
      rw [← h2]
      have key := rounds_run (lv := [3, 7, 8, 26, 27, 28]) (lx := some [4, 5, 7]) (f := evCode C11 11 true (inl C11 (d + 4)) (lbody C11.P 11 9)) (S := fun j o => S11 n len b left (lf left len j) len j r o) (len := len)
        (T := fun j o R _ => br (inR n (r.I (0 + j) 0)) (R (shStep r left len j o)) none) (E := fun o K => K (.exit 0) (S11x n o))
        (fun j hj o R K => by
          obtain ⟨b1, b2⟩ := lf_bounds h5 hj
          obtain ⟨b3, b4⟩ := sh_bounds h5 hj
          rw [round11, wrap64 (n := (j : Int) + 1) (by omega) (by omega), wrap64 (n := (len : Int) - j) (by omega) (by omega), wrap64 (n := lf left len j + ((len : Int) - j)) (by omega) (by omega), wrap64 (n := lf left len j + ((len : Int) - j) - 1) (by omega) (by omega),
            sh_eq h5 hj, wrap64 (n := sh left len j) (by omega) (by omega), setI_self, lf_step h5 hj]
          have b5 := lf_step h5 hj
          rw [wrap64 (n := lf left len (j + 1)) (by omega) (by omega), show decide ((len : Int) - j = 0) = false by simp; omega, show (decide (0 ≤ (j : Int)) && decide ((j : Int) < len)) = true by simp; omega, show decide ((j : Int) < (len : Int)) = true by simpa using hj]
          cases inR n (r.I (0 + j) 0) <;> rfl)
        (fun o R K => by
          rw [round11, show decide ((len : Int) < (len : Int)) = false by simp]
          rfl) (fun j o R R' K hR => by simp only [hR]) k len 0 o (by omega) 18446744073709551616 (by omega)
      rw [runL_shs n r left len _ k len 0 o hb] at key
      have e0 : lf left len 0 = left := by
        unfold lf
        have : 0 ≤ left % len := by
          cases len with
          | zero => simp; omega
          | succ q => exact Int.emod_nonneg _ (by omega)
        split <;> simp <;> omega
      have e1 : S11 n len b left (lf left len 0) len (0 : Nat) r o = bst l11.p [.n n, .i left, .n len, .i len, .i b, .i left, .n len, .r o, .r r] := by rw [e0]; rfl
      rw [e1] at key
      exact key
    · cases h2
  · cases h⟩

theorem C11_ok : CxOk C11 := mkCx_ok enter mixed (fun p h => by
  simp only [List.mem_singleton] at h
  subst h
  exact den20) (fun l h => by
  simp only [List.mem_singleton] at h
  subst h
  exact loop11)

/-- The error, and the shares. -/
def shE (n b c : Int) (r : Row) : Int := bif partiesB n then (bif expB n b c r then 0 else 8) else 2
def shR (n b c : Int) (r : Row) : Row := bif shE n b c r != 0 then .nil else winOf (shs r c r.n r.n 0 (.zeros n.toNat)) 0 n.toNat
def F11 : List D → Option (Bool × List D)
  | [.v (.int .i64 n), .agg [.v (.int .i64 b), .v (.int .i64 c), .slice [.int .i64] r]] => some (decide (r.n ≤ 1000), [.slice [.int .i64] (shR n b c r), .v (i64 (shE n b c r))])
  | _ => none
theorem t11 (n b c : Int) (r : Row) : evF C11 6 11 [.v (i64 n), ex b c r] =
    br (decide (n < 1)) (some [.slice [.int .i64] .nil, .v (i64 2)]) (br (decide (n > 10)) (some [.slice [.int .i64] .nil, .v (i64 2)]) (br (partiesB n && decide (r.n ≤ 1000)) (br (!expB n b c r) (some [.slice [.int .i64] .nil, .v (i64 8)])
      (br (decide (0 ≤ n) && decide (n ≤ n) && decide (n ≤ 100000000000)) (br (decide (c = c) && decide ((r.n : Int) = (r.n : Int)) && decide ((r.n : Int) = (r.n : Int)) && good11 n.toNat r.n c r)
        (some [.slice [.int .i64] (winOf (shs r c r.n r.n 0 (.zeros n.toNat)) 0 n.toNat), .v (i64 0)]) none) none)) none)) := by kernel_rfl

theorem exp_good {n b c : Int} {r : Row} (hp : partiesB n = true) (h : expB n b c r = true) (hr : r.n ≤ 1000) : good11 n.toNat r.n c r = true ∧ (decide (0 ≤ n) && decide (n ≤ n) && decide (n ≤ 100000000000)) = true ∧ 1 ≤ n ∧ n ≤ 10 := by
  simp only [partiesB, Bool.and_eq_true, decide_eq_true_eq] at hp
  simp only [expB, Bool.and_eq_true, decide_eq_true_eq, Bool.not_eq_true'] at h
  obtain ⟨⟨⟨⟨h1, h2⟩, h3⟩, h4⟩, h5⟩ := h
  refine ⟨?_, by simp; omega, hp⟩
  simp only [good11, Bool.and_eq_true, decide_eq_true_eq, Bool.not_eq_true']
  rw [show ((n.toNat : Nat) : Int) = n by omega]
  exact ⟨⟨⟨hr, h2⟩, h3⟩, h5⟩

theorem den11 : Den Try.prog 11 F11 := evF_den C11_ok fun ds rs h => by
  unfold F11 at h
  split at h
  · rename_i n b c r
    simp only [Option.some.injEq, Prod.mk.injEq, decide_eq_true_eq] at h
    obtain ⟨hr, rfl⟩ := h
    refine (t11 n b c r).trans ?_
    have e1 : decide (n < 1) = !decide (n ≥ 1) := by rw [Bool.eq_iff_iff]; simp only [Bool.not_eq_true', decide_eq_true_eq, decide_eq_false_iff_not]; omega
    have e2 : decide (n > 10) = !decide (n ≤ 10) := by rw [Bool.eq_iff_iff]; simp only [Bool.not_eq_true', decide_eq_true_eq, decide_eq_false_iff_not]; omega
    rw [e1, e2]
    cases hp : partiesB n
    · have e3 : shE n b c r = 2 := by simp [shE, hp]
      unfold shR
      rw [e3]
      unfold partiesB at hp
      cases h1 : decide (n ≥ 1)
      · rfl
      · cases h2 : decide (n ≤ 10)
        · rfl
        · simp [h1, h2] at hp
    · have hp' := hp
      unfold partiesB at hp'
      simp only [Bool.and_eq_true] at hp'
      rw [hp'.1, hp'.2, show decide (r.n ≤ 1000) = true by simpa using hr]
      cases he : expB n b c r
      · have e3 : shE n b c r = 8 := by simp [shE, hp, he]
        unfold shR
        rw [e3]
        rfl
      · have e3 : shE n b c r = 0 := by simp [shE, hp, he]
        obtain ⟨g1, g2, _⟩ := exp_good hp he hr
        unfold shR
        rw [e3, g1, g2, show (decide (c = c) && decide ((r.n : Int) = (r.n : Int)) && decide ((r.n : Int) = (r.n : Int)) && true) = true by simp]
        rfl
  · cases h
end Go.Proofs.Ytpblmkephkhlkaa

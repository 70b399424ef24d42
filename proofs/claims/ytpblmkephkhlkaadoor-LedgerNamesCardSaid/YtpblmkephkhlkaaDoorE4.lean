/- Package ledger: the most groups of all sets of parties: contract. No conditions. -/
import Derived.Test.YtpblmkephkhlkaaDoorE3
namespace Go.Proofs.YtpblmkephkhlkaaDoor
open Go.Ev
set_option linter.all false
def in11 (nb N M : Nat) (s low g : Int) : Bool := decide (0 ≤ s ∧ s < N ∧ N = M ∧ N = 2 ^ nb ∧ nb ≤ 62 ∧ 0 ≤ low ∧ low ≤ 62 ∧ g = s)
def in3 (nb N M : Nat) : Bool := decide (N = 2 ^ nb ∧ N = M ∧ nb ≤ 62)
noncomputable def C1 : Cx := C1g in11 in3
theorem go11 {f : St → (X → St → Option (List D)) → Option (List D)} {lv : List Tmp} {lx : Option (List Tmp)} {nb N s low : Nat} {b sm : Row}
    (hr : ∀ (g : Int) (ou : Row) R K, f (S11 nb N N s low g b sm ou) (rnd lv lx R K) =
      br (decide (g > 0)) (br (decide ((low : Int) < 0)) none (br (bAnd (bShr g low) 1 == 1) (br (g != s) (br (decide (0 ≤ g) && decide (g < (N : Int))) (br (sm.I (0 + g.toNat) 0 == 0) (br (decide (0 ≤ (s : Int)) && decide ((s : Int) < (N : Int))) (br (decide (0 ≤ bXor s g) && decide (bXor s g < (N : Int))) (br (decide (0 ≤ (s : Int)) && decide ((s : Int) < (N : Int)))
        (R (S11 nb N N s low (bAnd (wi (g - 1)) s) b sm (ou.setI (0 + (s : Int).toNat) 0 (if wi (1 + ou.I (0 + (bXor s g).toNat) 0) > ou.I (0 + (s : Int).toNat) 0 then wi (1 + ou.I (0 + (bXor s g).toNat) 0) else ou.I (0 + (s : Int).toNat) 0)))) none) none) none)
        (R (S11 nb N N s low (bAnd (wi (g - 1)) s) b sm ou))) none) (R (S11 nb N N s low (bAnd (wi (g - 1)) s) b sm ou))) (R (S11 nb N N s low (bAnd (wi (g - 1)) s) b sm ou)))) (K (.exit 2) (S11x nb N N s b sm ou)))
    (hN : N = 2 ^ nb) (hb : nb ≤ 62) (hs : s < N) (hl : low ≤ 62) (K : X → St → Option (List D)) :
    ∀ (n fu g : Nat) (ou : Row), g &&& s = g → g < n → n ≤ fu → rounds lv lx f fu (S11 nb N N s low g b sm ou) K = K (.exit 2) (S11x nb N N s b sm (innR sm s low n g ou))
  | n + 1, fu + 1, g, ou, h0, h1, h2 => by
    have hgs : g ≤ s := by have : g &&& s ≤ s := Nat.and_le_right; omega
    have hNN : N ≤ 4611686018427387904 := by
      have : 2 ^ nb ≤ 2 ^ 62 := Nat.pow_le_pow_right (by decide) hb
      omega
    rw [rnds1, hr]
    unfold innR
    by_cases hg : g = 0
    · rw [if_pos hg, decide_eq_false (show ¬ (g : Int) > 0 by omega), br_false]
    · rw [if_neg hg, decide_eq_true (show (g : Int) > 0 by omega), br_true, decide_eq_false (show ¬ (low : Int) < 0 by omega), br_false, bit_iff g low (by omega) (by omega)]
      have hx : s ^^^ g < N := by rw [hN]; exact Nat.xor_lt_two_pow (by omega) (by omega)
      have hnext : bAnd (wi ((g : Int) - 1)) (s : Int) = (((g - 1) &&& s : Nat) : Int) := by
        rw [wiN (by omega) (by omega), show (g : Int) - 1 = ((g - 1 : Nat) : Int) by omega]
        exact bAndN _ _ (by omega) (by omega)
      have hle : (g - 1) &&& s ≤ g - 1 := Nat.and_le_left
      have hsub : ((g - 1) &&& s) &&& s = (g - 1) &&& s := by rw [Nat.and_assoc, Nat.and_self]
      have ih := fun ou' => go11 hr hN hb hs hl K n fu ((g - 1) &&& s) ou' hsub (by omega) (by omega)
      rw [hnext, bXorN s g (by omega) (by omega), Int.toNat_natCast, Int.toNat_natCast, Int.toNat_natCast, Nat.zero_add, Nat.zero_add, Nat.zero_add]
      unfold inU
      cases hbit : g.testBit low
      · rw [br_false, if_neg (fun h => by cases h.1)]
        exact ih ou
      · rw [br_true]
        by_cases hgs' : g = s
        · rw [show ((g : Int) != (s : Int)) = false by rw [hgs']; simp, br_false, if_neg (show ¬ (true = true ∧ g ≠ s ∧ sm.I g 0 = 0) from fun h => h.2.1 hgs')]
          exact ih ou
        · rw [show ((g : Int) != (s : Int)) = true from bne_iff_ne.mpr (by omega), br_true, show (decide (0 ≤ (g : Int)) && decide ((g : Int) < (N : Int))) = true by simp only [Bool.and_eq_true, decide_eq_true_eq]; omega, br_true]
          by_cases hz : sm.I g 0 = 0
          · rw [show (sm.I g 0 == 0) = true by simpa using hz, br_true, show (decide (0 ≤ (s : Int)) && decide ((s : Int) < (N : Int))) = true by simp only [Bool.and_eq_true, decide_eq_true_eq]; omega, br_true,
              show (decide (0 ≤ ((s ^^^ g : Nat) : Int)) && decide (((s ^^^ g : Nat) : Int) < (N : Int))) = true by simp only [Bool.and_eq_true, decide_eq_true_eq]; omega, br_true, br_true, if_pos (show true = true ∧ g ≠ s ∧ sm.I g 0 = 0 from ⟨rfl, hgs', hz⟩)]
            exact ih _
          · rw [show (sm.I g 0 == 0) = false by simpa using hz, br_false, if_neg (show ¬ (true = true ∧ g ≠ s ∧ sm.I g 0 = 0) from fun h => hz h.2.2)]
            exact ih ou
set_option maxRecDepth 100000 in
theorem loop11 : LoopOk C1 (l11 in11) := ⟨by kernel_rfl, fun q its k rr h => by
  show rounds [0, 3, 4, 5, 6, 7] (some [0, 2, 3, 4, 5]) (evCode C1 29 true (inl C1 (q + 4)) (lbody C1.P 29 11)) 18446744073709551616 (bst (l11 in11).p its) k = some rr
  change G11 in11 its k = some rr at h
  unfold G11 at h
  split at h
  · rename_i nb N M s low g b sm ou
    rcases br_some h with ⟨h1, h2⟩ | ⟨_, h2⟩
    · obtain ⟨k1, k2, k3, k4, k5, k6, k7, k8⟩ := of_decide_eq_true h1
      obtain ⟨s, rfl⟩ := Int.eq_ofNat_of_zero_le k1
      obtain ⟨low, rfl⟩ := Int.eq_ofNat_of_zero_le k6
      subst k3
      subst k8
      rw [← h2, Int.toNat_natCast, Int.toNat_natCast]
      have hp : 2 ^ nb ≤ 2 ^ 62 := Nat.pow_le_pow_right (by decide) k5
      exact go11 (fun g ou R K => round11 in11 in3 R K q nb N N s low g b sm ou) k4 k5 (by omega) (by omega) k (s + 1) 18446744073709551616 s ou (Nat.and_self s) (by omega) (by omega)
    · cases h2
  · cases h⟩
theorem ctz_lt (s nb : Nat) (h0 : 0 < s) (h1 : s < 2 ^ nb) (h2 : nb ≤ 62) : ctzN s < nb := by
  have hp : 2 ^ nb ≤ 2 ^ 62 := Nat.pow_le_pow_right (by decide) h2
  obtain ⟨hlow, hk⟩ := Lib.lowest_bit 64 s (by omega) (by omega)
  have : s &&& (2 ^ 64 - s) ≤ s := Nat.and_le_left
  rw [hlow] at this
  unfold ctzN
  exact (Nat.pow_lt_pow_iff_right (by decide)).1 (Nat.lt_of_le_of_lt this h1)
theorem tzUN (s : Nat) (h : s < 9223372036854775808) : tzU (s : Int) = (ctzN s : Int) := by
  unfold tzU ctzI ctzN
  rw [show IntKind.u64.wrap (s : Int) = s from wrap_id (by simp [Lit.wf, IntKind.min, IntKind.max, IntKind.signed, IntKind.bits]; omega), Int.toNat_natCast]
theorem go3 {f : St → (X → St → Option (List D)) → Option (List D)} {lv : List Tmp} {lx : Option (List Tmp)} {nb N : Nat} {b : Row}
    (hr : ∀ (s : Int) (sm ou : Row) R K, f (S3 nb N N s b sm ou) (rnd lv lx R K) =
      br (decide (s < (N : Int))) (br (decide (0 < IntKind.u64.wrap s) && decide (IntKind.u64.wrap s < 18446744073709551616)) (br (decide (0 ≤ bAnd s (wi (s - 1))) && decide (bAnd s (wi (s - 1)) < (N : Int))) (br (decide (0 ≤ tzU s) && decide (tzU s < (nb : Int))) (br (decide (0 ≤ s) && decide (s < (N : Int))) (br (decide (0 ≤ s) && decide (s < (N : Int))) (br (decide (0 ≤ s) && decide (s < (N : Int)))
        (br ((sm.setI (0 + s.toNat) 0 (wi (sm.I (0 + (bAnd s (wi (s - 1))).toNat) 0 + b.I (0 + (tzU s).toNat) 0))).I (0 + s.toNat) 0 != 0)
          (R (S3 nb N N (wi (s + 1)) b (sm.setI (0 + s.toNat) 0 (wi (sm.I (0 + (bAnd s (wi (s - 1))).toNat) 0 + b.I (0 + (tzU s).toNat) 0))) (ou.setI (0 + s.toNat) 0 (-1))))
          (br (decide (0 ≤ s) && decide (s < (N : Int))) (br (in11 nb N N s (tzU s) s)
            (R (S3 nb N N (wi (s + 1)) b (sm.setI (0 + s.toNat) 0 (wi (sm.I (0 + (bAnd s (wi (s - 1))).toNat) 0 + b.I (0 + (tzU s).toNat) 0))) (innR (sm.setI (0 + s.toNat) 0 (wi (sm.I (0 + (bAnd s (wi (s - 1))).toNat) 0 + b.I (0 + (tzU s).toNat) 0))) s.toNat (tzU s).toNat (s.toNat + 1) s.toNat ((ou.setI (0 + s.toNat) 0 (-1)).setI (0 + s.toNat) 0 1)))) none) none)) none) none) none) none) none) none) (K (.exit 0) (S3x N ou)))
    (hN : N = 2 ^ nb) (hb : nb ≤ 62) (K : X → St → Option (List D)) :
    ∀ (m fu s : Nat) (sm ou : Row), s + m = N → 0 < s → m < fu → rounds lv lx f fu (S3 nb N N s b sm ou) K = K (.exit 0) (S3x N (mstR b m s sm ou))
  | 0, fu + 1, s, sm, ou, h0, h1, h2 => by
    rw [rnds1, hr, decide_eq_false (show ¬ (s : Int) < (N : Int) by omega), br_false]
    rfl
  | m + 1, fu + 1, s, sm, ou, h0, h1, h2 => by
    have hNN : N ≤ 4611686018427387904 := by
      have : 2 ^ nb ≤ 2 ^ 62 := Nat.pow_le_pow_right (by decide) hb
      omega
    have hctz := ctz_lt s nb h1 (by omega) hb
    have hw : IntKind.u64.wrap (s : Int) = s := wrap_id (by simp [Lit.wf, IntKind.min, IntKind.max, IntKind.signed, IntKind.bits]; omega)
    have hand : bAnd (s : Int) (wi ((s : Int) - 1)) = ((s &&& (s - 1) : Nat) : Int) := by
      rw [wiN (by omega) (by omega), show (s : Int) - 1 = ((s - 1 : Nat) : Int) by omega]
      exact bAndN _ _ (by omega) (by omega)
    have hle : s &&& (s - 1) ≤ s - 1 := Nat.and_le_right
    have ih := go3 hr hN hb K m fu (s + 1) (smU b s sm) (ouU b s sm ou) (by omega) (by omega) (by omega)
    have hin : in11 nb N N s (ctzN s : Int) s = true := decide_eq_true ⟨by omega, by omega, rfl, hN, hb, by omega, by omega, rfl⟩
    have hs : (decide (0 ≤ (s : Int)) && decide ((s : Int) < (N : Int))) = true := by simp only [Bool.and_eq_true, decide_eq_true_eq]; omega
    rw [rnds1, hr, hw, hand, tzUN s (by omega), hin, hs, wiN (n := (s : Int) + 1) (by omega) (by omega), show (s : Int) + 1 = ((s + 1 : Nat) : Int) by omega, decide_eq_true (show (s : Int) < (N : Int) by omega),
      show (decide (0 < (s : Int)) && decide ((s : Int) < 18446744073709551616)) = true by simp only [Bool.and_eq_true, decide_eq_true_eq]; omega,
      show (decide (0 ≤ ((s &&& (s - 1) : Nat) : Int)) && decide (((s &&& (s - 1) : Nat) : Int) < (N : Int))) = true by simp only [Bool.and_eq_true, decide_eq_true_eq]; omega,
      show (decide (0 ≤ (ctzN s : Int)) && decide ((ctzN s : Int) < (nb : Int))) = true by simp only [Bool.and_eq_true, decide_eq_true_eq]; omega]
    rw [br_true, br_true, br_true, br_true, br_true, br_true, br_true, br_true, br_true, Int.toNat_natCast, Int.toNat_natCast, Int.toNat_natCast, Nat.zero_add, Nat.zero_add, Nat.zero_add]
    unfold mstR
    rw [← ih]
    unfold ouU
    by_cases hz : (smU b s sm).I s 0 = 0
    · rw [if_neg (fun h => h hz), show ((sm.setI s 0 (wi (sm.I (s &&& (s - 1)) 0 + b.I (ctzN s) 0))).I s 0 != 0) = false by rw [show (sm.setI s 0 (wi (sm.I (s &&& (s - 1)) 0 + b.I (ctzN s) 0))).I s 0 = 0 from hz]; rfl, br_false]
      rfl
    · rw [if_pos hz, show ((sm.setI s 0 (wi (sm.I (s &&& (s - 1)) 0 + b.I (ctzN s) 0))).I s 0 != 0) = true from bne_iff_ne.mpr hz, br_true]
      rfl
set_option maxRecDepth 100000 in
theorem loop3 : LoopOk C1 (l3 in3) := ⟨by kernel_rfl, fun q its k rr h => by
  show rounds [0, 3, 4, 5] (some [2, 4]) (evCode C1 29 true (inl C1 (q + 4)) (lbody C1.P 29 3)) 18446744073709551616 (bst (l3 in3).p its) k = some rr
  change G3 in3 its k = some rr at h
  unfold G3 at h
  split at h
  · rename_i nb N M b sm ou
    rcases br_some h with ⟨h1, h2⟩ | ⟨_, h2⟩
    · obtain ⟨k1, k2, k3⟩ := of_decide_eq_true h1
      subst k2
      rw [← h2]
      have hp : 2 ^ nb ≤ 2 ^ 62 := Nat.pow_le_pow_right (by decide) k3
      have h0 : 0 < 2 ^ nb := Nat.two_pow_pos nb
      exact go3 (fun s sm ou R K => round3 in11 in3 R K q nb N N s b sm ou) k1 k3 k (N - 1) 18446744073709551616 1 sm ou (by omega) (by omega) (by omega)
    · cases h2
  · cases h⟩
theorem C1_ok : CxW C1 Wt := mkCx_okW enter mixed (fun p h => by
  simp only [List.mem_cons, List.not_mem_nil, or_false] at h
  rcases h with rfl
  exact den_tz) (fun l h => by
  simp only [List.mem_cons, List.not_mem_nil, or_false] at h
  rcases h with rfl | rfl
  · exact loop11
  · exact loop3)
def nSz (b : Row) : Nat := (wi (1 * 2 ^ min (b.n : Int).toNat 64)).toNat
theorem tmost (c1 : Nat → Nat → Nat → Int → Int → Int → Bool) (c2 : Nat → Nat → Nat → Bool) (b : Row) : evF (C1g c1 c2) 6 29 [.slice ks1 b] =
    br (decide (0 ≤ wi (1 * 2 ^ min (b.n : Int).toNat 64)) && decide (wi (1 * 2 ^ min (b.n : Int).toNat 64) ≤ wi (1 * 2 ^ min (b.n : Int).toNat 64)) && decide (wi (1 * 2 ^ min (b.n : Int).toNat 64) ≤ 100000000000))
      (br (decide (0 ≤ wi (1 * 2 ^ min (b.n : Int).toNat 64)) && decide (wi (1 * 2 ^ min (b.n : Int).toNat 64) ≤ wi (1 * 2 ^ min (b.n : Int).toNat 64)) && decide (wi (1 * 2 ^ min (b.n : Int).toNat 64) ≤ 100000000000))
        (br (c2 b.n (nSz b) (nSz b)) (some [.slice ks1 (winOf (mstR b (nSz b - 1) 1 (Row.zeros (nSz b)) (Row.zeros (nSz b))) 0 (nSz b))]) none) none) none := by kernel_rfl
/-- The most groups, for all sets. -/
def mostR (b : Row) : Row := winOf (mstR b (2 ^ b.n - 1) 1 (Row.zeros (2 ^ b.n)) (Row.zeros (2 ^ b.n))) 0 (2 ^ b.n)
def Fmost : List D → Option (Bool × List D)
  | [.slice [.int .i64] b] => some (decide (b.n ≤ 20), [.slice ks1 (mostR b)])
  | _ => none
theorem nSz_eq {b : Row} (h : b.n ≤ 20) : wi (1 * 2 ^ min (b.n : Int).toNat 64) = ((2 ^ b.n : Nat) : Int) := by
  have hp : 2 ^ b.n ≤ 2 ^ 20 := Nat.pow_le_pow_right (by decide) h
  rw [Int.toNat_natCast, Nat.min_eq_left (by omega), Int.one_mul, show (2 : Int) ^ b.n = ((2 ^ b.n : Nat) : Int) by rw [Int.natCast_pow]; rfl]
  generalize 2 ^ b.n = N at hp ⊢
  exact wiN (by omega) (by omega)
theorem den_most : DenW Tryd.prog Wt 29 Fmost := evF_denW C1_ok fun ds rs h => by
  unfold Fmost at h
  split at h
  · rename_i b
    simp only [Option.some.injEq, Prod.mk.injEq, decide_eq_true_eq] at h
    obtain ⟨h0, rfl⟩ := h
    refine (tmost in11 in3 b).trans ?_
    have e := nSz_eq h0
    have hp : 2 ^ b.n ≤ 2 ^ 20 := Nat.pow_le_pow_right (by decide) h0
    unfold nSz
    have hc : ∀ N : Nat, N ≤ 2 ^ 20 → (decide (0 ≤ (N : Int)) && decide ((N : Int) ≤ (N : Int)) && decide ((N : Int) ≤ 100000000000)) = true := fun N hN => by simp only [Bool.and_eq_true, decide_eq_true_eq]; omega
    rw [e, Int.toNat_natCast, hc _ hp, br_true, br_true,
      show in3 b.n (2 ^ b.n) (2 ^ b.n) = true from decide_eq_true ⟨rfl, rfl, by omega⟩, br_true]
    rfl
  · cases h
end Go.Proofs.YtpblmkephkhlkaaDoor

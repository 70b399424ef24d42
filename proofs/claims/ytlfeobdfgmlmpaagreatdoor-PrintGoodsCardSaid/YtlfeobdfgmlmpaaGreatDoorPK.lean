/- Texts K1 K3 K4 K5 K6 K7 K8 K9 K18 K19 K20 in one. No conditions. -/
import Derived.Shelf.Spec.TrailingZeros
import Derived.WalkKit
import Derived.Test.YtlfeobdfgmlmpaaGreatDoorPA
/- Package ledger, tied cards: the table of math/bits, the number of zeros at a number's end. No conditions. -/
namespace Go.Proofs.YtlfeobdfgmlmpaaGreatDoor.Ld
open Go.Ev Go.RowKit
set_option linter.all false
/-- The table lies as its text lays it. -/
def Wt (w : World) : Prop := TabAt 1 Lib.deBruijn64tab w ∧ 1 < w.heap.size
theorem Wt.later {w w' : World} (h : Wt w) (hb : Below w.heap.size w w') : Wt w' := ⟨fun j hj => by rw [hb.cell (p := ⟨1, j, none⟩) h.2]; exact h.1 j hj, Nat.lt_of_lt_of_le h.2 hb.size⟩
set_option maxHeartbeats 1000000 in
theorem tz_core (x k idx : Nat) (w : World) (hx0 : ((x : Int) == 0) = false)
    (key : IntKind.u64.wrap (bits BinOp.and IntKind.u64 (x : Int) (IntKind.u64.wrap (-(x : Int))) * 285870213051353865) / 288230376151711744 = (idx : Int))
    (hi : idx < 64) (hk : k < 64) (hcell : w.cell? ⟨1, idx, none⟩ = some (.int .u8 k)) :
    Calls Tryz.prog 86 #[.int .u64 x] w fun e w' => e = .returned (.int .i64 k) ∧ w' = w := by
  go_enter Tryz.func86, Tryz.ntmps86
  go_wp2_with (simp only [key])
  go_ret
  exact ⟨rfl, rfl⟩
def u64 (n : Int) : Value := .int .u64 n
/-- How many zeros stand at a number's end. -/
def ctzI (x : Int) : Int := (Lib.ctz 64 x.toNat : Int)
def Ftz : List D → Option (Bool × List D)
  | [.v (.int .u64 x)] => some (decide (0 < x) && decide (x < 18446744073709551616), [.v (i64 (ctzI x))])
  | _ => none
theorem den_tz : DenW Tryz.prog Wt 86 Ftz := denW_of_calls (fun _ _ h hb => h.later hb) fun ds rs h => by
  unfold Ftz at h
  split at h
  · rename_i x
    simp only [Option.some.injEq, Prod.mk.injEq, Bool.and_eq_true, decide_eq_true_eq] at h
    obtain ⟨⟨h0, h1⟩, rfl⟩ := h
    refine ⟨[.int .u64 x], [i64 (ctzI x)], rfl, rfl, fun y hy => ?_, fun y hy => ?_, fun w hw => ?_⟩
    · rw [List.mem_singleton.1 hy]; rfl
    · rw [List.mem_singleton.1 hy]; rfl
    · obtain ⟨x, rfl⟩ := Int.eq_ofNat_of_zero_le (Int.le_of_lt h0)
      obtain ⟨hlow, hk⟩ := Lib.lowest_bit 64 x (by omega) (by omega)
      obtain ⟨hi, htab⟩ := Lib.deBruijn64_at _ hk
      have hcell := hw.1 _ hi
      rw [htab] at hcell
      have := tz_core x _ _ w (by simp; omega) (tz64_key x _ (by omega) (by omega) hlow) hi hk hcell
      exact this
  · cases h
noncomputable def C0 : Cx := mkCx Tryz.prog fns [] []
theorem C0_ok : CxOk C0 := mkCx_ok enter mixed (fun p h => by cases h) (fun l h => by cases h)
def ks1 : List CK := [.int .i64]
end Go.Proofs.YtlfeobdfgmlmpaaGreatDoor.Ld
/- Package ledger: the most groups of a set of parties: the loop over the sets within a set. No conditions. -/
namespace Go.Proofs.YtlfeobdfgmlmpaaGreatDoor.Ld
open Go.Ev
set_option linter.all false
def sl (i n : Nat) : Value := .slice (some ⟨i, 0, some 0⟩) n 0
def Rb (own : Bool) (r : Row) : Option Blk := some (.row [.int .i64] own r)
def wi (n : Int) : Int := IntKind.i64.wrap n
def bAnd (a b : Int) : Int := IntKind.i64.wrap ((BitVec.ofInt 64 a &&& BitVec.ofInt 64 b).toNat : Int)
def bXor (a b : Int) : Int := IntKind.i64.wrap ((BitVec.ofInt 64 a ^^^ BitVec.ofInt 64 b).toNat : Int)
def bOr (a b : Int) : Int := IntKind.i64.wrap ((BitVec.ofInt 64 a ||| BitVec.ofInt 64 b).toNat : Int)
def bShr (a b : Int) : Int := a.fdiv (2 ^ min b.toNat 64)
theorem ofI (a : Nat) (h : a < 18446744073709551616) : (BitVec.ofInt 64 (a : Int)).toNat = a := by
  rw [BitVec.ofInt_natCast, BitVec.toNat_ofNat]
  exact Nat.mod_eq_of_lt h
theorem wiN {n : Int} (h1 : -9223372036854775808 ≤ n) (h2 : n ≤ 9223372036854775807) : wi n = n := wrap64 h1 h2
theorem bAndN (a b : Nat) (ha : a < 9223372036854775808) (hb : b < 18446744073709551616) : bAnd (a : Int) (b : Int) = ((a &&& b : Nat) : Int) := by
  unfold bAnd
  have h : a &&& b ≤ a := Nat.and_le_left
  rw [BitVec.toNat_and, ofI a (by omega), ofI b hb]
  exact wrap64 (by omega) (by omega)
theorem bXorN (a b : Nat) (ha : a < 9223372036854775808) (hb : b < 9223372036854775808) : bXor (a : Int) (b : Int) = ((a ^^^ b : Nat) : Int) := by
  unfold bXor
  have h : a ^^^ b < 2 ^ 63 := Nat.xor_lt_two_pow (by omega) (by omega)
  rw [BitVec.toNat_xor, ofI a (by omega), ofI b (by omega)]
  exact wrap64 (by omega) (by omega)
theorem bOrN (a b : Nat) (ha : a < 9223372036854775808) (hb : b < 9223372036854775808) : bOr (a : Int) (b : Int) = ((a ||| b : Nat) : Int) := by
  unfold bOr
  have h : a ||| b < 2 ^ 63 := Nat.or_lt_two_pow (by omega) (by omega)
  rw [BitVec.toNat_or, ofI a (by omega), ofI b (by omega)]
  exact wrap64 (by omega) (by omega)
theorem bShrN (a l : Nat) (hl : l ≤ 64) : bShr (a : Int) (l : Int) = ((a >>> l : Nat) : Int) := by
  unfold bShr
  rw [Int.toNat_natCast, Nat.min_eq_left hl, Int.fdiv_eq_ediv_of_nonneg _ (Int.le_of_lt (Int.pow_pos (by decide))), Nat.shiftRight_eq_div_pow, Int.natCast_ediv, Int.natCast_pow]
  rfl
/-- Whether a set has a party. -/
theorem bit_iff (a l : Nat) (ha : a < 9223372036854775808) (hl : l ≤ 64) : (bAnd (bShr (a : Int) (l : Int)) 1 == 1) = a.testBit l := by
  have h1 : a >>> l ≤ a := by rw [Nat.shiftRight_eq_div_pow]; exact Nat.div_le_self _ _
  have h2 := bAndN (a >>> l) 1 (by omega) (by omega)
  rw [bShrN a l hl, show ((1 : Int)) = ((1 : Nat) : Int) from rfl, h2, Nat.and_one_is_mod]
  unfold Nat.testBit
  rw [Nat.and_comm, Nat.and_one_is_mod]
  rcases Nat.mod_two_eq_zero_or_one (a >>> l) with h | h <;> rw [h] <;> rfl
/-- One set within s: the row of the most groups goes on. -/
def inU (sm : Row) (s low g : Nat) (ou : Row) : Row :=
  if g.testBit low = true ∧ g ≠ s ∧ sm.I g 0 = 0 then ou.setI s 0 (if wi (1 + ou.I (s ^^^ g) 0) > ou.I s 0 then wi (1 + ou.I (s ^^^ g) 0) else ou.I s 0) else ou
def innR (sm : Row) (s low : Nat) : Nat → Nat → Row → Row
  | 0, _, ou => ou
  | n + 1, g, ou => if g = 0 then ou else innR sm s low n ((g - 1) &&& s) (inU sm s low g ou)
def S11 (nb N M : Nat) (s low g : Int) (b sm ou : Row) : St := ⟨[sl 0 nb] ++ us 2 ++ [sl 1 N, sl 2 M, i64 s, i64 low, i64 g] ++ us 83, [[]], [Rb false b, Rb true sm, Rb true ou]⟩
def S11x (nb N M : Nat) (s : Int) (b sm ou : Row) : St := ⟨[sl 0 nb] ++ us 2 ++ [sl 1 N, sl 2 M, i64 s] ++ us 85, [[]], [Rb false b, Rb true sm, Rb true ou]⟩
def G11 (cd : Nat → Nat → Nat → Int → Int → Int → Bool) : List It → (X → St → Option (List D)) → Option (List D)
  | [.n nb, .n N, .n M, .i s, .i low, .i g, .r b, .r sm, .r ou], k => br (cd nb N M s low g) (k (.exit 2) (S11x nb N M s b sm (innR sm s.toNat low.toNat (g.toNat + 1) g.toNat ou))) none
  | _, _ => none
def l11 (cd : Nat → Nat → Nat → Int → Int → Int → Bool) : LoopC where
  f := 50
  id := 11
  lv := [0, 3, 4, 5, 6, 7]
  lx := [0, 2, 3, 4, 5]
  p := { τ := [.v (.sl 0)] ++ pu 2 ++ [.v (.sl 1), .v (.sl 2), .v (.int .i64), .v (.int .i64), .v (.int .i64)] ++ pu 83, saved := [[]], mem := [.row ks1 false, .row ks1 true, .row ks1 true] }
  G := G11 cd
/-- The party that comes first in a set. -/
def ctzN (s : Nat) : Nat := Lib.ctz 64 s
def smU (b : Row) (s : Nat) (sm : Row) : Row := sm.setI s 0 (wi (sm.I (s &&& (s - 1)) 0 + b.I (ctzN s) 0))
def ouU (b : Row) (s : Nat) (sm ou : Row) : Row :=
  if (smU b s sm).I s 0 ≠ 0 then ou.setI s 0 (-1) else innR (smU b s sm) s (ctzN s) (s + 1) s ((ou.setI s 0 (-1)).setI s 0 1)
def mstR (b : Row) : Nat → Nat → Row → Row → Row
  | 0, _, _, ou => ou
  | m + 1, s, sm, ou => mstR b m (s + 1) (smU b s sm) (ouU b s sm ou)
def S3 (nb N M : Nat) (s : Int) (b sm ou : Row) : St := ⟨[sl 0 nb] ++ us 2 ++ [sl 1 N, sl 2 M, i64 s] ++ us 85, [[]], [Rb false b, Rb true sm, Rb true ou]⟩
def S3x (M : Nat) (ou : Row) : St := ⟨us 4 ++ [sl 0 M] ++ us 86, [[]], [Rb true ou]⟩
def G3 (cd : Nat → Nat → Nat → Bool) : List It → (X → St → Option (List D)) → Option (List D)
  | [.n nb, .n N, .n M, .r b, .r sm, .r ou], k => br (cd nb N M) (k (.exit 0) (S3x M (mstR b (N - 1) 1 sm ou))) none
  | _, _ => none
def l3 (cd : Nat → Nat → Nat → Bool) : LoopC where
  f := 50
  id := 3
  lv := [0, 3, 4, 5]
  lx := [2, 4]
  p := { τ := [.v (.sl 0)] ++ pu 2 ++ [.v (.sl 1), .v (.sl 2), .v (.c (i64 1))] ++ pu 85, saved := [[]], mem := [.row ks1 false, .row ks1 true, .row ks1 true] }
  G := G3 cd
noncomputable def C1g (c1 : Nat → Nat → Nat → Int → Int → Int → Bool) (c2 : Nat → Nat → Nat → Bool) : Cx := mkCx Tryz.prog fns [(86, Ftz)] [l11 c1, l3 c2]
theorem round11 (c1 : Nat → Nat → Nat → Int → Int → Int → Bool) (c2 : Nat → Nat → Nat → Bool) (R : St → Option (List D)) (K : X → St → Option (List D)) (p : Nat) (nb N M : Nat) (s low g : Int) (b sm ou : Row) : evCode (C1g c1 c2) 50 true (inl (C1g c1 c2) (p + 4)) (lbody (C1g c1 c2).P 50 11) (S11 nb N M s low g b sm ou) (rnd [0, 3, 4, 5, 6, 7] (some [0, 2, 3, 4, 5]) R K) =
    br (decide (g > 0)) (br (decide (low < 0)) none (br (bAnd (bShr g low) 1 == 1) (br (g != s) (br (decide (0 ≤ g) && decide (g < (N : Int))) (br (sm.I (0 + g.toNat) 0 == 0) (br (decide (0 ≤ s) && decide (s < (M : Int))) (br (decide (0 ≤ bXor s g) && decide (bXor s g < (M : Int))) (br (decide (0 ≤ s) && decide (s < (M : Int)))
      (R (S11 nb N M s low (bAnd (wi (g - 1)) s) b sm (ou.setI (0 + s.toNat) 0 (if wi (1 + ou.I (0 + (bXor s g).toNat) 0) > ou.I (0 + s.toNat) 0 then wi (1 + ou.I (0 + (bXor s g).toNat) 0) else ou.I (0 + s.toNat) 0)))) none) none) none)
      (R (S11 nb N M s low (bAnd (wi (g - 1)) s) b sm ou))) none) (R (S11 nb N M s low (bAnd (wi (g - 1)) s) b sm ou))) (R (S11 nb N M s low (bAnd (wi (g - 1)) s) b sm ou)))) (K (.exit 2) (S11x nb N M s b sm ou)) := by kernel_rfl
def tzU (s : Int) : Int := ctzI (IntKind.u64.wrap s)
set_option maxRecDepth 100000 in
theorem round3 (c1 : Nat → Nat → Nat → Int → Int → Int → Bool) (c2 : Nat → Nat → Nat → Bool) (R : St → Option (List D)) (K : X → St → Option (List D)) (p : Nat) (nb N M : Nat) (s : Int) (b sm ou : Row) : evCode (C1g c1 c2) 50 true (inl (C1g c1 c2) (p + 4)) (lbody (C1g c1 c2).P 50 3) (S3 nb N M s b sm ou) (rnd [0, 3, 4, 5] (some [2, 4]) R K) =
    br (decide (s < (M : Int))) (br (decide (0 < IntKind.u64.wrap s) && decide (IntKind.u64.wrap s < 18446744073709551616)) (br (decide (0 ≤ bAnd s (wi (s - 1))) && decide (bAnd s (wi (s - 1)) < (N : Int))) (br (decide (0 ≤ tzU s) && decide (tzU s < (nb : Int))) (br (decide (0 ≤ s) && decide (s < (N : Int))) (br (decide (0 ≤ s) && decide (s < (M : Int))) (br (decide (0 ≤ s) && decide (s < (N : Int)))
      (br ((sm.setI (0 + s.toNat) 0 (wi (sm.I (0 + (bAnd s (wi (s - 1))).toNat) 0 + b.I (0 + (tzU s).toNat) 0))).I (0 + s.toNat) 0 != 0)
        (R (S3 nb N M (wi (s + 1)) b (sm.setI (0 + s.toNat) 0 (wi (sm.I (0 + (bAnd s (wi (s - 1))).toNat) 0 + b.I (0 + (tzU s).toNat) 0))) (ou.setI (0 + s.toNat) 0 (-1))))
        (br (decide (0 ≤ s) && decide (s < (M : Int))) (br (c1 nb N M s (tzU s) s)
          (R (S3 nb N M (wi (s + 1)) b (sm.setI (0 + s.toNat) 0 (wi (sm.I (0 + (bAnd s (wi (s - 1))).toNat) 0 + b.I (0 + (tzU s).toNat) 0))) (innR (sm.setI (0 + s.toNat) 0 (wi (sm.I (0 + (bAnd s (wi (s - 1))).toNat) 0 + b.I (0 + (tzU s).toNat) 0))) s.toNat (tzU s).toNat (s.toNat + 1) s.toNat ((ou.setI (0 + s.toNat) 0 (-1)).setI (0 + s.toNat) 0 1)))) none) none)) none) none) none) none) none) none) (K (.exit 0) (S3x M ou)) := by kernel_rfl
end Go.Proofs.YtlfeobdfgmlmpaaGreatDoor.Ld
/- Package ledger: the most groups of all sets of parties: contract. No conditions. -/
namespace Go.Proofs.YtlfeobdfgmlmpaaGreatDoor.Ld
open Go.Ev
set_option linter.all false
def in11 (nb N M : Nat) (s low g : Int) : Bool := decide (0 ≤ s ∧ s < N ∧ N = M ∧ N = 2 ^ nb ∧ nb ≤ 62 ∧ 0 ≤ low ∧ low ≤ 62 ∧ g = s)
def in3 (nb N M : Nat) : Bool := decide (N = 2 ^ nb ∧ N = M ∧ nb ≤ 62)
noncomputable def C1 : Cx := C1g in11 in3
theorem go11 {f : St → (X → St → Option (List D)) → Option (List D)} {lv : List Tmp} {lx : Option (List Tmp)} {nb N s low : Nat} {b sm : Row}
    (hr : ∀ (g : Int) (ou : Row) R K, f (S11 nb N N s low g b sm ou) (rnd lv lx R K) =
      br (decide (g > 0)) (br (decide ((low : Int) < 0)) none (br (bAnd (bShr g low) 1 == 1) (br (g != s) (br (decide (0 ≤ g) && decide (g < (N : Int))) (br (sm.I (0 + g.toNat) 0 == 0) (br (decide (0 ≤ (s : Int)) && decide ((s : Int) < (N : Int))) (br (decide (0 ≤ bXor s g) && decide (bXor s g < (N : Int))) (br (decide (0 ≤ (s : Int)) && decide ((s : Int) < (N : Int)))
        (R (S11 nb N N s low (bAnd (wi (g - 1)) s) b sm (ou.setI (0 + (s : Int).toNat) 0 (if wi (1 + ou.I (0 + (bXor s g).toNat) 0) > ou.I (0 + (s : Int).toNat) 0 then wi (1 + ou.I (0 + (bXor s g).toNat) 0) else ou.I (0 + (s : Int).toNat) 0)))) none) none) none)
        (R (S11 nb N N s low (bAnd (wi (g - 1)) s) b sm ou))) none) (R (S11 nb N N s low (bAnd (wi (g - 1)) s) b sm ou))) (R (S11 nb N N s low (bAnd (wi (g - 1)) s) b sm ou)))) (K (.exit 2) (S11x nb N N s b sm ou)))
    (hN : N = 2 ^ nb) (hb : nb ≤ 62) (hs : s < N) (hl : low ≤ 62) (K : X → St → Option (List D)) :
    ∀ (n fu g : Nat) (ou : Row), g &&& s = g → g < n → n ≤ fu → rounds lv lx f fu (S11 nb N N s low g b sm ou) K = K (.exit 2) (S11x nb N N s b sm (innR sm s low n g ou))
  | n + 1, fu + 1, g, ou, h0, h1, h2 => by
    have hgs : g ≤ s := by have : g &&& s ≤ s := Nat.and_le_right; omega
    have hNN : N ≤ 4611686018427387904 := by
      have : 2 ^ nb ≤ 2 ^ 62 := Nat.pow_le_pow_right (by decide) hb
      omega
    rw [rnds1, hr]
    unfold innR
    by_cases hg : g = 0
    · rw [if_pos hg, decide_eq_false (show ¬ (g : Int) > 0 by omega), br_false]
    · rw [if_neg hg, decide_eq_true (show (g : Int) > 0 by omega), br_true, decide_eq_false (show ¬ (low : Int) < 0 by omega), br_false, bit_iff g low (by omega) (by omega)]
      have hx : s ^^^ g < N := by rw [hN]; exact Nat.xor_lt_two_pow (by omega) (by omega)
      have hnext : bAnd (wi ((g : Int) - 1)) (s : Int) = (((g - 1) &&& s : Nat) : Int) := by
        rw [wiN (by omega) (by omega), show (g : Int) - 1 = ((g - 1 : Nat) : Int) by omega]
        exact bAndN _ _ (by omega) (by omega)
      have hle : (g - 1) &&& s ≤ g - 1 := Nat.and_le_left
      have hsub : ((g - 1) &&& s) &&& s = (g - 1) &&& s := by rw [Nat.and_assoc, Nat.and_self]
      have ih := fun ou' => go11 hr hN hb hs hl K n fu ((g - 1) &&& s) ou' hsub (by omega) (by omega)
      rw [hnext, bXorN s g (by omega) (by omega), Int.toNat_natCast, Int.toNat_natCast, Int.toNat_natCast, Nat.zero_add, Nat.zero_add, Nat.zero_add]
      unfold inU
      cases hbit : g.testBit low
      · rw [br_false, if_neg (fun h => by cases h.1)]
        exact ih ou
      · rw [br_true]
        by_cases hgs' : g = s
        · rw [show ((g : Int) != (s : Int)) = false by rw [hgs']; simp, br_false, if_neg (show ¬ (true = true ∧ g ≠ s ∧ sm.I g 0 = 0) from fun h => h.2.1 hgs')]
          exact ih ou
        · rw [show ((g : Int) != (s : Int)) = true from bne_iff_ne.mpr (by omega), br_true, show (decide (0 ≤ (g : Int)) && decide ((g : Int) < (N : Int))) = true by simp only [Bool.and_eq_true, decide_eq_true_eq]; omega, br_true]
          by_cases hz : sm.I g 0 = 0
          · rw [show (sm.I g 0 == 0) = true by simpa using hz, br_true, show (decide (0 ≤ (s : Int)) && decide ((s : Int) < (N : Int))) = true by simp only [Bool.and_eq_true, decide_eq_true_eq]; omega, br_true,
              show (decide (0 ≤ ((s ^^^ g : Nat) : Int)) && decide (((s ^^^ g : Nat) : Int) < (N : Int))) = true by simp only [Bool.and_eq_true, decide_eq_true_eq]; omega, br_true, br_true, if_pos (show true = true ∧ g ≠ s ∧ sm.I g 0 = 0 from ⟨rfl, hgs', hz⟩)]
            exact ih _
          · rw [show (sm.I g 0 == 0) = false by simpa using hz, br_false, if_neg (show ¬ (true = true ∧ g ≠ s ∧ sm.I g 0 = 0) from fun h => hz h.2.2)]
            exact ih ou
set_option maxRecDepth 100000 in
theorem loop11 : LoopOk C1 (l11 in11) := ⟨by kernel_rfl, fun q its k rr h => by
  show rounds [0, 3, 4, 5, 6, 7] (some [0, 2, 3, 4, 5]) (evCode C1 50 true (inl C1 (q + 4)) (lbody C1.P 50 11)) 18446744073709551616 (bst (l11 in11).p its) k = some rr
  change G11 in11 its k = some rr at h
  unfold G11 at h
  split at h
  · rename_i nb N M s low g b sm ou
    rcases br_some h with ⟨h1, h2⟩ | ⟨_, h2⟩
    · obtain ⟨k1, k2, k3, k4, k5, k6, k7, k8⟩ := of_decide_eq_true h1
      obtain ⟨s, rfl⟩ := Int.eq_ofNat_of_zero_le k1
      obtain ⟨low, rfl⟩ := Int.eq_ofNat_of_zero_le k6
      subst k3
      subst k8
      rw [← h2, Int.toNat_natCast, Int.toNat_natCast]
      have hp : 2 ^ nb ≤ 2 ^ 62 := Nat.pow_le_pow_right (by decide) k5
      exact go11 (fun g ou R K => round11 in11 in3 R K q nb N N s low g b sm ou) k4 k5 (by omega) (by omega) k (s + 1) 18446744073709551616 s ou (Nat.and_self s) (by omega) (by omega)
    · cases h2
  · cases h⟩
theorem ctz_lt (s nb : Nat) (h0 : 0 < s) (h1 : s < 2 ^ nb) (h2 : nb ≤ 62) : ctzN s < nb := by
  have hp : 2 ^ nb ≤ 2 ^ 62 := Nat.pow_le_pow_right (by decide) h2
  obtain ⟨hlow, hk⟩ := Lib.lowest_bit 64 s (by omega) (by omega)
  have : s &&& (2 ^ 64 - s) ≤ s := Nat.and_le_left
  rw [hlow] at this
  unfold ctzN
  exact (Nat.pow_lt_pow_iff_right (by decide)).1 (Nat.lt_of_le_of_lt this h1)
theorem tzUN (s : Nat) (h : s < 9223372036854775808) : tzU (s : Int) = (ctzN s : Int) := by
  unfold tzU ctzI ctzN
  rw [show IntKind.u64.wrap (s : Int) = s from wrap_id (by simp [Lit.wf, IntKind.min, IntKind.max, IntKind.signed, IntKind.bits]; omega), Int.toNat_natCast]
theorem go3 {f : St → (X → St → Option (List D)) → Option (List D)} {lv : List Tmp} {lx : Option (List Tmp)} {nb N : Nat} {b : Row}
    (hr : ∀ (s : Int) (sm ou : Row) R K, f (S3 nb N N s b sm ou) (rnd lv lx R K) =
      br (decide (s < (N : Int))) (br (decide (0 < IntKind.u64.wrap s) && decide (IntKind.u64.wrap s < 18446744073709551616)) (br (decide (0 ≤ bAnd s (wi (s - 1))) && decide (bAnd s (wi (s - 1)) < (N : Int))) (br (decide (0 ≤ tzU s) && decide (tzU s < (nb : Int))) (br (decide (0 ≤ s) && decide (s < (N : Int))) (br (decide (0 ≤ s) && decide (s < (N : Int))) (br (decide (0 ≤ s) && decide (s < (N : Int)))
        (br ((sm.setI (0 + s.toNat) 0 (wi (sm.I (0 + (bAnd s (wi (s - 1))).toNat) 0 + b.I (0 + (tzU s).toNat) 0))).I (0 + s.toNat) 0 != 0)
          (R (S3 nb N N (wi (s + 1)) b (sm.setI (0 + s.toNat) 0 (wi (sm.I (0 + (bAnd s (wi (s - 1))).toNat) 0 + b.I (0 + (tzU s).toNat) 0))) (ou.setI (0 + s.toNat) 0 (-1))))
          (br (decide (0 ≤ s) && decide (s < (N : Int))) (br (in11 nb N N s (tzU s) s)
            (R (S3 nb N N (wi (s + 1)) b (sm.setI (0 + s.toNat) 0 (wi (sm.I (0 + (bAnd s (wi (s - 1))).toNat) 0 + b.I (0 + (tzU s).toNat) 0))) (innR (sm.setI (0 + s.toNat) 0 (wi (sm.I (0 + (bAnd s (wi (s - 1))).toNat) 0 + b.I (0 + (tzU s).toNat) 0))) s.toNat (tzU s).toNat (s.toNat + 1) s.toNat ((ou.setI (0 + s.toNat) 0 (-1)).setI (0 + s.toNat) 0 1)))) none) none)) none) none) none) none) none) none) (K (.exit 0) (S3x N ou)))
    (hN : N = 2 ^ nb) (hb : nb ≤ 62) (K : X → St → Option (List D)) :
    ∀ (m fu s : Nat) (sm ou : Row), s + m = N → 0 < s → m < fu → rounds lv lx f fu (S3 nb N N s b sm ou) K = K (.exit 0) (S3x N (mstR b m s sm ou))
  | 0, fu + 1, s, sm, ou, h0, h1, h2 => by
    rw [rnds1, hr, decide_eq_false (show ¬ (s : Int) < (N : Int) by omega), br_false]
    rfl
  | m + 1, fu + 1, s, sm, ou, h0, h1, h2 => by
    have hNN : N ≤ 4611686018427387904 := by
      have : 2 ^ nb ≤ 2 ^ 62 := Nat.pow_le_pow_right (by decide) hb
      omega
    have hctz := ctz_lt s nb h1 (by omega) hb
    have hw : IntKind.u64.wrap (s : Int) = s := wrap_id (by simp [Lit.wf, IntKind.min, IntKind.max, IntKind.signed, IntKind.bits]; omega)
    have hand : bAnd (s : Int) (wi ((s : Int) - 1)) = ((s &&& (s - 1) : Nat) : Int) := by
      rw [wiN (by omega) (by omega), show (s : Int) - 1 = ((s - 1 : Nat) : Int) by omega]
      exact bAndN _ _ (by omega) (by omega)
    have hle : s &&& (s - 1) ≤ s - 1 := Nat.and_le_right
    have ih := go3 hr hN hb K m fu (s + 1) (smU b s sm) (ouU b s sm ou) (by omega) (by omega) (by omega)
    have hin : in11 nb N N s (ctzN s : Int) s = true := decide_eq_true ⟨by omega, by omega, rfl, hN, hb, by omega, by omega, rfl⟩
    have hs : (decide (0 ≤ (s : Int)) && decide ((s : Int) < (N : Int))) = true := by simp only [Bool.and_eq_true, decide_eq_true_eq]; omega
    rw [rnds1, hr, hw, hand, tzUN s (by omega), hin, hs, wiN (n := (s : Int) + 1) (by omega) (by omega), show (s : Int) + 1 = ((s + 1 : Nat) : Int) by omega, decide_eq_true (show (s : Int) < (N : Int) by omega),
      show (decide (0 < (s : Int)) && decide ((s : Int) < 18446744073709551616)) = true by simp only [Bool.and_eq_true, decide_eq_true_eq]; omega,
      show (decide (0 ≤ ((s &&& (s - 1) : Nat) : Int)) && decide (((s &&& (s - 1) : Nat) : Int) < (N : Int))) = true by simp only [Bool.and_eq_true, decide_eq_true_eq]; omega,
      show (decide (0 ≤ (ctzN s : Int)) && decide ((ctzN s : Int) < (nb : Int))) = true by simp only [Bool.and_eq_true, decide_eq_true_eq]; omega]
    rw [br_true, br_true, br_true, br_true, br_true, br_true, br_true, br_true, br_true, Int.toNat_natCast, Int.toNat_natCast, Int.toNat_natCast, Nat.zero_add, Nat.zero_add, Nat.zero_add]
    unfold mstR
    rw [← ih]
    unfold ouU
    by_cases hz : (smU b s sm).I s 0 = 0
    · rw [if_neg (fun h => h hz), show ((sm.setI s 0 (wi (sm.I (s &&& (s - 1)) 0 + b.I (ctzN s) 0))).I s 0 != 0) = false by rw [show (sm.setI s 0 (wi (sm.I (s &&& (s - 1)) 0 + b.I (ctzN s) 0))).I s 0 = 0 from hz]; rfl, br_false]
      rfl
    · rw [if_pos hz, show ((sm.setI s 0 (wi (sm.I (s &&& (s - 1)) 0 + b.I (ctzN s) 0))).I s 0 != 0) = true from bne_iff_ne.mpr hz, br_true]
      rfl
set_option maxRecDepth 100000 in
theorem loop3 : LoopOk C1 (l3 in3) := ⟨by kernel_rfl, fun q its k rr h => by
  show rounds [0, 3, 4, 5] (some [2, 4]) (evCode C1 50 true (inl C1 (q + 4)) (lbody C1.P 50 3)) 18446744073709551616 (bst (l3 in3).p its) k = some rr
  change G3 in3 its k = some rr at h
  unfold G3 at h
  split at h
  · rename_i nb N M b sm ou
    rcases br_some h with ⟨h1, h2⟩ | ⟨_, h2⟩
    · obtain ⟨k1, k2, k3⟩ := of_decide_eq_true h1
      subst k2
      rw [← h2]
      have hp : 2 ^ nb ≤ 2 ^ 62 := Nat.pow_le_pow_right (by decide) k3
      have h0 : 0 < 2 ^ nb := Nat.two_pow_pos nb
      exact go3 (fun s sm ou R K => round3 in11 in3 R K q nb N N s b sm ou) k1 k3 k (N - 1) 18446744073709551616 1 sm ou (by omega) (by omega) (by omega)
    · cases h2
  · cases h⟩
theorem C1_ok : CxW C1 Wt := mkCx_okW enter mixed (fun p h => by
  simp only [List.mem_cons, List.not_mem_nil, or_false] at h
  rcases h with rfl
  exact den_tz) (fun l h => by
  simp only [List.mem_cons, List.not_mem_nil, or_false] at h
  rcases h with rfl | rfl
  · exact loop11
  · exact loop3)
def nSz (b : Row) : Nat := (wi (1 * 2 ^ min (b.n : Int).toNat 64)).toNat
theorem tmost (c1 : Nat → Nat → Nat → Int → Int → Int → Bool) (c2 : Nat → Nat → Nat → Bool) (b : Row) : evF (C1g c1 c2) 6 50 [.slice ks1 b] =
    br (decide (0 ≤ wi (1 * 2 ^ min (b.n : Int).toNat 64)) && decide (wi (1 * 2 ^ min (b.n : Int).toNat 64) ≤ wi (1 * 2 ^ min (b.n : Int).toNat 64)) && decide (wi (1 * 2 ^ min (b.n : Int).toNat 64) ≤ 100000000000))
      (br (decide (0 ≤ wi (1 * 2 ^ min (b.n : Int).toNat 64)) && decide (wi (1 * 2 ^ min (b.n : Int).toNat 64) ≤ wi (1 * 2 ^ min (b.n : Int).toNat 64)) && decide (wi (1 * 2 ^ min (b.n : Int).toNat 64) ≤ 100000000000))
        (br (c2 b.n (nSz b) (nSz b)) (some [.slice ks1 (winOf (mstR b (nSz b - 1) 1 (Row.zeros (nSz b)) (Row.zeros (nSz b))) 0 (nSz b))]) none) none) none := by kernel_rfl
/-- The most groups, for all sets. -/
def mostR (b : Row) : Row := winOf (mstR b (2 ^ b.n - 1) 1 (Row.zeros (2 ^ b.n)) (Row.zeros (2 ^ b.n))) 0 (2 ^ b.n)
def Fmost : List D → Option (Bool × List D)
  | [.slice [.int .i64] b] => some (decide (b.n ≤ 20), [.slice ks1 (mostR b)])
  | _ => none
theorem nSz_eq {b : Row} (h : b.n ≤ 20) : wi (1 * 2 ^ min (b.n : Int).toNat 64) = ((2 ^ b.n : Nat) : Int) := by
  have hp : 2 ^ b.n ≤ 2 ^ 20 := Nat.pow_le_pow_right (by decide) h
  rw [Int.toNat_natCast, Nat.min_eq_left (by omega), Int.one_mul, show (2 : Int) ^ b.n = ((2 ^ b.n : Nat) : Int) by rw [Int.natCast_pow]; rfl]
  generalize 2 ^ b.n = N at hp ⊢
  exact wiN (by omega) (by omega)
theorem den_most : DenW Tryz.prog Wt 50 Fmost := evF_denW C1_ok fun ds rs h => by
  unfold Fmost at h
  split at h
  · rename_i b
    simp only [Option.some.injEq, Prod.mk.injEq, decide_eq_true_eq] at h
    obtain ⟨h0, rfl⟩ := h
    refine (tmost in11 in3 b).trans ?_
    have e := nSz_eq h0
    have hp : 2 ^ b.n ≤ 2 ^ 20 := Nat.pow_le_pow_right (by decide) h0
    unfold nSz
    have hc : ∀ N : Nat, N ≤ 2 ^ 20 → (decide (0 ≤ (N : Int)) && decide ((N : Int) ≤ (N : Int)) && decide ((N : Int) ≤ 100000000000)) = true := fun N hN => by simp only [Bool.and_eq_true, decide_eq_true_eq]; omega
    rw [e, Int.toNat_natCast, hc _ hp, br_true, br_true,
      show in3 b.n (2 ^ b.n) (2 ^ b.n) = true from decide_eq_true ⟨rfl, rfl, by omega⟩, br_true]
    rfl
  · cases h
end Go.Proofs.YtlfeobdfgmlmpaaGreatDoor.Ld
/- Package ledger: the check of balances, on both sides. No conditions. -/
namespace Go.Proofs.YtlfeobdfgmlmpaaGreatDoor.Ld
open Go.Ev
set_option linter.all false
/-- Balances are gone through: whether one is too great, and the sum so far. -/
def ckL (b : Row) : Nat → Nat → Int → Bool × Int
  | 0, _, s => (false, s)
  | m + 1, j, s => if b.I j 0 < -1000000000 ∨ b.I j 0 > 1000000000 then (true, s) else ckL b m (j + 1) (wi (s + b.I j 0))
def S6 (n : Nat) (sum j : Int) (b : Row) : St := ⟨us 4 ++ [i64 sum] ++ us 8 ++ [sl 0 n, i64 n, i64 j] ++ us 15, [[]], [Rb false b]⟩
def S6r (sum : Int) : St := ⟨us 2 ++ [i64 8] ++ us 1 ++ [i64 sum] ++ us 26, [[]], []⟩
def S6x (sum : Int) : St := ⟨us 4 ++ [i64 sum] ++ us 26, [[]], []⟩
def G6 (cd : Nat → Int → Bool) : List It → (X → St → Option (List D)) → Option (List D)
  | [.n n, .i n', .r b], k => br (cd n n') (br (ckL b n 0 0).1 (k .ret (S6r (ckL b n 0 0).2)) (k (.exit 0) (S6x (ckL b n 0 0).2))) none
  | _, _ => none
def l6 (cd : Nat → Int → Bool) : LoopC where
  f := 49
  id := 6
  lv := [4, 13, 14, 15]
  lx := [2, 4]
  p := { τ := pu 4 ++ [.v (.c (i64 0))] ++ pu 8 ++ [.v (.sl 0), .v (.int .i64), .v (.c (i64 0))] ++ pu 15, saved := [[]], mem := [.row ks1 false] }
  G := G6 cd
noncomputable def C2g (cd : Nat → Int → Bool) : Cx := mkCx Tryz.prog fns [] [l6 cd]
theorem round6 (cd : Nat → Int → Bool) (R : St → Option (List D)) (K : X → St → Option (List D)) (p : Nat) (n : Nat) (sum j : Int) (b : Row) : evCode (C2g cd) 49 true (inl (C2g cd) (p + 4)) (lbody (C2g cd).P 49 6) (S6 n sum j b) (rnd [4, 13, 14, 15] (some [2, 4]) R K) =
    br (decide (j < (n : Int))) (br (decide (0 ≤ j) && decide (j < (n : Int))) (br (decide (b.I (0 + j.toNat) 0 < -1000000000)) (K .ret (S6r sum)) (br (decide (b.I (0 + j.toNat) 0 > 1000000000)) (K .ret (S6r sum)) (R (S6 n (wi (sum + b.I (0 + j.toNat) 0)) (wi (j + 1)) b)))) none) (K (.exit 0) (S6x sum)) := by kernel_rfl
def inCk (n : Nat) (m : Int) : Bool := decide (m = n ∧ n ≤ 1000)
noncomputable def C2 : Cx := C2g inCk
theorem go6 {f : St → (X → St → Option (List D)) → Option (List D)} {lv : List Tmp} {lx : Option (List Tmp)} {S : Int → Int → St} {Sr Sx : Int → St} {n : Nat} {b : Row} (hn : n ≤ 1000)
    (hr : ∀ (sum : Int) (j : Nat) R K, f (S sum j) (rnd lv lx R K) = if j < n then (if b.I j 0 < -1000000000 ∨ b.I j 0 > 1000000000 then K .ret (Sr sum) else R (S (wi (sum + b.I j 0)) (j + 1 : Nat))) else K (.exit 0) (Sx sum)) (K : X → St → Option (List D)) :
    ∀ (m fu j : Nat) (s : Int), j + m = n → m < fu → rounds lv lx f fu (S s j) K = br (ckL b m j s).1 (K .ret (Sr (ckL b m j s).2)) (K (.exit 0) (Sx (ckL b m j s).2))
  | 0, fu + 1, j, s, h0, h1 => by
    rw [rnds1, hr, if_neg (by omega)]
    rfl
  | m + 1, fu + 1, j, s, h0, h1 => by
    rw [rnds1, hr, if_pos (by omega)]
    unfold ckL
    by_cases hb : b.I j 0 < -1000000000 ∨ b.I j 0 > 1000000000
    · rw [if_pos hb, if_pos hb]
      rfl
    · rw [if_neg hb, if_neg hb]
      exact go6 hn hr K m fu (j + 1) _ (by omega) (by omega)
set_option maxRecDepth 100000 in
theorem loop6 : LoopOk C2 (l6 inCk) := ⟨by kernel_rfl, fun q its k rr h => by
  show rounds [4, 13, 14, 15] (some [2, 4]) (evCode C2 49 true (inl C2 (q + 4)) (lbody C2.P 49 6)) 18446744073709551616 (bst (l6 inCk).p its) k = some rr
  change G6 inCk its k = some rr at h
  unfold G6 at h
  split at h
  · rename_i n n' b
    rcases br_some h with ⟨h1, h2⟩ | ⟨_, h2⟩
    · obtain ⟨k1, k2⟩ := of_decide_eq_true h1
      subst k1
      rw [← h2]
      exact go6 (S := fun s j => S6 n s j b) (Sr := S6r) (Sx := S6x) k2 (fun sum j R K => by
        refine (round6 inCk R K q n sum j b).trans ?_
        by_cases hj : j < n
        · rw [if_pos hj, decide_eq_true (show (j : Int) < (n : Int) by omega), br_true, decide_eq_true (show (0 : Int) ≤ (j : Int) by omega), show (true && true) = true from rfl, br_true, Int.toNat_natCast, Nat.zero_add, wiN (n := (j : Int) + 1) (by omega) (by omega)]
          by_cases h1 : b.I j 0 < -1000000000
          · rw [decide_eq_true h1, br_true, if_pos (.inl h1)]
          · rw [decide_eq_false h1, br_false]
            by_cases h2 : b.I j 0 > 1000000000
            · rw [decide_eq_true h2, br_true, if_pos (.inr h2)]
            · rw [decide_eq_false h2, br_false, if_neg (by omega)]
              rfl
        · rw [if_neg hj, decide_eq_false (show ¬ (j : Int) < (n : Int) by omega), br_false]) k n 18446744073709551616 0 0 (by omega) (by omega)
    · cases h2
  · cases h⟩
theorem C2_ok : CxOk C2 := mkCx_ok enter mixed (fun p h => by cases h) (fun l h => by
  simp only [List.mem_cons, List.not_mem_nil, or_false] at h
  rcases h with rfl
  exact loop6)
def ckB (b : Row) : Bool := (ckL b b.n 0 0).1
def ckS (b : Row) : Int := (ckL b b.n 0 0).2
/-- The error of balances. -/
def ckE (b : Row) : Int := if b.n < 1 ∨ 10 < b.n then 2 else if ckB b = true ∨ ckS b ≠ 0 then 8 else 0
def Fck : List D → Option (Bool × List D)
  | [.slice [.int .i64] b] => some (true, [.v (i64 (ckE b))])
  | _ => none
theorem tcheck (cd : Nat → Int → Bool) (b : Row) : evF (C2g cd) 6 49 [.slice ks1 b] =
    br (decide ((b.n : Int) < 1)) (some [.v (i64 2)]) (br (decide ((b.n : Int) > 10)) (some [.v (i64 2)]) (br (cd b.n b.n) (br (ckB b) (some [.v (i64 8)]) (br (ckS b != 0) (some [.v (i64 8)]) (some [.v (i64 0)]))) none)) := by kernel_rfl
theorem ck_tail (b : Row) (h : ¬ (b.n < 1 ∨ 10 < b.n)) : br (ckB b) (some [D.v (i64 8)]) (br (ckS b != 0) (some [.v (i64 8)]) (some [.v (i64 0)])) = some [.v (i64 (ckE b))] := by
  unfold ckE
  rw [if_neg h]
  cases hb : ckB b
  · by_cases hs : ckS b = 0
    · rw [br_false, show (ckS b != 0) = false by simpa using hs, br_false, if_neg (by rintro (h | h); exact absurd h (by decide); exact h hs)]
    · rw [br_false, show (ckS b != 0) = true by simpa using hs, br_true, if_pos (.inr hs)]
  · rw [br_true, if_pos (.inl rfl)]
theorem den_ck : Den Tryz.prog 49 Fck := evF_den C2_ok fun ds rs h => by
  unfold Fck at h
  split at h
  · rename_i b
    simp only [Option.some.injEq, Prod.mk.injEq, true_and] at h
    subst h
    refine (tcheck inCk b).trans ?_
    by_cases h1 : (b.n : Int) < 1
    · rw [decide_eq_true h1, br_true]; unfold ckE; rw [if_pos (by omega)]
    · rw [decide_eq_false h1, br_false]
      by_cases h2 : (b.n : Int) > 10
      · rw [decide_eq_true h2, br_true]; unfold ckE; rw [if_pos (by omega)]
      · rw [decide_eq_false h2, br_false, show inCk b.n b.n = true from decide_eq_true ⟨rfl, by omega⟩, br_true, ck_tail b (by omega)]
  · cases h
end Go.Proofs.YtlfeobdfgmlmpaaGreatDoor.Ld
/- Package ledger: the best grouping: its loops. No conditions. -/
namespace Go.Proofs.YtlfeobdfgmlmpaaGreatDoor.Ld
open Go.Ev
set_option linter.all false
/-- The parties whose balances are not 0, and no groups yet. -/
def rsU (b : Row) (j : Nat) (x : Nat × Row) : Nat × Row := (if b.I j 0 ≠ 0 then x.1 ||| 2 ^ j else x.1, x.2.setI j 0 (-1))
def rsR (b : Row) : Nat → Nat → Nat × Row → Nat × Row
  | 0, _, x => x
  | m + 1, j, x => rsR b m (j + 1) (rsU b j x)
/-- Whether one group comes before another one. -/
def befN (g h : Nat) : Bool := !Nat.beq (((g ^^^ h) &&& (18446744073709551616 - (g ^^^ h))) &&& g) 0
def bstU (m : Row) (rest low g best : Nat) : Nat :=
  if g &&& low = 0 ∨ m.I g 0 < 1 ∨ m.I (rest ^^^ g) 0 ≠ wi (m.I rest 0 - 1) then best else if best = 0 ∨ befN g best = true then g else best
def bst (m : Row) (rest low : Nat) : Nat → Nat → Nat → Nat
  | 0, _, best => best
  | n + 1, g, best => if g = 0 then best else bst m rest low n ((g - 1) &&& rest) (bstU m rest low g best)
/-- A group is written down. -/
def asR (best : Nat) (group : Int) : Nat → Nat → Row → Row
  | 0, _, o => o
  | m + 1, j, o => asR best group m (j + 1) (if best.testBit j = true then o.setI j 0 group else o)
def lowN (s : Nat) : Nat := s &&& (18446744073709551616 - s)
def grS (m : Row) (n : Nat) : Nat → Nat → Nat → Row → Option Row
  | f, rest, group, o => if rest = 0 then some o else match f with
    | 0 => none
    | f + 1 => grS m n f (rest ^^^ bst m rest (lowN rest) (rest + 1) rest 0) (group + 1) (asR (bst m rest (lowN rest) (rest + 1) rest 0) group n 0 o)
def S7 (nb n n' : Nat) (m rest j : Int) (b o : Row) : St := ⟨[sl 0 nb] ++ us 4 ++ [sl 1 n, i64 rest] ++ us 16 ++ [sl 0 n', i64 m, i64 j] ++ us 83, [[]], [Rb false b, Rb true o]⟩
def S7x (nb n : Nat) (rest : Int) (b o : Row) : St := ⟨[sl 0 nb] ++ us 4 ++ [sl 1 n, i64 rest] ++ us 102, [[]], [Rb false b, Rb true o]⟩
def G7 (cd : Nat → Nat → Nat → Int → Bool) : List It → (X → St → Option (List D)) → Option (List D)
  | [.n nb, .n n, .n n', .i m, .r b, .r o], k => br (cd nb n n' m) (k (.exit 0) (S7x nb n (rsR b n 0 (0, o)).1 b (rsR b n 0 (0, o)).2)) none
  | _, _ => none
def l7 (cd : Nat → Nat → Nat → Int → Bool) : LoopC where
  f := 35
  id := 7
  lv := [0, 5, 6, 23, 24, 25]
  lx := [0, 2, 3, 5, 6]
  p := { τ := [.v (.sl 0)] ++ pu 4 ++ [.v (.sl 1), .v (.c (i64 0))] ++ pu 16 ++ [.v (.sl 0), .v (.int .i64), .v (.c (i64 0))] ++ pu 83, saved := [[]], mem := [.row ks1 false, .row ks1 true] }
  G := G7 cd
def S20 (nb no nm : Nat) (rest group low best g : Int) (b o m : Row) : St := ⟨[sl 0 nb] ++ us 4 ++ [sl 1 no, i64 rest] ++ us 2 ++ [sl 2 nm, i64 group, i64 low, i64 best, i64 g] ++ us 95, [[]], [Rb false b, Rb true o, Rb true m]⟩
def S20x (nb no nm : Nat) (rest group best : Int) (b o m : Row) : St := ⟨[sl 0 nb] ++ us 4 ++ [sl 1 no, i64 rest] ++ us 2 ++ [sl 2 nm, i64 group] ++ us 1 ++ [i64 best] ++ us 96, [[]], [Rb false b, Rb true o, Rb true m]⟩
def G20 (cd : Nat → Int → Int → Int → Int → Bool) : List It → (X → St → Option (List D)) → Option (List D)
  | [.n nb, .n no, .i rest, .n nm, .i group, .i low, .i best, .i g, .r b, .r o, .r m], k => br (cd nm rest low best g) (k (.exit 4) (S20x nb no nm rest group (bst m rest.toNat low.toNat (g.toNat + 1) g.toNat 0 : Nat) b o m)) none
  | _, _ => none
def l20 (cd : Nat → Int → Int → Int → Int → Bool) : LoopC where
  f := 35
  id := 20
  lv := [0, 5, 6, 9, 10, 11, 12, 13]
  lx := [0, 2, 3, 5, 6, 9, 10, 12]
  p := { τ := [.v (.sl 0)] ++ pu 4 ++ [.v (.sl 1), .v (.int .i64)] ++ pu 2 ++ [.v (.sl 2), .v (.int .i64), .v (.int .i64), .v (.int .i64), .v (.int .i64)] ++ pu 95, saved := [[]], mem := [.row ks1 false, .row ks1 true, .row ks1 true] }
  G := G20 cd
def S26 (nb no nm : Nat) (rest group best c j : Int) (b o m : Row) : St := ⟨[sl 0 nb] ++ us 4 ++ [sl 1 no, i64 rest] ++ us 2 ++ [sl 2 nm, i64 group] ++ us 1 ++ [i64 best] ++ us 78 ++ [i64 c, i64 j] ++ us 16, [[]], [Rb false b, Rb true o, Rb true m]⟩
def G26 (cd : Nat → Int → Int → Bool) : List It → (X → St → Option (List D)) → Option (List D)
  | [.n nb, .n no, .i rest, .n nm, .i group, .i best, .i c, .r b, .r o, .r m], k => br (cd no best c) (k (.exit 6) (S20x nb no nm rest group best b (asR best.toNat group no 0 o) m)) none
  | _, _ => none
def l26 (cd : Nat → Int → Int → Bool) : LoopC where
  f := 35
  id := 26
  lv := [0, 5, 6, 9, 10, 12, 91, 92]
  lx := [0, 2, 3, 5, 6, 9, 10, 12]
  p := { τ := [.v (.sl 0)] ++ pu 4 ++ [.v (.sl 1), .v (.int .i64)] ++ pu 2 ++ [.v (.sl 2), .v (.int .i64)] ++ pu 1 ++ [.v (.int .i64)] ++ pu 78 ++ [.v (.int .i64), .v (.c (i64 0))] ++ pu 16, saved := [[]], mem := [.row ks1 false, .row ks1 true, .row ks1 true] }
  G := G26 cd
def S15 (nb no nm : Nat) (rest group : Int) (b o m : Row) : St := ⟨[sl 0 nb] ++ us 4 ++ [sl 1 no, i64 rest] ++ us 2 ++ [sl 2 nm, i64 group] ++ us 98, [[]], [Rb false b, Rb true o, Rb true m]⟩
def S15x (no : Nat) (o : Row) : St := ⟨us 5 ++ [sl 0 no] ++ us 103, [[]], [Rb true o]⟩
def G15 (gs : Nat → Nat → Nat → Int → Row → Row → Option Row) : List It → (X → St → Option (List D)) → Option (List D)
  | [.n nb, .n no, .i rest, .n nm, .r _, .r o, .r m], k => match gs nb no nm rest o m with | some o' => k (.exit 2) (S15x no o') | none => none
  | _, _ => none
def l15 (gs : Nat → Nat → Nat → Int → Row → Row → Option Row) : LoopC where
  f := 35
  id := 15
  lv := [0, 5, 6, 9, 10]
  lx := [2, 3, 5]
  p := { τ := [.v (.sl 0)] ++ pu 4 ++ [.v (.sl 1), .v (.int .i64)] ++ pu 2 ++ [.v (.sl 2), .v (.c (i64 0))] ++ pu 98, saved := [[]], mem := [.row ks1 false, .row ks1 true, .row ks1 true] }
  G := G15 gs
noncomputable def C3g (c7 : Nat → Nat → Nat → Int → Bool) (c20 : Nat → Int → Int → Int → Int → Bool) (c26 : Nat → Int → Int → Bool) (gs : Nat → Nat → Nat → Int → Row → Row → Option Row) : Cx :=
  mkCx Tryz.prog fns [(49, Fck), (50, Fmost)] [l7 c7, l20 c20, l26 c26, l15 gs]
section
variable (c7 : Nat → Nat → Nat → Int → Bool) (c20 : Nat → Int → Int → Int → Int → Bool) (c26 : Nat → Int → Int → Bool) (gs : Nat → Nat → Nat → Int → Row → Row → Option Row)
theorem round7 (R : St → Option (List D)) (K : X → St → Option (List D)) (p : Nat) (nb n n' : Nat) (m rest j : Int) (b o : Row) : evCode (C3g c7 c20 c26 gs) 35 true (inl (C3g c7 c20 c26 gs) (p + 4)) (lbody (C3g c7 c20 c26 gs).P 35 7) (S7 nb n n' m rest j b o) (rnd [0, 5, 6, 23, 24, 25] (some [0, 2, 3, 5, 6]) R K) =
    br (decide (j < m)) (br (decide (0 ≤ j) && decide (j < (n' : Int))) (br (decide (0 ≤ j) && decide (j < (n : Int))) (br (b.I (0 + j.toNat) 0 != 0) (br (decide (j < 0)) none (R (S7 nb n n' m (bOr rest (wi (1 * 2 ^ min j.toNat 64))) (wi (j + 1)) b (o.setI (0 + j.toNat) 0 (-1))))) (R (S7 nb n n' m rest (wi (j + 1)) b (o.setI (0 + j.toNat) 0 (-1))))) none) none)
      (K (.exit 0) (S7x nb n rest b o)) := by kernel_rfl
def bef (g h : Int) : Bool := bAnd (bAnd (bXor g h) (wi (0 - bXor g h))) g != 0
theorem round20 (R : St → Option (List D)) (K : X → St → Option (List D)) (p : Nat) (nb no nm : Nat) (rest group low best g : Int) (b o m : Row) : evCode (C3g c7 c20 c26 gs) 35 true (inl (C3g c7 c20 c26 gs) (p + 4)) (lbody (C3g c7 c20 c26 gs).P 35 20) (S20 nb no nm rest group low best g b o m) (rnd [0, 5, 6, 9, 10, 11, 12, 13] (some [0, 2, 3, 5, 6, 9, 10, 12]) R K) =
    br (decide (g > 0)) (br (bAnd g low == 0) (R (S20 nb no nm rest group low best (bAnd (wi (g - 1)) rest) b o m)) (br (decide (0 ≤ g) && decide (g < (nm : Int))) (br (decide (m.I (0 + g.toNat) 0 < 1)) (R (S20 nb no nm rest group low best (bAnd (wi (g - 1)) rest) b o m))
      (br (decide (0 ≤ bXor rest g) && decide (bXor rest g < (nm : Int))) (br (decide (0 ≤ rest) && decide (rest < (nm : Int))) (br (m.I (0 + (bXor rest g).toNat) 0 != wi (m.I (0 + rest.toNat) 0 - 1)) (R (S20 nb no nm rest group low best (bAnd (wi (g - 1)) rest) b o m))
        (br (best == 0) (R (S20 nb no nm rest group low g (bAnd (wi (g - 1)) rest) b o m)) (br (bef g best) (R (S20 nb no nm rest group low g (bAnd (wi (g - 1)) rest) b o m)) (R (S20 nb no nm rest group low best (bAnd (wi (g - 1)) rest) b o m))))) none) none)) none))
      (K (.exit 4) (S20x nb no nm rest group best b o m)) := by kernel_rfl
theorem round26 (R : St → Option (List D)) (K : X → St → Option (List D)) (p : Nat) (nb no nm : Nat) (rest group best c j : Int) (b o m : Row) : evCode (C3g c7 c20 c26 gs) 35 true (inl (C3g c7 c20 c26 gs) (p + 4)) (lbody (C3g c7 c20 c26 gs).P 35 26) (S26 nb no nm rest group best c j b o m) (rnd [0, 5, 6, 9, 10, 12, 91, 92] (some [0, 2, 3, 5, 6, 9, 10, 12]) R K) =
    br (decide (j < c)) (br (decide (j < 0)) none (br (bAnd (bShr best j) 1 == 1) (br (decide (0 ≤ j) && decide (j < (no : Int))) (R (S26 nb no nm rest group best c (wi (j + 1)) b (o.setI (0 + j.toNat) 0 group) m)) none) (R (S26 nb no nm rest group best c (wi (j + 1)) b o m))))
      (K (.exit 6) (S20x nb no nm rest group best b o m)) := by kernel_rfl
set_option maxRecDepth 100000 in
theorem round15 (R : St → Option (List D)) (K : X → St → Option (List D)) (p : Nat) (nb no nm : Nat) (rest group : Int) (b o m : Row) : evCode (C3g c7 c20 c26 gs) 35 true (inl (C3g c7 c20 c26 gs) (p + 4)) (lbody (C3g c7 c20 c26 gs).P 35 15) (S15 nb no nm rest group b o m) (rnd [0, 5, 6, 9, 10] (some [2, 3, 5]) R K) =
    br (rest != 0) (br (c20 nm rest (bAnd rest (wi (0 - rest))) 0 rest)
      (br (c26 no (bst m rest.toNat (bAnd rest (wi (0 - rest))).toNat (rest.toNat + 1) rest.toNat 0 : Nat) nb)
        (R (S15 nb no nm (bXor rest (bst m rest.toNat (bAnd rest (wi (0 - rest))).toNat (rest.toNat + 1) rest.toNat 0 : Nat)) (wi (group + 1)) b (asR (bst m rest.toNat (bAnd rest (wi (0 - rest))).toNat (rest.toNat + 1) rest.toNat 0) group no 0 o) m)) none) none)
      (K (.exit 2) (S15x no o)) := by kernel_rfl
end
end Go.Proofs.YtlfeobdfgmlmpaaGreatDoor.Ld
/- Package ledger: the best grouping: contract. No conditions. -/
namespace Go.Proofs.YtlfeobdfgmlmpaaGreatDoor.Ld
open Go.Ev
set_option linter.all false
theorem sub_xor {r g : Nat} (h : g &&& r = g) : (r ^^^ g) &&& r = r ^^^ g := by
  apply Nat.eq_of_testBit_eq
  intro i
  have hi := congrArg (fun x => x.testBit i) h
  simp only [Nat.testBit_and, Nat.testBit_xor] at hi ⊢
  cases h1 : g.testBit i <;> cases h2 : r.testBit i <;> simp_all
theorem xor_le {r g : Nat} (h : g &&& r = g) : r ^^^ g ≤ r := by rw [← sub_xor h]; exact Nat.and_le_right
theorem sub_le {r g : Nat} (h : g &&& r = g) : g ≤ r := by rw [← h]; exact Nat.and_le_right
theorem bNegAnd (x : Nat) (hx : x < 9223372036854775808) : bAnd (x : Int) (wi (0 - (x : Int))) = ((x &&& (18446744073709551616 - x) : Nat) : Int) := by
  rw [wiN (by omega) (by omega), Int.zero_sub]
  by_cases h0 : x = 0
  · subst h0; rfl
  · have h1 : (BitVec.ofInt 64 (-(x : Int))).toNat = 18446744073709551616 - x := by
      rw [BitVec.toNat_ofInt]
      omega
    unfold bAnd
    have h : x &&& (18446744073709551616 - x) ≤ x := Nat.and_le_left
    rw [BitVec.toNat_and, ofI x (by omega), h1]
    exact wrap64 (by omega) (by omega)
theorem befN_eq (g h : Nat) (hg : g < 4611686018427387904) (hh : h < 4611686018427387904) : bef (g : Int) (h : Int) = befN g h := by
  unfold bef befN
  have hx : g ^^^ h < 2 ^ 62 := Nat.xor_lt_two_pow (by omega) (by omega)
  have hl : (g ^^^ h) &&& (18446744073709551616 - (g ^^^ h)) ≤ g ^^^ h := Nat.and_le_left
  rw [bXorN g h (by omega) (by omega), bNegAnd _ (by omega), bAndN _ g (by omega) (by omega)]
  generalize (g ^^^ h) &&& (18446744073709551616 - (g ^^^ h)) &&& g = x
  by_cases h0 : x = 0
  · subst h0; rfl
  · have hq : Nat.beq x 0 = false := by
      cases hx : Nat.beq x 0
      · rfl
      · exact absurd (Nat.eq_of_beq_eq_true hx) h0
    rw [hq]
    exact bne_iff_ne.mpr (by omega)
def in7 (_nb n n' : Nat) (m : Int) : Bool := decide (n = n' ∧ m = n ∧ n ≤ 60)
def in20 (nm : Nat) (rest low best g : Int) : Bool := decide (0 ≤ rest ∧ rest < nm ∧ nm ≤ 4611686018427387904 ∧ 0 ≤ low ∧ low < 4611686018427387904 ∧ best = 0 ∧ g = rest)
def in26 (no : Nat) (best c : Int) : Bool := decide (0 ≤ best ∧ best < 4611686018427387904 ∧ c = no ∧ no ≤ 60)
def gs15 (nb no nm : Nat) (rest : Int) (o m : Row) : Option Row := if 0 ≤ rest ∧ rest < nm ∧ nm ≤ 4611686018427387904 ∧ nb = no ∧ no ≤ 60 then grS m no 64 rest.toNat 0 o else none
noncomputable def C3 : Cx := C3g in7 in20 in26 gs15
theorem go7 {f : St → (X → St → Option (List D)) → Option (List D)} {lv : List Tmp} {lx : Option (List Tmp)} {nb n : Nat} {b : Row} (hn : n ≤ 60)
    (hr : ∀ (rest j : Int) (o : Row) R K, f (S7 nb n n n rest j b o) (rnd lv lx R K) = br (decide (j < (n : Int))) (br (decide (0 ≤ j) && decide (j < (n : Int))) (br (decide (0 ≤ j) && decide (j < (n : Int))) (br (b.I (0 + j.toNat) 0 != 0) (br (decide (j < 0)) none (R (S7 nb n n n (bOr rest (wi (1 * 2 ^ min j.toNat 64))) (wi (j + 1)) b (o.setI (0 + j.toNat) 0 (-1))))) (R (S7 nb n n n rest (wi (j + 1)) b (o.setI (0 + j.toNat) 0 (-1))))) none) none)
      (K (.exit 0) (S7x nb n rest b o))) (K : X → St → Option (List D)) :
    ∀ (m fu j rest : Nat) (o : Row), j + m = n → m < fu → rest < 2 ^ j → rounds lv lx f fu (S7 nb n n n rest j b o) K = K (.exit 0) (S7x nb n (rsR b m j (rest, o)).1 b (rsR b m j (rest, o)).2)
  | 0, fu + 1, j, rest, o, h0, h1, h2 => by
    rw [rnds1, hr, decide_eq_false (show ¬ (j : Int) < (n : Int) by omega), br_false]
    rfl
  | m + 1, fu + 1, j, rest, o, h0, h1, h2 => by
    have hp : 2 ^ j ≤ 2 ^ 60 := Nat.pow_le_pow_right (by decide) (by omega)
    have hp2 : 2 ^ (j + 1) = 2 * 2 ^ j := by rw [Nat.pow_succ, Nat.mul_comm]
    have hor : rest ||| 2 ^ j < 2 ^ (j + 1) := Nat.or_lt_two_pow (by omega) (by omega)
    have hj : (decide (0 ≤ (j : Int)) && decide ((j : Int) < (n : Int))) = true := by simp only [Bool.and_eq_true, decide_eq_true_eq]; omega
    have h2j : wi (1 * 2 ^ min j 64) = ((2 ^ j : Nat) : Int) := by
      rw [Nat.min_eq_left (by omega), Int.one_mul, show (2 : Int) ^ j = ((2 ^ j : Nat) : Int) by rw [Int.natCast_pow]; rfl]
      generalize 2 ^ j = x at hp ⊢
      exact wiN (by omega) (by omega)
    have hbo : bOr (rest : Int) ((2 ^ j : Nat) : Int) = ((rest ||| 2 ^ j : Nat) : Int) := bOrN _ _ (by omega) (by omega)
    rw [rnds1, hr, hj, decide_eq_true (show (j : Int) < (n : Int) by omega), br_true, br_true, br_true, Int.toNat_natCast, Nat.zero_add, wiN (n := (j : Int) + 1) (by omega) (by omega), show (j : Int) + 1 = ((j + 1 : Nat) : Int) by omega, h2j, hbo, decide_eq_false (show ¬ (j : Int) < 0 by omega), br_false]
    unfold rsR rsU
    by_cases hb : b.I j 0 = 0
    · rw [show (b.I j 0 != 0) = false by simpa using hb, br_false, if_neg (fun h => h hb)]
      exact go7 hn hr K m fu (j + 1) rest _ (by omega) (by omega) (by omega)
    · rw [show (b.I j 0 != 0) = true by simpa using hb, br_true, if_pos hb]
      exact go7 hn hr K m fu (j + 1) (rest ||| 2 ^ j) _ (by omega) (by omega) hor
theorem go20 {f : St → (X → St → Option (List D)) → Option (List D)} {lv : List Tmp} {lx : Option (List Tmp)} {nb no nm rest low : Nat} {group : Int} {b o m : Row} (hrest : rest < nm) (hnm : nm ≤ 4611686018427387904) (hlow : low < 4611686018427387904)
    (hr : ∀ (best g : Int) R K, f (S20 nb no nm rest group low best g b o m) (rnd lv lx R K) =
      br (decide (g > 0)) (br (bAnd g low == 0) (R (S20 nb no nm rest group low best (bAnd (wi (g - 1)) rest) b o m)) (br (decide (0 ≤ g) && decide (g < (nm : Int))) (br (decide (m.I (0 + g.toNat) 0 < 1)) (R (S20 nb no nm rest group low best (bAnd (wi (g - 1)) rest) b o m))
        (br (decide (0 ≤ bXor rest g) && decide (bXor rest g < (nm : Int))) (br (decide (0 ≤ (rest : Int)) && decide ((rest : Int) < (nm : Int))) (br (m.I (0 + (bXor rest g).toNat) 0 != wi (m.I (0 + (rest : Int).toNat) 0 - 1)) (R (S20 nb no nm rest group low best (bAnd (wi (g - 1)) rest) b o m))
          (br (best == 0) (R (S20 nb no nm rest group low g (bAnd (wi (g - 1)) rest) b o m)) (br (bef g best) (R (S20 nb no nm rest group low g (bAnd (wi (g - 1)) rest) b o m)) (R (S20 nb no nm rest group low best (bAnd (wi (g - 1)) rest) b o m))))) none) none)) none))
        (K (.exit 4) (S20x nb no nm rest group best b o m))) (K : X → St → Option (List D)) :
    ∀ (n fu g best : Nat), g &&& rest = g → best ≤ rest → g < n → n ≤ fu → rounds lv lx f fu (S20 nb no nm rest group low best g b o m) K = K (.exit 4) (S20x nb no nm rest group (bst m rest low n g best : Nat) b o m)
  | n + 1, fu + 1, g, best, h0, hbest, h1, h2 => by
    have hgs := sub_le h0
    have hxl := xor_le h0
    rw [rnds1, hr]
    unfold bst
    by_cases hg : g = 0
    · rw [if_pos hg, decide_eq_false (show ¬ (g : Int) > 0 by omega), br_false]
    · have hnext : bAnd (wi ((g : Int) - 1)) (rest : Int) = (((g - 1) &&& rest : Nat) : Int) := by
        rw [wiN (by omega) (by omega), show (g : Int) - 1 = ((g - 1 : Nat) : Int) by omega]
        exact bAndN _ _ (by omega) (by omega)
      have hle : (g - 1) &&& rest ≤ g - 1 := Nat.and_le_left
      have hsub : ((g - 1) &&& rest) &&& rest = (g - 1) &&& rest := by rw [Nat.and_assoc, Nat.and_self]
      have ih := fun best' hb' => go20 hrest hnm hlow hr K n fu ((g - 1) &&& rest) best' hsub hb' (by omega) (by omega)
      have hgl : g &&& low ≤ g := Nat.and_le_left
      have hrng : (decide (0 ≤ (rest : Int)) && decide ((rest : Int) < (nm : Int))) = true := by simp only [Bool.and_eq_true, decide_eq_true_eq]; omega
      rw [if_neg hg, decide_eq_true (show (g : Int) > 0 by omega), br_true, hnext, bAndN g low (by omega) (by omega), bXorN rest g (by omega) (by omega), Int.toNat_natCast, Int.toNat_natCast, Int.toNat_natCast, Nat.zero_add, Nat.zero_add, Nat.zero_add, hrng,
        show (decide (0 ≤ (g : Int)) && decide ((g : Int) < (nm : Int))) = true by simp only [Bool.and_eq_true, decide_eq_true_eq]; omega,
        show (decide (0 ≤ ((rest ^^^ g : Nat) : Int)) && decide (((rest ^^^ g : Nat) : Int) < (nm : Int))) = true by simp only [Bool.and_eq_true, decide_eq_true_eq]; omega, br_true, br_true, br_true, befN_eq g best (by omega) (by omega)]
      unfold bstU
      by_cases c1 : g &&& low = 0
      · rw [c1, show (((0 : Nat) : Int) == 0) = true from rfl, br_true, if_pos (.inl rfl)]
        exact ih best hbest
      · rw [show (((g &&& low : Nat) : Int) == 0) = false from beq_eq_false_iff_ne.mpr (by omega), br_false]
        by_cases c2 : m.I g 0 < 1
        · rw [decide_eq_true c2, br_true, if_pos (.inr (.inl c2))]
          exact ih best hbest
        · rw [decide_eq_false c2, br_false]
          by_cases c3 : m.I (rest ^^^ g) 0 = wi (m.I rest 0 - 1)
          · rw [show (m.I (rest ^^^ g) 0 != wi (m.I rest 0 - 1)) = false by simpa using c3, br_false, if_neg (by rintro (h | h | h); exact c1 h; exact c2 h; exact h c3)]
            by_cases c4 : best = 0
            · rw [show ((best : Int) == 0) = true from beq_iff_eq.mpr (by omega), br_true, if_pos (.inl c4)]
              exact ih g hgs
            · rw [show ((best : Int) == 0) = false from beq_eq_false_iff_ne.mpr (by omega), br_false]
              cases c5 : befN g best
              · rw [br_false, if_neg (by rintro (h | h); exact c4 h; exact absurd h (by decide))]
                exact ih best hbest
              · rw [br_true, if_pos (.inr rfl)]
                exact ih g hgs
          · rw [show (m.I (rest ^^^ g) 0 != wi (m.I rest 0 - 1)) = true by simpa using c3, br_true, if_pos (.inr (.inr c3))]
            exact ih best hbest
theorem go26 {f : St → (X → St → Option (List D)) → Option (List D)} {lv : List Tmp} {lx : Option (List Tmp)} {nb no nm best : Nat} {rest group : Int} {b m : Row} (hb : best < 4611686018427387904) (hn : no ≤ 60)
    (hr : ∀ (j : Int) (o : Row) R K, f (S26 nb no nm rest group best no j b o m) (rnd lv lx R K) = br (decide (j < (no : Int))) (br (decide (j < 0)) none (br (bAnd (bShr best j) 1 == 1) (br (decide (0 ≤ j) && decide (j < (no : Int))) (R (S26 nb no nm rest group best no (wi (j + 1)) b (o.setI (0 + j.toNat) 0 group) m)) none) (R (S26 nb no nm rest group best no (wi (j + 1)) b o m))))
      (K (.exit 6) (S20x nb no nm rest group best b o m))) (K : X → St → Option (List D)) :
    ∀ (k fu j : Nat) (o : Row), j + k = no → k < fu → rounds lv lx f fu (S26 nb no nm rest group best no j b o m) K = K (.exit 6) (S20x nb no nm rest group best b (asR best group k j o) m)
  | 0, fu + 1, j, o, h0, h1 => by
    rw [rnds1, hr, decide_eq_false (show ¬ (j : Int) < (no : Int) by omega), br_false]
    rfl
  | k + 1, fu + 1, j, o, h0, h1 => by
    rw [rnds1, hr, show (decide (0 ≤ (j : Int)) && decide ((j : Int) < (no : Int))) = true by simp only [Bool.and_eq_true, decide_eq_true_eq]; omega, decide_eq_true (show (j : Int) < (no : Int) by omega), br_true, decide_eq_false (show ¬ (j : Int) < 0 by omega), br_false, bit_iff best j (by omega) (by omega),
      br_true, Int.toNat_natCast, Nat.zero_add, wiN (n := (j : Int) + 1) (by omega) (by omega), show (j : Int) + 1 = ((j + 1 : Nat) : Int) by omega]
    unfold asR
    cases hbit : best.testBit j
    · rw [br_false, if_neg (by decide)]
      exact go26 hb hn hr K k fu (j + 1) o (by omega) (by omega)
    · rw [br_true, if_pos rfl]
      exact go26 hb hn hr K k fu (j + 1) _ (by omega) (by omega)
theorem bst_sub {m : Row} {rest low : Nat} : ∀ (n g best : Nat), g &&& rest = g → best &&& rest = best → bst m rest low n g best &&& rest = bst m rest low n g best
  | 0, g, best, _, h => h
  | n + 1, g, best, hg, hb => by
    unfold bst
    split
    · exact hb
    · refine bst_sub n _ _ (by rw [Nat.and_assoc, Nat.and_self]) ?_
      unfold bstU
      split
      · exact hb
      · split
        · exact hg
        · exact hb
theorem low_le (s : Nat) : lowN s ≤ s := Nat.and_le_left
theorem go15 {f : St → (X → St → Option (List D)) → Option (List D)} {lv : List Tmp} {lx : Option (List Tmp)} {nb no nm : Nat} {b m : Row} (hnm : nm ≤ 4611686018427387904) (hno : nb = no ∧ no ≤ 60)
    (hr : ∀ (rest group : Int) (o : Row) R K, f (S15 nb no nm rest group b o m) (rnd lv lx R K) =
      br (rest != 0) (br (in20 nm rest (bAnd rest (wi (0 - rest))) 0 rest)
        (br (in26 no (bst m rest.toNat (bAnd rest (wi (0 - rest))).toNat (rest.toNat + 1) rest.toNat 0 : Nat) nb)
          (R (S15 nb no nm (bXor rest (bst m rest.toNat (bAnd rest (wi (0 - rest))).toNat (rest.toNat + 1) rest.toNat 0 : Nat)) (wi (group + 1)) b (asR (bst m rest.toNat (bAnd rest (wi (0 - rest))).toNat (rest.toNat + 1) rest.toNat 0) group no 0 o) m)) none) none)
        (K (.exit 2) (S15x no o))) (K : X → St → Option (List D)) :
    ∀ (k fu rest group : Nat) (o o' : Row), grS m no k rest group o = some o' → k < fu → rest < nm → group + k ≤ 1000 → rounds lv lx f fu (S15 nb no nm rest group b o m) K = K (.exit 2) (S15x no o') := by
  intro k
  induction k with
  | zero =>
    intro fu rest group o o' h hk _ _
    obtain ⟨fu, rfl⟩ : ∃ fu', fu = fu' + 1 := ⟨fu - 1, by omega⟩
    unfold grS at h
    split at h
    · rename_i h0
      cases h
      rw [rnds1, hr, h0]
      rfl
    · cases h
  | succ k ih =>
    intro fu rest group o o' h hk hrest hgr
    obtain ⟨fu, rfl⟩ : ∃ fu', fu = fu' + 1 := ⟨fu - 1, by omega⟩
    unfold grS at h
    by_cases h0 : rest = 0
    · rw [if_pos h0] at h
      cases h
      rw [rnds1, hr, h0]
      rfl
    · rw [if_neg h0] at h
      have hs := bst_sub (m := m) (low := lowN rest) (rest + 1) rest 0 (Nat.and_self rest) (Nat.zero_and rest)
      have hl := low_le rest
      have hle := sub_le hs
      have hxl := xor_le hs
      rw [rnds1, hr, show ((rest : Int) != 0) = true from bne_iff_ne.mpr (by omega), br_true, bNegAnd rest (by omega), show rest &&& (18446744073709551616 - rest) = lowN rest from rfl, Int.toNat_natCast, Int.toNat_natCast,
        show in20 nm rest (lowN rest : Nat) 0 rest = true from decide_eq_true ⟨by omega, by omega, hnm, by omega, by omega, rfl, rfl⟩, br_true]
      generalize bst m rest (lowN rest) (rest + 1) rest 0 = best at *
      rw [show in26 no (best : Nat) nb = true from decide_eq_true ⟨by omega, by omega, by omega, hno.2⟩, br_true, bXorN rest best (by omega) (by omega), wiN (n := (group : Int) + 1) (by omega) (by omega), show (group : Int) + 1 = ((group + 1 : Nat) : Int) by omega]
      exact ih fu (rest ^^^ best) (group + 1) _ o' h (by omega) (by omega) (by omega)
set_option maxRecDepth 100000 in
theorem loop7 : LoopOk C3 (l7 in7) := ⟨by kernel_rfl, fun q its k rr h => by
  show rounds [0, 5, 6, 23, 24, 25] (some [0, 2, 3, 5, 6]) (evCode C3 35 true (inl C3 (q + 4)) (lbody C3.P 35 7)) 18446744073709551616 (Go.Ev.bst (l7 in7).p its) k = some rr
  change G7 in7 its k = some rr at h
  unfold G7 at h
  split at h
  · rename_i nb n n' m b o
    rcases br_some h with ⟨h1, h2⟩ | ⟨_, h2⟩
    · obtain ⟨k1, k2, k3⟩ := of_decide_eq_true h1
      subst k1
      subst k2
      rw [← h2]
      exact go7 (nb := nb) (b := b) k3 (fun rest j o R K => round7 in7 in20 in26 gs15 R K q nb n n n rest j b o) k n 18446744073709551616 0 0 o (by omega) (by omega) (by decide)
    · cases h2
  · cases h⟩
set_option maxRecDepth 100000 in
theorem loop20 : LoopOk C3 (l20 in20) := ⟨by kernel_rfl, fun q its k rr h => by
  show rounds [0, 5, 6, 9, 10, 11, 12, 13] (some [0, 2, 3, 5, 6, 9, 10, 12]) (evCode C3 35 true (inl C3 (q + 4)) (lbody C3.P 35 20)) 18446744073709551616 (Go.Ev.bst (l20 in20).p its) k = some rr
  change G20 in20 its k = some rr at h
  unfold G20 at h
  split at h
  · rename_i nb no rest nm group low best g b o m
    rcases br_some h with ⟨h1, h2⟩ | ⟨_, h2⟩
    · obtain ⟨k1, k2, k3, k4, k5, k6, k7⟩ := of_decide_eq_true h1
      obtain ⟨rest, rfl⟩ := Int.eq_ofNat_of_zero_le k1
      obtain ⟨low, rfl⟩ := Int.eq_ofNat_of_zero_le k4
      subst k6
      subst k7
      rw [← h2, Int.toNat_natCast, Int.toNat_natCast]
      exact go20 (nb := nb) (no := no) (group := group) (b := b) (o := o) (m := m) (by omega) k3 (by omega) (fun best g R K => round20 in7 in20 in26 gs15 R K q nb no nm rest group low best g b o m) k (rest + 1) 18446744073709551616 rest 0 (Nat.and_self rest) (by omega) (by omega) (by omega)
    · cases h2
  · cases h⟩
set_option maxRecDepth 100000 in
theorem loop26 : LoopOk C3 (l26 in26) := ⟨by kernel_rfl, fun q its k rr h => by
  show rounds [0, 5, 6, 9, 10, 12, 91, 92] (some [0, 2, 3, 5, 6, 9, 10, 12]) (evCode C3 35 true (inl C3 (q + 4)) (lbody C3.P 35 26)) 18446744073709551616 (Go.Ev.bst (l26 in26).p its) k = some rr
  change G26 in26 its k = some rr at h
  unfold G26 at h
  split at h
  · rename_i nb no rest nm group best c b o m
    rcases br_some h with ⟨h1, h2⟩ | ⟨_, h2⟩
    · obtain ⟨k1, k2, k3, k4⟩ := of_decide_eq_true h1
      obtain ⟨best, rfl⟩ := Int.eq_ofNat_of_zero_le k1
      subst k3
      rw [← h2, Int.toNat_natCast]
      exact go26 (nb := nb) (nm := nm) (rest := rest) (group := group) (b := b) (m := m) (by omega) k4 (fun j o R K => round26 in7 in20 in26 gs15 R K q nb no nm rest group best no j b o m) k no 18446744073709551616 0 o (by omega) (by omega)
    · cases h2
  · cases h⟩
set_option maxRecDepth 100000 in
theorem loop15 : LoopOk C3 (l15 gs15) := ⟨by kernel_rfl, fun q its k rr h => by
  show rounds [0, 5, 6, 9, 10] (some [2, 3, 5]) (evCode C3 35 true (inl C3 (q + 4)) (lbody C3.P 35 15)) 18446744073709551616 (Go.Ev.bst (l15 gs15).p its) k = some rr
  change G15 gs15 its k = some rr at h
  unfold G15 at h
  split at h
  · rename_i nb no rest nm b o m
    split at h
    · rename_i o' hgs
      unfold gs15 at hgs
      split at hgs
      · rename_i hc
        obtain ⟨k1, k2, k3, k4, k5⟩ := hc
        obtain ⟨rest, rfl⟩ := Int.eq_ofNat_of_zero_le k1
        rw [← h]
        exact go15 (b := b) (m := m) k3 ⟨k4, k5⟩ (fun rest group o R K => round15 in7 in20 in26 gs15 R K q nb no nm rest group b o m) k 64 18446744073709551616 rest 0 o o' (by rw [Int.toNat_natCast] at hgs; exact hgs) (by omega) (by omega) (by omega)
      · cases hgs
    · cases h
  · cases h⟩
theorem C3_ok : CxW C3 Wt := mkCx_okW enter mixed (fun p h => by
  simp only [List.mem_cons, List.not_mem_nil, or_false] at h
  rcases h with rfl | rfl
  · exact den_ck.at _
  · exact den_most) (fun l h => by
  simp only [List.mem_cons, List.not_mem_nil, or_false] at h
  rcases h with rfl | rfl | rfl | rfl
  · exact loop7
  · exact loop20
  · exact loop26
  · exact loop15)
theorem tgroups (c7 : Nat → Nat → Nat → Int → Bool) (c20 : Nat → Int → Int → Int → Int → Bool) (c26 : Nat → Int → Int → Bool) (gs : Nat → Nat → Nat → Int → Row → Row → Option Row) (b : Row) : evF (C3g c7 c20 c26 gs) 6 35 [.slice ks1 b] =
    br (ckE (winOf b 0 b.n) != 0) (some [.slice [.int .i64] Row.nil, .v (i64 (ckE (winOf b 0 b.n)))])
      (br (decide (0 ≤ (b.n : Int)) && decide ((b.n : Int) ≤ (b.n : Int)) && decide ((b.n : Int) ≤ 100000000000))
        (br (c7 b.n (b.n : Int).toNat b.n b.n)
          (br (decide ((winOf b 0 b.n).n ≤ 20))
            (match gs b.n (b.n : Int).toNat (mostR (winOf b 0 b.n)).n (rsR b (b.n : Int).toNat 0 (0, Row.zeros (b.n : Int).toNat)).1 (rsR b (b.n : Int).toNat 0 (0, Row.zeros (b.n : Int).toNat)).2 (mostR (winOf b 0 b.n)) with
              | some o' => some [.slice ks1 (winOf o' 0 (b.n : Int).toNat), .v (i64 0)]
              | none => none) none) none) none) := by kernel_rfl
end Go.Proofs.YtlfeobdfgmlmpaaGreatDoor.Ld
/- Package ledger: Groups: contract. No conditions. -/
namespace Go.Proofs.YtlfeobdfgmlmpaaGreatDoor.Ld
open Go.Ev
set_option linter.all false
theorem win_self {b : Row} (h : 0 < b.n) : winOf b 0 b.n = b := by
  cases b with
  | nil => cases h
  | mk n I B S R => rfl
theorem ckE_win (b : Row) : ckE (winOf b 0 b.n) = ckE b := by
  by_cases h : 0 < b.n
  · rw [win_self h]
  · have h0 : b.n = 0 := by omega
    have h1 : (winOf b 0 b.n).n = 0 := h0
    unfold ckE
    rw [if_pos (by omega), if_pos (by omega)]
theorem rsR_lt (b : Row) : ∀ (m j : Nat) (x : Nat × Row), x.1 < 2 ^ j → (rsR b m j x).1 < 2 ^ (j + m)
  | 0, j, x, h => h
  | m + 1, j, x, h => by
    unfold rsR
    rw [show j + (m + 1) = (j + 1) + m by omega]
    refine rsR_lt b m (j + 1) _ ?_
    have hp2 : 2 ^ (j + 1) = 2 * 2 ^ j := by rw [Nat.pow_succ, Nat.mul_comm]
    unfold rsU
    dsimp only
    split
    · exact Nat.or_lt_two_pow (by omega) (by omega)
    · omega
/-- The best grouping, where the search comes to an end. -/
def gpO (b : Row) : Option Row := grS (mostR b) b.n 64 (rsR b b.n 0 (0, Row.zeros b.n)).1 0 (rsR b b.n 0 (0, Row.zeros b.n)).2
def gpC (b : Row) : Bool := ckE b != 0 || (gpO b).isSome
def gpR (b : Row) : Row := if ckE b ≠ 0 then .nil else match gpO b with | some o => winOf o 0 b.n | none => .nil
def Fgroups : List D → Option (Bool × List D)
  | [.slice [.int .i64] b] => some (gpC b, [.slice ks1 (gpR b), .v (i64 (ckE b))])
  | _ => none
theorem den_groups : DenW Tryz.prog Wt 35 Fgroups := evF_denW C3_ok fun ds rs h => by
  unfold Fgroups at h
  split at h
  · rename_i b
    simp only [Option.some.injEq, Prod.mk.injEq] at h
    obtain ⟨hc, rfl⟩ := h
    refine (tgroups in7 in20 in26 gs15 b).trans ?_
    rw [ckE_win]
    unfold gpR
    by_cases hk : ckE b = 0
    · have hn : 1 ≤ b.n ∧ b.n ≤ 10 := by
        unfold ckE at hk
        split at hk
        · cases hk
        · omega
      have hp : 2 ^ b.n ≤ 2 ^ 10 := Nat.pow_le_pow_right (by decide) hn.2
      have hlt := rsR_lt b b.n 0 (0, Row.zeros b.n) (show 0 < 2 ^ 0 by decide)
      rw [Nat.zero_add] at hlt
      unfold gpC at hc
      rw [show (ckE b != 0) = false by simpa using hk, Bool.false_or] at hc
      rw [show (ckE b != 0) = false by simpa using hk, br_false, win_self (by omega), Int.toNat_natCast, show (decide (0 ≤ (b.n : Int)) && decide ((b.n : Int) ≤ (b.n : Int)) && decide ((b.n : Int) ≤ 100000000000)) = true by simp only [Bool.and_eq_true, decide_eq_true_eq]; omega, br_true,
        show in7 b.n b.n b.n b.n = true from decide_eq_true ⟨rfl, rfl, by omega⟩, br_true, decide_eq_true (show b.n ≤ 20 by omega), br_true, if_neg (fun h => h hk)]
      have hm : (mostR b).n = 2 ^ b.n := rfl
      have hg : gs15 b.n b.n (mostR b).n (rsR b b.n 0 (0, Row.zeros b.n)).1 (rsR b b.n 0 (0, Row.zeros b.n)).2 (mostR b) = gpO b := by
        unfold gs15 gpO
        rw [hm, if_pos ⟨by omega, by omega, by omega, rfl, by omega⟩, Int.toNat_natCast]
      rw [hg]
      cases ho : gpO b with
      | none => rw [ho] at hc; cases hc
      | some o => rw [hk]
    · rw [show (ckE b != 0) = true by simpa using hk, br_true, if_pos hk]; rfl
  · cases h
end Go.Proofs.YtlfeobdfgmlmpaaGreatDoor.Ld
/- Package ledger and its reference: what Check returns. No conditions. -/
namespace Go.Proofs.YtlfeobdfgmlmpaaGreatDoor.Ld.Lg
open Go.Ev

set_option linter.all false
def ks3 : List CK := [.int .i64, .int .i64, .int .i64]
def pay (n : Int) (r : Row) : List D := [.v (i64 n), .slice ks3 r]

/-- Where a payment is bad. -/
def isB (n p : Int) : Bool := decide (p ≥ 0) && decide (p < n)
def bad (n : Int) (r : Row) (j : Nat) : Bool := !isB n (r.I j 0) || !isB n (r.I j 1) || r.I j 0 == r.I j 1 || decide (r.I j 2 < 1) || decide (r.I j 2 > 1000000000)
def partiesB (n : Int) : Bool := decide (n ≥ 1) && decide (n ≤ 10)
/-- The error of a list of payments. -/
def chk (n : Int) (r : Row) : Int := bif partiesB n then (bif decide ((r.n : Int) > 200) then 4 else bif anyF (bad n r) r.n 0 then 8 else 0) else 2

/-! ### is, of the reference -/
/-! ### ledger.Check -/
def S7 (n : Int) (len : Nat) (l : Int) (j : Int) (r : Row) : St := { τ := [i64 n] ++ us 15 ++ [.slice (some ⟨0, 0, some 0⟩) len 0, i64 l, i64 j] ++ us 29, saved := [[]], mem := [some (.row ks3 false r)] }
def S7r : St := { τ := us 4 ++ [i64 8] ++ us 43, saved := [[]], mem := [] }
def S7x : St := { τ := us 48, saved := [[]], mem := [] }
def G7 : List It → (X → St → Option (List D)) → Option (List D)
  | [.i n, .n len, .i l, .r r], k => br (decide (l = (len : Int)) && decide (len ≤ 1000)) (br (anyF (bad n r) len 0) (k .ret S7r) (k (.exit 0) S7x)) none
  | _, _ => none
def l7 : LoopC where
  f := 36
  id := 7
  lv := [0, 16, 17, 18]
  lx := [4]
  p := { τ := [.v (.int .i64)] ++ pu 15 ++ [.v (.sl 0), .v (.int .i64), .v (.c (i64 0))] ++ pu 29, saved := [[]], mem := [.row ks3 false] }
  G := G7
noncomputable def C7 : Cx := mkCx Tryz.prog fns [] [l7]

theorem round7 (d : Nat) (R : St → Option (List D)) (K : X → St → Option (List D)) (n : Int) (len : Nat) (l : Int) (j : Nat) (r : Row) :
    evCode C7 36 true (inl C7 (d + 4)) (lbody C7.P 36 7) (S7 n len l j r) (rnd [0, 16, 17, 18] (some [4]) R K) =
    br (decide ((j : Int) < l)) (br (decide (0 ≤ (j : Int)) && decide ((j : Int) < len))
      (br (decide (r.I (0 + j) 0 ≥ 0)) (br (!decide (r.I (0 + j) 0 < n)) (K .ret S7r)
        (br (decide (r.I (0 + j) 1 ≥ 0)) (br (!decide (r.I (0 + j) 1 < n)) (K .ret S7r)
          (br (r.I (0 + j) 0 == r.I (0 + j) 1) (K .ret S7r)
            (br (decide (r.I (0 + j) 2 ≥ 1)) (br (!decide (r.I (0 + j) 2 ≤ 1000000000)) (K .ret S7r) (R (S7 n len l (IntKind.i64.wrap (j + 1)) r))) (K .ret S7r)))) (K .ret S7r))) (K .ret S7r)) none) (K (.exit 0) S7x) := by kernel_rfl

theorem bad_tree {A : Type} (n : Int) (r : Row) (j : Nat) (x y : Option A) :
    (br (decide (r.I (0 + j) 0 ≥ 0)) (br (!decide (r.I (0 + j) 0 < n)) x
        (br (decide (r.I (0 + j) 1 ≥ 0)) (br (!decide (r.I (0 + j) 1 < n)) x
          (br (r.I (0 + j) 0 == r.I (0 + j) 1) x
            (br (decide (r.I (0 + j) 2 ≥ 1)) (br (!decide (r.I (0 + j) 2 ≤ 1000000000)) x y) x))) x)) x) = br (bad n r j) x y := by
  rw [Nat.zero_add]
  have e1 : decide (r.I j 2 < 1) = !decide (r.I j 2 ≥ 1) := by rw [Bool.eq_iff_iff]; simp only [Bool.not_eq_true', decide_eq_true_eq, decide_eq_false_iff_not]; omega
  have e2 : decide (r.I j 2 > 1000000000) = !decide (r.I j 2 ≤ 1000000000) := by rw [Bool.eq_iff_iff]; simp only [Bool.not_eq_true', decide_eq_true_eq, decide_eq_false_iff_not]; omega
  unfold bad isB
  rw [e1, e2]
  cases decide (r.I j 0 ≥ 0) <;> cases decide (r.I j 0 < n) <;> cases decide (r.I j 1 ≥ 0) <;> cases decide (r.I j 1 < n) <;> cases (r.I j 0 == r.I j 1) <;> cases decide (r.I j 2 ≥ 1) <;> cases decide (r.I j 2 ≤ 1000000000) <;> rfl

theorem loop7 : LoopOk C7 l7 := ⟨by kernel_rfl, fun d its k rr h => by
  show rounds [0, 16, 17, 18] (some [4]) (evCode C7 36 true (inl C7 (d + 4)) (lbody C7.P 36 7)) 18446744073709551616 (Go.Ev.bst l7.p its) k = some rr
  change G7 its k = some rr at h
  unfold G7 at h
  split at h
  · rename_i n len l r
    rcases br_some h with ⟨h1, h2⟩ | ⟨_, h2⟩
    · simp only [Bool.and_eq_true, decide_eq_true_eq] at h1
      obtain ⟨rfl, h1⟩ := h1
      rw [← h2]
      exact rounds_scan (S := fun j => S7 n len len j r) (len := len) (bad := bad n r) (Kb := fun K => K .ret S7r) (Ke := fun K => K (.exit 0) S7x)
        (fun j hj R K => by
          rw [round7, wrap64 (by omega) (by omega), show decide ((j : Int) < (len : Int)) = true by simpa using hj, show (decide (0 ≤ (j : Int))) = true by simp]
          simp only [Bool.and_true, br_true]
          exact bad_tree n r j _ _)
        (fun R K => by
          rw [round7, show decide ((len : Int) < (len : Int)) = false by simp]
          rfl) k len 0 (by omega) _ (by omega)
    · cases h2
  · cases h⟩

theorem C7_ok : CxOk C7 := mkCx_ok enter mixed (fun p h => by cases h) (fun l h => by
  simp only [List.mem_singleton] at h
  subst h
  exact loop7)

def F7 : List D → Option (Bool × List D)
  | [.v (.int .i64 n), .slice [.int .i64, .int .i64, .int .i64] r] => some (true, [.v (i64 (chk n r))])
  | _ => none

theorem t7 (n : Int) (r : Row) : evF C7 6 36 (pay n r) =
    br (decide (n < 1)) (some [.v (i64 2)]) (br (decide (n > 10)) (some [.v (i64 2)]) (br (decide ((r.n : Int) > 200)) (some [.v (i64 4)])
      (br (decide ((r.n : Int) = (r.n : Int)) && decide (r.n ≤ 1000)) (br (anyF (bad n r) r.n 0) (some [.v (i64 8)]) (some [.v (i64 0)])) none))) := by kernel_rfl

theorem chk_tree (n : Int) (r : Row) {A : Type} (g : Int → Option A) : (br (decide (n < 1)) (g 2) (br (decide (n > 10)) (g 2) (br (decide ((r.n : Int) > 200)) (g 4)
      (br (decide ((r.n : Int) = (r.n : Int)) && decide (r.n ≤ 1000)) (br (anyF (bad n r) r.n 0) (g 8) (g 0)) none)))) = g (chk n r) := by
  have e1 : decide (n < 1) = !decide (n ≥ 1) := by rw [Bool.eq_iff_iff]; simp only [Bool.not_eq_true', decide_eq_true_eq, decide_eq_false_iff_not]; omega
  have e2 : decide (n > 10) = !decide (n ≤ 10) := by rw [Bool.eq_iff_iff]; simp only [Bool.not_eq_true', decide_eq_true_eq, decide_eq_false_iff_not]; omega
  have e3 : decide ((r.n : Int) > 200) = false → (decide ((r.n : Int) = (r.n : Int)) && decide (r.n ≤ 1000)) = true := by intro h; simp at h ⊢; omega
  unfold chk partiesB
  rw [e1, e2]
  cases h : decide ((r.n : Int) > 200)
  · rw [e3 h]
    cases decide (n ≥ 1) <;> cases decide (n ≤ 10) <;> cases anyF (bad n r) r.n 0 <;> rfl
  · cases decide (n ≥ 1) <;> cases decide (n ≤ 10) <;> rfl

theorem den7 : Den Tryz.prog 36 F7 := evF_den C7_ok fun ds rs h => by
  unfold F7 at h
  split at h
  · rename_i n r
    cases h
    exact (t7 n r).trans (chk_tree n r fun e => some [D.v (i64 e)])
  · cases h
end Go.Proofs.YtlfeobdfgmlmpaaGreatDoor.Ld.Lg
/- Package ledger: Settle's inner function: the first party of a group whose balance has a sign. No conditions. -/
namespace Go.Proofs.YtlfeobdfgmlmpaaGreatDoor.Ld
open Go.Ev
set_option linter.all false
def ksS : List CK := [.slice ks1]
/-- The first party of a group whose balance has a sign; -1: there is none. -/
def ffF (l g : Row) (gr sg : Int) : Nat → Nat → Int
  | 0, _ => -1
  | m + 1, j => if g.I j 0 = gr ∧ wi (l.I j 0 * sg) > 0 then (j : Int) else ffF l g gr sg m (j + 1)
theorem ffF_ge (l g : Row) (gr sg : Int) : ∀ m j, ffF l g gr sg m j = -1 ∨ (j : Int) ≤ ffF l g gr sg m j
  | 0, j => .inl rfl
  | m + 1, j => by
    unfold ffF
    split
    · right; omega
    · rcases ffF_ge l g gr sg m (j + 1) with h | h
      · exact .inl h
      · right; omega
def Sf (gr sg : Int) (n len : Nat) (j : Int) (l g : Row) : St := ⟨[i64 gr, i64 sg] ++ us 1 ++ [.pointer (some ⟨0, 0, some 0⟩)] ++ us 5 ++ [sl 1 n, i64 len, i64 j] ++ us 18, [[]], [some (.row ksS false g), Rb false l]⟩
def Sfr (j : Int) : St := ⟨us 6 ++ [i64 j] ++ us 23, [[]], []⟩
def Sfx : St := ⟨us 30, [[]], []⟩
def Gf (cd : Nat → Int → Nat → Bool) : List It → (X → St → Option (List D)) → Option (List D)
  | [.i gr, .i sg, .n n, .i len, .r g, .r l], k => br (cd n len (g.R 0 0).n) (br (decide (0 ≤ ffF l (g.R 0 0) gr sg n 0)) (k .ret (Sfr (ffF l (g.R 0 0) gr sg n 0))) (k (.exit 0) Sfx)) none
  | _, _ => none
def lf (cd : Nat → Int → Nat → Bool) : LoopC where
  f := 55
  id := 2
  lv := [0, 1, 3, 9, 10, 11]
  lx := [6]
  p := { τ := [.v (.int .i64), .v (.int .i64)] ++ pu 1 ++ [.v (.ptr 0 0)] ++ pu 5 ++ [.v (.sl 1), .v (.int .i64), .v (.c (i64 0))] ++ pu 18, saved := [[]], mem := [.row ksS false, .row ks1 false] }
  G := fun its => match its with
    | [.i gr, .i sg, .n 0, .n n, .i len, .r g, .r l] => Gf cd [.i gr, .i sg, .n n, .i len, .r g, .r l]
    | _ => fun _ => none
noncomputable def Cfg (cd : Nat → Int → Nat → Bool) : Cx := mkCx Tryz.prog fns [] [lf cd]
theorem roundf (cd : Nat → Int → Nat → Bool) (R : St → Option (List D)) (K : X → St → Option (List D)) (p : Nat) (gr sg : Int) (n len : Nat) (j : Int) (l g : Row) : evCode (Cfg cd) 55 true (inl (Cfg cd) (p + 4)) (lbody (Cfg cd).P 55 2) (Sf gr sg n len j l g) (rnd [0, 1, 3, 9, 10, 11] (some [6]) R K) =
    br (decide (j < (len : Int))) (br (decide (0 ≤ j) && decide (j < (n : Int))) (br (decide (0 ≤ j) && decide (j < ((g.R 0 0).n : Int))) (br ((g.R 0 0).I (0 + j.toNat) 0 == gr) (br (decide (wi (l.I (0 + j.toNat) 0 * sg) > 0)) (K .ret (Sfr j)) (R (Sf gr sg n len (wi (j + 1)) l g))) (R (Sf gr sg n len (wi (j + 1)) l g))) none) none) (K (.exit 0) Sfx) := by kernel_rfl
def inf (n : Nat) (len : Int) (m : Nat) : Bool := decide (len = n ∧ n ≤ 1000 ∧ n ≤ m)
noncomputable def Cf : Cx := Cfg inf
theorem gof {f : St → (X → St → Option (List D)) → Option (List D)} {lv : List Tmp} {lx : Option (List Tmp)} {gr sg : Int} {n : Nat} {l g : Row} (hn : n ≤ 1000) (hg : n ≤ (g.R 0 0).n)
    (hr : ∀ (j : Int) R K, f (Sf gr sg n n j l g) (rnd lv lx R K) = br (decide (j < (n : Int))) (br (decide (0 ≤ j) && decide (j < (n : Int))) (br (decide (0 ≤ j) && decide (j < ((g.R 0 0).n : Int))) (br ((g.R 0 0).I (0 + j.toNat) 0 == gr) (br (decide (wi (l.I (0 + j.toNat) 0 * sg) > 0)) (K .ret (Sfr j)) (R (Sf gr sg n n (wi (j + 1)) l g))) (R (Sf gr sg n n (wi (j + 1)) l g))) none) none) (K (.exit 0) Sfx)) (K : X → St → Option (List D)) :
    ∀ (m fu j : Nat), j + m = n → m < fu → rounds lv lx f fu (Sf gr sg n n j l g) K = br (decide (0 ≤ ffF l (g.R 0 0) gr sg m j)) (K .ret (Sfr (ffF l (g.R 0 0) gr sg m j))) (K (.exit 0) Sfx)
  | 0, fu + 1, j, h0, h1 => by
    rw [rnds1, hr, decide_eq_false (show ¬ (j : Int) < (n : Int) by omega), br_false]
    rfl
  | m + 1, fu + 1, j, h0, h1 => by
    rw [rnds1, hr, show (decide (0 ≤ (j : Int)) && decide ((j : Int) < (n : Int))) = true by simp only [Bool.and_eq_true, decide_eq_true_eq]; omega, show (decide (0 ≤ (j : Int)) && decide ((j : Int) < ((g.R 0 0).n : Int))) = true by simp only [Bool.and_eq_true, decide_eq_true_eq]; omega,
      decide_eq_true (show (j : Int) < (n : Int) by omega), br_true, br_true, br_true, Int.toNat_natCast, Nat.zero_add, wiN (n := (j : Int) + 1) (by omega) (by omega), show (j : Int) + 1 = ((j + 1 : Nat) : Int) by omega]
    have ih := gof hn hg hr K m fu (j + 1) (by omega) (by omega)
    unfold ffF
    by_cases c1 : (g.R 0 0).I j 0 = gr
    · rw [show ((g.R 0 0).I j 0 == gr) = true by simpa using c1, br_true]
      by_cases c2 : wi (l.I j 0 * sg) > 0
      · rw [decide_eq_true c2, br_true, if_pos ⟨c1, c2⟩, decide_eq_true (show (0 : Int) ≤ (j : Int) by omega), br_true]
      · rw [decide_eq_false c2, br_false, if_neg (fun h => c2 h.2)]
        exact ih
    · rw [show ((g.R 0 0).I j 0 == gr) = false by simpa using c1, br_false, if_neg (fun h => c1 h.1)]
      exact ih
set_option maxRecDepth 100000 in
theorem loopf : LoopOk Cf (lf inf) := ⟨by kernel_rfl, fun q its k rr h => by
  show rounds [0, 1, 3, 9, 10, 11] (some [6]) (evCode Cf 55 true (inl Cf (q + 4)) (lbody Cf.P 55 2)) 18446744073709551616 (Go.Ev.bst (lf inf).p its) k = some rr
  change (match its with
    | [.i gr, .i sg, .n 0, .n n, .i len, .r g, .r l] => Gf inf [.i gr, .i sg, .n n, .i len, .r g, .r l]
    | _ => fun _ => none) k = some rr at h
  split at h
  · rename_i gr sg n len g l
    change br (inf n len (g.R 0 0).n) _ _ = _ at h
    rcases br_some h with ⟨h1, h2⟩ | ⟨_, h2⟩
    · have h1 := of_decide_eq_true h1
      obtain ⟨rfl, h3, h4⟩ := h1
      rw [← h2]
      exact gof h3 h4 (fun j R K => roundf inf R K q gr sg n n j l g) k n _ 0 (by omega) (by omega)
    · cases h2
  · cases h⟩
theorem Cf_ok : CxOk Cf := mkCx_ok enter mixed (fun p h => by cases h) (fun l h => by
  simp only [List.mem_cons, List.not_mem_nil, or_false] at h
  rcases h with rfl
  exact loopf)
theorem tfirst (cd : Nat → Int → Nat → Bool) (gr sg : Int) (l g : Row) : evF (Cfg cd) 6 55 [.v (i64 gr), .v (i64 sg), .ptr ksS l, .ptr ksS g] = br (cd (l.R 0 0).n (l.R 0 0).n (g.R 0 0).n) (br (decide (0 ≤ ffF (l.R 0 0) (g.R 0 0) gr sg (l.R 0 0).n 0)) (some [.v (i64 (ffF (l.R 0 0) (g.R 0 0) gr sg (l.R 0 0).n 0))]) (some [.v (i64 (-1))])) none := by kernel_rfl
def Ffirst : List D → Option (Bool × List D)
  | [.v (.int .i64 gr), .v (.int .i64 sg), .ptr [.slice [.int .i64]] l, .ptr [.slice [.int .i64]] g] => some (decide ((l.R 0 0).n ≤ 1000 ∧ (l.R 0 0).n ≤ (g.R 0 0).n), [.v (i64 (ffF (l.R 0 0) (g.R 0 0) gr sg (l.R 0 0).n 0))])
  | _ => none
theorem den_first : Den Tryz.prog 55 Ffirst := evF_den Cf_ok fun ds rs h => by
  unfold Ffirst at h
  split at h
  · rename_i gr sg l g
    simp only [Option.some.injEq, Prod.mk.injEq] at h
    obtain ⟨h0, rfl⟩ := h
    have h0 := of_decide_eq_true h0
    refine (tfirst inf gr sg l g).trans ?_
    rw [show inf (l.R 0 0).n (l.R 0 0).n (g.R 0 0).n = true from decide_eq_true ⟨rfl, h0.1, h0.2⟩, br_true]
    rcases ffF_ge (l.R 0 0) (g.R 0 0) gr sg (l.R 0 0).n 0 with h | h
    · rw [h]; rfl
    · rw [decide_eq_true (show 0 ≤ ffF (l.R 0 0) (g.R 0 0) gr sg (l.R 0 0).n 0 by omega), br_true]
  · cases h
end Go.Proofs.YtlfeobdfgmlmpaaGreatDoor.Ld
/- Package ledger: Settle: its loops. No conditions. -/
namespace Go.Proofs.YtlfeobdfgmlmpaaGreatDoor.Ld.Se
open Go.Ev
set_option linter.all false
def fnf (a b : Nat) : Value := .func (.func 55) #[] #[.pointer (some ⟨a, 0, some 0⟩), .pointer (some ⟨b, 0, some 0⟩)]
def fw (l g : Row) (nl ng : Nat) (gr sg : Int) : Int := ffF (winOf l 0 nl) (winOf g 0 ng) gr sg nl 0
def mnI (x y : Int) : Int := if y < x then y else x
/-- What is paid at once. -/
def ceI (l : Row) (fr to : Int) : Int := mnI (l.I (0 + fr.toNat) 0) (wi (0 - l.I (0 + to.toNat) 0))
def l1U (l : Row) (fr : Int) (c : Int) : Row := l.setI (0 + fr.toNat) 0 (wi (l.I (0 + fr.toNat) 0 - c))
def l2U (l : Row) (fr to : Int) (c : Int) : Row := (l1U l fr c).setI (0 + to.toNat) 0 (wi ((l1U l fr c).I (0 + to.toNat) 0 + c))
def pyR (fr to c : Int) : Row := winOf ((((Row.zeros 1).setI 0 0 fr).setI 0 1 to).setI 0 2 c) 0 1
def oU (o : Row) (k : Nat) (p : Row) : Row := match k with
  | 0 => Row.nil.app p
  | k + 1 => (winOf o 0 (k + 1)).app p
def S8a (nl ng : Nat) (m j : Int) (l g : Row) : St := ⟨us 6 ++ [.pointer (some ⟨0, 0, some 0⟩), fnf 0 1, .slice none 0 0] ++ us 17 ++ [i64 m, i64 j] ++ us 46, [[]], [some (.box [sl 2 nl]), some (.box [sl 3 ng]), Rb true l, Rb true g]⟩
def S8b (nl ng k : Nat) (m j : Int) (l g o : Row) : St := ⟨us 6 ++ [.pointer (some ⟨0, 0, some 0⟩), fnf 0 1, sl 2 k] ++ us 17 ++ [i64 m, i64 j] ++ us 46, [[]], [some (.box [sl 3 nl]), some (.box [sl 4 ng]), some (.row Lg.ks3 true o), Rb true l, Rb true g]⟩
def S8 (nl ng k : Nat) (m j : Int) (l g o : Row) : St := match k with
  | 0 => S8a nl ng m j l g
  | k + 1 => S8b nl ng (k + 1) m j l g o
def S8x (k : Nat) (o : Row) : St := match k with
  | 0 => ⟨us 8 ++ [.slice none 0 0] ++ us 65, [[]], []⟩
  | k + 1 => ⟨us 8 ++ [sl 0 (k + 1)] ++ us 65, [[]], [some (.row Lg.ks3 true o)]⟩
def S11a (nl ng : Nat) (gr fr m j : Int) (l g : Row) : St := ⟨us 6 ++ [.pointer (some ⟨0, 0, some 0⟩), fnf 0 1, .slice none 0 0, i64 gr, i64 fr] ++ us 15 ++ [i64 m, i64 j] ++ us 46, [[]], [some (.box [sl 2 nl]), some (.box [sl 3 ng]), Rb true l, Rb true g]⟩
def S11b (nl ng k : Nat) (gr fr m j : Int) (l g o : Row) : St := ⟨us 6 ++ [.pointer (some ⟨0, 0, some 0⟩), fnf 0 1, sl 2 k, i64 gr, i64 fr] ++ us 15 ++ [i64 m, i64 j] ++ us 46, [[]], [some (.box [sl 3 nl]), some (.box [sl 4 ng]), some (.row Lg.ks3 true o), Rb true l, Rb true g]⟩
def S11 (nl ng k : Nat) (gr fr m j : Int) (l g o : Row) : St := match k with
  | 0 => S11a nl ng gr fr m j l g
  | k + 1 => S11b nl ng (k + 1) gr fr m j l g o
abbrev T3 := Option (Nat × Row × Row)
/-- What goes on with payments: with none, or with some. -/
def selO (x : T3) (a : Row → Option (List D)) (b : Nat → Row → Row → Option (List D)) : Option (List D) := match x with
  | some (0, l, _) => a l
  | some (k + 1, l, o) => b (k + 1) l o
  | none => none
theorem selO_some {k : Nat} {l o : Row} {a : Row → Option (List D)} {b : Nat → Row → Row → Option (List D)} {f : Nat → Row → Row → Option (List D)} (ha : a l = f 0 l o) (hb : ∀ k', b (k' + 1) l o = f (k' + 1) l o) : selO (some (k, l, o)) a b = f k l o := by
  cases k with
  | zero => exact ha
  | succ k => exact hb k
abbrev GS := Nat → Nat → Nat → Int → Int → Row → Row → Row → T3
abbrev G0 := Nat → Nat → Int → Row → Row → T3
def pS (mid : List PV) : List PV := pu 6 ++ [.v (.c (.pointer (some ⟨0, 0, some 0⟩))), .v (.c (fnf 0 1))] ++ mid ++ [.v (.int .i64), .v (.int .i64)] ++ pu 46
def l11a (gs : GS) : LoopC where
  f := 37
  id := 11
  lv := [6, 7, 8, 9, 10, 26, 27]
  lx := [2, 3, 6, 7, 8, 26, 27]
  p := { τ := pS ([.v (.c (.slice none 0 0)), .v (.int .i64), .v (.int .i64)] ++ pu 15), saved := [[]], mem := [.box [.v (.sl 2)], .box [.v (.sl 3)], .row ks1 true, .row ks1 true] }
  G := fun its k => match its with
    | [.i gr, .i fr, .i m, .i j, .n nl, .n ng, .r l, .r g] => selO (gs nl ng 0 gr fr l g .nil) (fun l' => k (.exit 2) (S8a nl ng m j l' g)) (fun k' l' o' => k (.exit 2) (S8b nl ng k' m j l' g o'))
    | _ => none
def l11b (gs : GS) : LoopC where
  f := 37
  id := 11
  lv := [6, 7, 8, 9, 10, 26, 27]
  lx := [2, 3, 6, 7, 8, 26, 27]
  p := { τ := pS ([.v (.sl 2), .v (.int .i64), .v (.int .i64)] ++ pu 15), saved := [[]], mem := [.box [.v (.sl 3)], .box [.v (.sl 4)], .row Lg.ks3 true, .row ks1 true, .row ks1 true] }
  G := fun its k => match its with
    | [.n nk, .i gr, .i fr, .i m, .i j, .n nl, .n ng, .r o, .r l, .r g] => match nk with
      | nk + 1 => selO (gs nl ng (nk + 1) gr fr l g o) (fun l' => k (.exit 2) (S8a nl ng m j l' g)) (fun k' l' o' => k (.exit 2) (S8b nl ng k' m j l' g o'))
      | 0 => none
    | _ => none
def l8 (g0 : G0) : LoopC where
  f := 37
  id := 8
  lv := [6, 7, 8, 26, 27]
  lx := [2, 3, 8]
  p := { τ := pu 6 ++ [.v (.c (.pointer (some ⟨0, 0, some 0⟩))), .v (.c (fnf 0 1)), .v (.c (.slice none 0 0))] ++ pu 17 ++ [.v (.int .i64), .v (.c (i64 0))] ++ pu 46, saved := [[]], mem := [.box [.v (.sl 2)], .box [.v (.sl 3)], .row ks1 true, .row ks1 true] }
  G := fun its k => match its with
    | [.i m, .n nl, .n ng, .r l, .r g] => selO (g0 nl ng m l g) (fun _ => k (.exit 0) (S8x 0 .nil)) (fun k' _ o' => match k' with | k' + 1 => k (.exit 0) (S8x (k' + 1) o') | 0 => none)
    | _ => none
noncomputable def C10g (gs : GS) (g0 : G0) : Cx := mkCx2 Tryz.prog fns [(35, Fgroups), (55, Ffirst)] [l11a gs, l8 g0] [l11b gs]
section
variable (gs : GS) (g0 : G0)
def R11 (nl ng k : Nat) (gr fr m j : Int) (l g o : Row) (R : St → Option (List D)) (K : X → St → Option (List D)) : Option (List D) :=
  br (decide (fr ≥ 0)) (br (decide (nl ≤ 1000 ∧ nl ≤ ng)) (br (decide (0 ≤ fr) && decide (fr < (nl : Int))) (br (decide (0 ≤ fw l g nl ng gr (-1)) && decide (fw l g nl ng gr (-1) < (nl : Int))) (br (decide (k + 1 ≤ 10000000000)) (br (decide (0 ≤ fr) && decide (fr < (nl : Int))) (br (decide (0 ≤ fr) && decide (fr < (nl : Int)))
    (br (decide (0 ≤ fw l g nl ng gr (-1)) && decide (fw l g nl ng gr (-1) < (nl : Int))) (br (decide (0 ≤ fw l g nl ng gr (-1)) && decide (fw l g nl ng gr (-1) < (nl : Int))) (br (decide (nl ≤ 1000 ∧ nl ≤ ng))
      (R (S11 nl ng (k + 1) gr (fw (l2U l fr (fw l g nl ng gr (-1)) (ceI l fr (fw l g nl ng gr (-1)))) g nl ng gr 1) m j (l2U l fr (fw l g nl ng gr (-1)) (ceI l fr (fw l g nl ng gr (-1)))) g (oU o k (pyR fr (fw l g nl ng gr (-1)) (ceI l fr (fw l g nl ng gr (-1)))))))
      none) none) none) none) none) none) none) none) none) (K (.exit 2) (S8 nl ng k m j l g o))
set_option maxRecDepth 100000 in
theorem round11a (R : St → Option (List D)) (K : X → St → Option (List D)) (p : Nat) (nl ng : Nat) (gr fr m j : Int) (l g o : Row) : evCode (C10g gs g0) 37 true (inl (C10g gs g0) (p + 4)) (lbody (C10g gs g0).P 37 11) (S11 nl ng 0 gr fr m j l g o) (rnd [6, 7, 8, 9, 10, 26, 27] (some [2, 3, 6, 7, 8, 26, 27]) R K) = R11 nl ng 0 gr fr m j l g o R K := by kernel_rfl
set_option maxRecDepth 100000 in
theorem round11b (R : St → Option (List D)) (K : X → St → Option (List D)) (p : Nat) (nl ng k : Nat) (gr fr m j : Int) (l g o : Row) : evCode (C10g gs g0) 37 true (inl (C10g gs g0) (p + 4)) (lbody (C10g gs g0).P 37 11) (S11 nl ng (k + 1) gr fr m j l g o) (rnd [6, 7, 8, 9, 10, 26, 27] (some [2, 3, 6, 7, 8, 26, 27]) R K) = R11 nl ng (k + 1) gr fr m j l g o R K := by kernel_rfl
def R8 (nl ng k : Nat) (m j : Int) (l g o : Row) (R : St → Option (List D)) (K : X → St → Option (List D)) : Option (List D) :=
  br (decide (j < m)) (br (decide (nl ≤ 1000 ∧ nl ≤ ng)) (selO (gs nl ng k j (fw l g nl ng j 1) l g o) (fun l' => R (S8a nl ng m (wi (j + 1)) l' g)) (fun k' l' o' => R (S8b nl ng k' m (wi (j + 1)) l' g o'))) none) (K (.exit 0) (S8x k o))
theorem round8a (R : St → Option (List D)) (K : X → St → Option (List D)) (p : Nat) (nl ng : Nat) (m j : Int) (l g : Row) : evCode (C10g gs g0) 37 true (inl (C10g gs g0) (p + 4)) (lbody (C10g gs g0).P 37 8) (S8 nl ng 0 m j l g .nil) (rnd [6, 7, 8, 26, 27] (some [2, 3, 8]) R K) = R8 gs nl ng 0 m j l g .nil R K := by kernel_rfl
theorem round8b (R : St → Option (List D)) (K : X → St → Option (List D)) (p : Nat) (nl ng k : Nat) (m j : Int) (l g o : Row) : evCode (C10g gs g0) 37 true (inl (C10g gs g0) (p + 4)) (lbody (C10g gs g0).P 37 8) (S8 nl ng (k + 1) m j l g o) (rnd [6, 7, 8, 26, 27] (some [2, 3, 8]) R K) = R8 gs nl ng (k + 1) m j l g o R K := by kernel_rfl
theorem tsettle (b : Row) : evF (C10g gs g0) 6 37 [.slice ks1 b] =
    br (gpC (winOf b 0 b.n)) (br (ckE (winOf b 0 b.n) != 0) (some [.slice Lg.ks3 .nil, .v (i64 (ckE (winOf b 0 b.n)))]) (br (decide (0 + b.n ≤ 10000000000))
      (selO (g0 (0 + b.n) (gpR (winOf b 0 b.n)).n b.n ((winOf (Row.zeros 0) 0 0).app (winOf b 0 b.n)) (gpR (winOf b 0 b.n))) (fun _ => some [.slice Lg.ks3 .nil, .v (i64 0)]) (fun k' _ o' => match k' with | k' + 1 => some [.slice Lg.ks3 (winOf o' 0 (k' + 1)), .v (i64 0)] | 0 => none)) none)) none := by kernel_rfl
end
end Go.Proofs.YtlfeobdfgmlmpaaGreatDoor.Ld.Se
/- Package ledger: Settle: contract. No conditions. -/
namespace Go.Proofs.YtlfeobdfgmlmpaaGreatDoor.Ld.Se
open Go.Ev
set_option linter.all false
/-- The payments of a group, from the party that pays first on. -/
def inG (g : Row) (nl ng : Nat) (gr : Int) : Nat → Int → Nat → Row → Row → T3
  | 0, fr, k, l, o => if fr < 0 then some (k, l, o) else none
  | f + 1, fr, k, l, o => if fr < 0 then some (k, l, o) else if fw l g nl ng gr (-1) < 0 then none else
    inG g nl ng gr f (fw (l2U l fr (fw l g nl ng gr (-1)) (ceI l fr (fw l g nl ng gr (-1)))) g nl ng gr 1) (k + 1) (l2U l fr (fw l g nl ng gr (-1)) (ceI l fr (fw l g nl ng gr (-1)))) (oU o k (pyR fr (fw l g nl ng gr (-1)) (ceI l fr (fw l g nl ng gr (-1)))))
def gsG : GS := fun nl ng k gr fr l g o => if nl ≤ 1000 ∧ nl ≤ ng ∧ fr < nl ∧ k ≤ 1000000 then inG g nl ng gr 1000 fr k l o else none
/-- The payments of the groups from j on. -/
def outG (g : Row) (nl ng : Nat) : Nat → Nat → Nat → Row → Row → T3
  | 0, _, k, l, o => some (k, l, o)
  | c + 1, j, k, l, o => match gsG nl ng k j (fw l g nl ng j 1) l g o with
    | some (k', l', o') => outG g nl ng c (j + 1) k' l' o'
    | none => none
def g0G : G0 := fun nl ng m l g => if nl ≤ 1000 ∧ nl ≤ ng ∧ 0 ≤ m ∧ m ≤ 1000 then outG g nl ng m.toNat 0 0 l .nil else none
noncomputable def C10 : Cx := C10g gsG g0G
theorem ffF_lt (l g : Row) (gr sg : Int) : ∀ m j, ffF l g gr sg m j < ((j + m : Nat) : Int)
  | 0, j => by unfold ffF; omega
  | m + 1, j => by
    unfold ffF
    split
    · omega
    · have := ffF_lt l g gr sg m (j + 1); omega
theorem fw_lt (l g : Row) (nl ng : Nat) (gr sg : Int) : fw l g nl ng gr sg < (nl : Int) := by
  have := ffF_lt (winOf l 0 nl) (winOf g 0 ng) gr sg nl 0
  unfold fw
  omega
theorem inG_zero {g : Row} {nl ng : Nat} {gr : Int} : ∀ {f : Nat} {fr : Int} {k : Nat} {l o : Row} {k' : Nat} {l' o' : Row}, inG g nl ng gr f fr k l o = some (k', l', o') → k ≤ k' ∧ k' ≤ k + f ∧ (k' = 0 → o' = o)
  | 0, fr, k, l, o, k', l', o', h => by
    unfold inG at h
    split at h
    · cases h; exact ⟨Nat.le_refl _, by omega, fun _ => rfl⟩
    · cases h
  | f + 1, fr, k, l, o, k', l', o', h => by
    unfold inG at h
    split at h
    · cases h; exact ⟨Nat.le_refl _, by omega, fun _ => rfl⟩
    · split at h
      · cases h
      · obtain ⟨h1, h2, h3⟩ := inG_zero h
        exact ⟨by omega, by omega, fun h0 => by omega⟩
theorem go11 {F : St → (X → St → Option (List D)) → Option (List D)} {lv : List Tmp} {lx : Option (List Tmp)} {nl ng : Nat} {gr m j : Int} {g : Row} (h1 : nl ≤ 1000) (h2 : nl ≤ ng)
    (hr : ∀ (k : Nat) (fr : Int) (l o : Row) R K, F (S11 nl ng k gr fr m j l g o) (rnd lv lx R K) = R11 nl ng k gr fr m j l g o R K) (K : X → St → Option (List D)) {k' : Nat} {l' o' : Row} :
    ∀ (f fu : Nat) (fr : Int) (k : Nat) (l o : Row), inG g nl ng gr f fr k l o = some (k', l', o') → fr < nl → k + f ≤ 2000000 → f < fu → rounds lv lx F fu (S11 nl ng k gr fr m j l g o) K = K (.exit 2) (S8 nl ng k' m j l' g o')
  | 0, fu + 1, fr, k, l, o, h, hf, hk, hu => by
    unfold inG at h
    rw [rnds1, hr]
    unfold R11
    split at h
    · cases h
      rw [decide_eq_false (show ¬ fr ≥ 0 by omega), br_false]
    · cases h
  | f + 1, fu + 1, fr, k, l, o, h, hf, hk, hu => by
    unfold inG at h
    rw [rnds1, hr]
    unfold R11
    split at h
    · cases h
      rw [decide_eq_false (show ¬ fr ≥ 0 by omega), br_false]
    · rename_i hfr
      split at h
      · cases h
      · rename_i hto
        have hlt := fw_lt l g nl ng gr (-1)
        rw [show (decide (0 ≤ fr) && decide (fr < (nl : Int))) = true by simp only [Bool.and_eq_true, decide_eq_true_eq]; omega, show (decide (0 ≤ fw l g nl ng gr (-1)) && decide (fw l g nl ng gr (-1) < (nl : Int))) = true by simp only [Bool.and_eq_true, decide_eq_true_eq]; omega,
          decide_eq_true (show fr ≥ 0 by omega), decide_eq_true (show nl ≤ 1000 ∧ nl ≤ ng from ⟨h1, h2⟩), decide_eq_true (show k + 1 ≤ 10000000000 by omega), br_true, br_true, br_true, br_true, br_true, br_true, br_true, br_true, br_true, br_true]
        exact go11 h1 h2 hr K f fu _ (k + 1) _ _ h (fw_lt _ _ _ _ _ _) (by omega) (by omega)
theorem round11 (q : Nat) (nl ng k : Nat) (gr fr m j : Int) (l g o : Row) (R : St → Option (List D)) (K : X → St → Option (List D)) : evCode C10 37 true (inl C10 (q + 4)) (lbody C10.P 37 11) (S11 nl ng k gr fr m j l g o) (rnd [6, 7, 8, 9, 10, 26, 27] (some [2, 3, 6, 7, 8, 26, 27]) R K) = R11 nl ng k gr fr m j l g o R K := by
  cases k with
  | zero => exact round11a gsG g0G R K q nl ng gr fr m j l g o
  | succ k => exact round11b gsG g0G R K q nl ng k gr fr m j l g o
theorem run11 {q nl ng k : Nat} {gr fr m j : Int} {l g o : Row} {K : X → St → Option (List D)} {rr : List D} (h : selO (gsG nl ng k gr fr l g o) (fun l' => K (.exit 2) (S8a nl ng m j l' g)) (fun k' l' o' => K (.exit 2) (S8b nl ng k' m j l' g o')) = some rr) :
    rounds [6, 7, 8, 9, 10, 26, 27] (some [2, 3, 6, 7, 8, 26, 27]) (evCode C10 37 true (inl C10 (q + 4)) (lbody C10.P 37 11)) 18446744073709551616 (S11 nl ng k gr fr m j l g o) K = some rr := by
  unfold gsG at h
  split at h
  · rename_i hc
    obtain ⟨h1, h2, h3, h4⟩ := hc
    cases hi : inG g nl ng gr 1000 fr k l o with
    | none => rw [hi] at h; cases h
    | some x =>
      obtain ⟨k', l', o'⟩ := x
      rw [hi] at h
      rw [go11 h1 h2 (fun k fr l o R K => round11 q nl ng k gr fr m j l g o R K) K 1000 _ fr k l o hi h3 (by omega) (by omega), ← h]
      cases k' <;> rfl
  · cases h
set_option maxRecDepth 100000 in
theorem loop11a : LoopOk C10 (l11a gsG) := ⟨by kernel_rfl, fun q its k rr h => by
  show rounds [6, 7, 8, 9, 10, 26, 27] (some [2, 3, 6, 7, 8, 26, 27]) (evCode C10 37 true (inl C10 (q + 4)) (lbody C10.P 37 11)) 18446744073709551616 (Go.Ev.bst (l11a gsG).p its) k = some rr
  dsimp only [l11a] at h
  split at h
  · rename_i gr fr m j nl ng l g
    exact run11 (k := 0) (o := .nil) h
  · cases h⟩
set_option maxRecDepth 100000 in
theorem loop11b : LoopOk C10 (l11b gsG) := ⟨by kernel_rfl, fun q its k rr h => by
  show rounds [6, 7, 8, 9, 10, 26, 27] (some [2, 3, 6, 7, 8, 26, 27]) (evCode C10 37 true (inl C10 (q + 4)) (lbody C10.P 37 11)) 18446744073709551616 (Go.Ev.bst (l11b gsG).p its) k = some rr
  dsimp only [l11b] at h
  split at h
  · rename_i nk gr fr m j nl ng o l g
    split at h
    · rename_i nk
      exact run11 (k := nk + 1) h
    · cases h
  · cases h⟩
theorem round8 (q : Nat) (nl ng k : Nat) (m j : Int) (l g o : Row) (ho : k = 0 → o = .nil) (R : St → Option (List D)) (K : X → St → Option (List D)) : evCode C10 37 true (inl C10 (q + 4)) (lbody C10.P 37 8) (S8 nl ng k m j l g o) (rnd [6, 7, 8, 26, 27] (some [2, 3, 8]) R K) = R8 gsG nl ng k m j l g o R K := by
  cases k with
  | zero => rw [ho rfl]; exact round8a gsG g0G R K q nl ng m j l g
  | succ k => exact round8b gsG g0G R K q nl ng k m j l g o
theorem gsG_zero {nl ng k : Nat} {gr fr : Int} {l g o : Row} {k' : Nat} {l' o' : Row} (h : gsG nl ng k gr fr l g o = some (k', l', o')) : k ≤ k' ∧ (k' = 0 → o' = o) := by
  unfold gsG at h
  split at h
  · exact ⟨(inG_zero h).1, (inG_zero h).2.2⟩
  · cases h
theorem go8 {q nl ng m : Nat} {g : Row} (h1 : nl ≤ 1000) (h2 : nl ≤ ng) (hm : m ≤ 1000) (K : X → St → Option (List D)) {k' : Nat} {l' o' : Row} :
    ∀ (c fu j k : Nat) (l o : Row), outG g nl ng c j k l o = some (k', l', o') → j + c = m → c < fu → (k = 0 → o = .nil) → (k' = 0 → o' = .nil) ∧ rounds [6, 7, 8, 26, 27] (some [2, 3, 8]) (evCode C10 37 true (inl C10 (q + 4)) (lbody C10.P 37 8)) fu (S8 nl ng k m j l g o) K = K (.exit 0) (S8x k' o')
  | 0, fu + 1, j, k, l, o, h, hj, hu, ho => by
    cases h
    refine ⟨ho, ?_⟩
    rw [rnds1, round8 q nl ng _ m j _ g _ ho]
    unfold R8
    rw [decide_eq_false (show ¬ (j : Int) < (m : Int) by omega), br_false]
  | c + 1, fu + 1, j, k, l, o, h, hj, hu, ho => by
    unfold outG at h
    split at h
    · rename_i k1 l1 o1 hg
      obtain ⟨z1, z2⟩ := gsG_zero hg
      obtain ⟨i1, i2⟩ := go8 (q := q) h1 h2 hm K c fu (j + 1) k1 l1 o1 h (by omega) (by omega) (fun h0 => by rw [z2 h0]; exact ho (by omega))
      refine ⟨i1, ?_⟩
      rw [rnds1, round8 q nl ng k m j l g o ho]
      unfold R8
      rw [decide_eq_true (show (j : Int) < (m : Int) by omega), br_true, decide_eq_true (show nl ≤ 1000 ∧ nl ≤ ng from ⟨h1, h2⟩), br_true, hg, wiN (n := (j : Int) + 1) (by omega) (by omega), show (j : Int) + 1 = ((j + 1 : Nat) : Int) by omega, ← i2]
      cases k1 <;> rfl
    · cases h
set_option maxRecDepth 100000 in
theorem loop8 : LoopOk C10 (l8 g0G) := ⟨by kernel_rfl, fun q its k rr h => by
  show rounds [6, 7, 8, 26, 27] (some [2, 3, 8]) (evCode C10 37 true (inl C10 (q + 4)) (lbody C10.P 37 8)) 18446744073709551616 (Go.Ev.bst (l8 g0G).p its) k = some rr
  dsimp only [l8] at h
  split at h
  · rename_i m nl ng l g
    unfold g0G at h
    split at h
    · rename_i hc
      obtain ⟨h1, h2, h3, h4⟩ := hc
      obtain ⟨m, rfl⟩ := Int.eq_ofNat_of_zero_le h3
      rw [Int.toNat_natCast] at h
      cases hi : outG g nl ng m 0 0 l .nil with
      | none => rw [hi] at h; cases h
      | some x =>
        obtain ⟨k', l', o'⟩ := x
        rw [hi] at h
        obtain ⟨i1, i2⟩ := go8 (q := q) h1 h2 (show m ≤ 1000 by omega) k m 18446744073709551616 0 0 l .nil hi (by omega) (by omega) (fun _ => rfl)
        refine Eq.trans (show _ = _ from i2) ?_
        rw [← h]
        cases k' <;> rfl
    · cases h
  · cases h⟩
theorem C10_ok : CxW C10 Wt := mkCx2_okW enter mixed (fun p h => by
    simp only [List.mem_cons, List.not_mem_nil, or_false] at h
    rcases h with rfl | rfl
    · exact den_groups
    · exact den_first.at _) (fun l h => by
    simp only [List.mem_cons, List.not_mem_nil, or_false] at h
    rcases h with rfl | rfl
    · exact loop11a
    · exact loop8) (fun l h => by
    simp only [List.mem_cons, List.not_mem_nil, or_false] at h
    rcases h with rfl
    exact ⟨loop11b, fun l hl => by cases hl; exact ⟨rfl, rfl⟩⟩)
/-- The payments of a settlement: how many there are, what is left, the payments. -/
def stO (b : Row) : T3 := outG (gpR b) b.n (gpR b).n b.n 0 0 (Row.app (.zeros 0) b) .nil
def stC (b : Row) : Bool := gpC b && (ckE b != 0 || (decide (b.n ≤ (gpR b).n) && (stO b).isSome))
def stR (b : Row) : Row := if ckE b ≠ 0 then .nil else match stO b with
  | some (k + 1, _, o) => winOf o 0 (k + 1)
  | _ => .nil
def Fsettle : List D → Option (Bool × List D)
  | [.slice [.int .i64] b] => some (stC b, [.slice Lg.ks3 (stR b), .v (i64 (ckE b))])
  | _ => none
theorem ck_n {b : Row} (h : ckE b = 0) : 1 ≤ b.n ∧ b.n ≤ 10 := by
  unfold ckE at h
  split at h
  · cases h
  · omega
theorem den_settle : DenW Tryz.prog Wt 37 Fsettle := evF_denW C10_ok fun ds rs h => by
  unfold Fsettle at h
  split at h
  · rename_i b
    simp only [Option.some.injEq, Prod.mk.injEq] at h
    obtain ⟨hc, rfl⟩ := h
    refine (tsettle gsG g0G b).trans ?_
    rw [ckE_win]
    unfold stC at hc
    unfold stR
    simp only [Bool.and_eq_true, Bool.or_eq_true, decide_eq_true_eq] at hc
    obtain ⟨hc1, hc2⟩ := hc
    have hw : gpC (winOf b 0 b.n) = true := by
      unfold gpC at hc1 ⊢
      rw [ckE_win]
      by_cases hk : ckE b = 0
      · rw [win_self (by have := (ck_n hk).1; omega)]; exact hc1
      · rw [show (ckE b != 0) = true by simpa using hk]; rfl
    rw [hw, br_true]
    by_cases hk : ckE b = 0
    · have hn := ck_n hk
      rw [show (ckE b != 0) = false by simpa using hk, br_false, win_self (by omega), Nat.zero_add, decide_eq_true (show b.n ≤ 10000000000 by omega), br_true, if_neg (fun h => h hk)]
      rcases hc2 with h | ⟨h, h'⟩
      · simp [hk] at h
      · have hz : winOf (Row.zeros 0) 0 0 = Row.zeros 0 := rfl
        have hg : g0G b.n (gpR b).n (b.n : Int) ((winOf (Row.zeros 0) 0 0).app b) (gpR b) = stO b := by
          unfold g0G stO
          rw [if_pos ⟨by omega, h, by omega, by omega⟩, Int.toNat_natCast, hz]
        rw [hg]
        cases ho : stO b with
        | none => rw [ho] at h'; cases h'
        | some x =>
          obtain ⟨k, l, o⟩ := x
          rw [hk]
          cases k <;> rfl
    · rw [show (ckE b != 0) = true by simpa using hk, br_true, if_pos hk]
  · cases h
end Go.Proofs.YtlfeobdfgmlmpaaGreatDoor.Ld.Se

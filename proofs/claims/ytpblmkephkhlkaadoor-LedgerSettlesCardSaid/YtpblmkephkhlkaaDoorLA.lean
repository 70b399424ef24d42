/- Texts E1 E2 E3 E4 E5 E6 E7 E8 E9 E10 E11 E12 E13 E14 E18 E19 E20 E21 E26 in one. No conditions. -/
import Derived.Test.YtpblmkephkhlkaaDoorEvZ
import Derived.Test.YtpblmkephkhlkaaDoorRows
import Derived.Shelf.Spec.TrailingZeros
import Derived.WalkKit
import Derived.Test.YtpblmkephkhlkaaDoorEvZa
/- Package ledger, tied cards: the table of math/bits, the number of zeros at a number's end. No conditions. -/
namespace Go.Proofs.YtpblmkephkhlkaaDoor
open Go.Ev Go.RowKit
set_option linter.all false
/-- The table lies as its text lays it. -/
def Wt (w : World) : Prop := TabAt 1 Lib.deBruijn64tab w ∧ 1 < w.heap.size
theorem Wt.later {w w' : World} (h : Wt w) (hb : Below w.heap.size w w') : Wt w' := ⟨fun j hj => by rw [hb.cell (p := ⟨1, j, none⟩) h.2]; exact h.1 j hj, Nat.lt_of_lt_of_le h.2 hb.size⟩
set_option maxHeartbeats 1000000 in
theorem tz_core (x k idx : Nat) (w : World) (hx0 : ((x : Int) == 0) = false)
    (key : IntKind.u64.wrap (bits BinOp.and IntKind.u64 (x : Int) (IntKind.u64.wrap (-(x : Int))) * 285870213051353865) / 288230376151711744 = (idx : Int))
    (hi : idx < 64) (hk : k < 64) (hcell : w.cell? ⟨1, idx, none⟩ = some (.int .u8 k)) :
    Calls Tryd.prog 43 #[.int .u64 x] w fun e w' => e = .returned (.int .i64 k) ∧ w' = w := by
  go_enter Tryd.func43, Tryd.ntmps43
  go_wp2_with (simp only [key])
  go_ret
  exact ⟨rfl, rfl⟩
def u64 (n : Int) : Value := .int .u64 n
/-- How many zeros stand at a number's end. -/
def ctzI (x : Int) : Int := (Lib.ctz 64 x.toNat : Int)
def Ftz : List D → Option (Bool × List D)
  | [.v (.int .u64 x)] => some (decide (0 < x) && decide (x < 18446744073709551616), [.v (i64 (ctzI x))])
  | _ => none
theorem den_tz : DenW Tryd.prog Wt 43 Ftz := denW_of_calls (fun _ _ h hb => h.later hb) fun ds rs h => by
  unfold Ftz at h
  split at h
  · rename_i x
    simp only [Option.some.injEq, Prod.mk.injEq, Bool.and_eq_true, decide_eq_true_eq] at h
    obtain ⟨⟨h0, h1⟩, rfl⟩ := h
    refine ⟨[.int .u64 x], [i64 (ctzI x)], rfl, rfl, fun y hy => ?_, fun y hy => ?_, fun w hw => ?_⟩
    · rw [List.mem_singleton.1 hy]; rfl
    · rw [List.mem_singleton.1 hy]; rfl
    · obtain ⟨x, rfl⟩ := Int.eq_ofNat_of_zero_le (Int.le_of_lt h0)
      obtain ⟨hlow, hk⟩ := Lib.lowest_bit 64 x (by omega) (by omega)
      obtain ⟨hi, htab⟩ := Lib.deBruijn64_at _ hk
      have hcell := hw.1 _ hi
      rw [htab] at hcell
      have := tz_core x _ _ w (by simp; omega) (tz64_key x _ (by omega) (by omega) hlow) hi hk hcell
      exact this
  · cases h
end Go.Proofs.YtpblmkephkhlkaaDoor
/- Package ledger, tied cards: the functions that are entered. No conditions. -/
namespace Go.Proofs.YtpblmkephkhlkaaDoor
open Go.Ev
set_option linter.all false
def fns : List Nat := [3, 4, 5, 6, 7, 8, 9, 10, 11, 12, 13, 14, 15, 16, 17, 18, 19, 20, 21, 22, 23, 24, 25, 26, 27, 28, 29, 30, 31, 32, 33, 34, 35, 36, 37, 38, 39, 40, 41, 42, 43]
theorem enter : ∀ (g : FuncId), fns.contains g = true → ∀ (args : Array Value) (w : World), (callFunc g args).run Tryd.prog w = .ok (.enter g args) w := by
  intro g hg
  simp only [fns, List.contains_cons, List.contains_nil, Bool.or_false, Bool.or_eq_true, beq_iff_eq] at hg
  rcases hg with rfl | rfl | rfl | rfl | rfl | rfl | rfl | rfl | rfl | rfl | rfl | rfl | rfl | rfl | rfl | rfl | rfl | rfl | rfl | rfl | rfl | rfl | rfl | rfl | rfl | rfl | rfl | rfl | rfl | rfl | rfl | rfl | rfl | rfl | rfl | rfl | rfl | rfl | rfl | rfl | rfl
  · exact Tryd.call3
  · exact Tryd.call4
  · exact Tryd.call5
  · exact Tryd.call6
  · exact Tryd.call7
  · exact Tryd.call8
  · exact Tryd.call9
  · exact Tryd.call10
  · exact Tryd.call11
  · exact Tryd.call12
  · exact Tryd.call13
  · exact Tryd.call14
  · exact Tryd.call15
  · exact Tryd.call16
  · exact Tryd.call17
  · exact Tryd.call18
  · exact Tryd.call19
  · exact Tryd.call20
  · exact Tryd.call21
  · exact Tryd.call22
  · exact Tryd.call23
  · exact Tryd.call24
  · exact Tryd.call25
  · exact Tryd.call26
  · exact Tryd.call27
  · exact Tryd.call28
  · exact Tryd.call29
  · exact Tryd.call30
  · exact Tryd.call31
  · exact Tryd.call32
  · exact Tryd.call33
  · exact Tryd.call34
  · exact Tryd.call35
  · exact Tryd.call36
  · exact Tryd.call37
  · exact Tryd.call38
  · exact Tryd.call39
  · exact Tryd.call40
  · exact Tryd.call41
  · exact Tryd.call42
  · exact Tryd.call43
theorem mixed : Tryd.prog.follows .mixedOrders = true := by kernel_rfl
noncomputable def C0 : Cx := mkCx Tryd.prog fns [] []
theorem C0_ok : CxOk C0 := mkCx_ok enter mixed (fun p h => by cases h) (fun l h => by cases h)
def ks1 : List CK := [.int .i64]
end Go.Proofs.YtpblmkephkhlkaaDoor
/- Package ledger: the most groups of a set of parties: the loop over the sets within a set. No conditions. -/
namespace Go.Proofs.YtpblmkephkhlkaaDoor
open Go.Ev
set_option linter.all false
def sl (i n : Nat) : Value := .slice (some ⟨i, 0, some 0⟩) n 0
def Rb (own : Bool) (r : Row) : Option Blk := some (.row [.int .i64] own r)
def wi (n : Int) : Int := IntKind.i64.wrap n
def bAnd (a b : Int) : Int := IntKind.i64.wrap ((BitVec.ofInt 64 a &&& BitVec.ofInt 64 b).toNat : Int)
def bXor (a b : Int) : Int := IntKind.i64.wrap ((BitVec.ofInt 64 a ^^^ BitVec.ofInt 64 b).toNat : Int)
def bOr (a b : Int) : Int := IntKind.i64.wrap ((BitVec.ofInt 64 a ||| BitVec.ofInt 64 b).toNat : Int)
def bShr (a b : Int) : Int := a.fdiv (2 ^ min b.toNat 64)
theorem ofI (a : Nat) (h : a < 18446744073709551616) : (BitVec.ofInt 64 (a : Int)).toNat = a := by
  rw [BitVec.ofInt_natCast, BitVec.toNat_ofNat]
  exact Nat.mod_eq_of_lt h
theorem wiN {n : Int} (h1 : -9223372036854775808 ≤ n) (h2 : n ≤ 9223372036854775807) : wi n = n := wrap64 h1 h2
theorem bAndN (a b : Nat) (ha : a < 9223372036854775808) (hb : b < 18446744073709551616) : bAnd (a : Int) (b : Int) = ((a &&& b : Nat) : Int) := by
  unfold bAnd
  have h : a &&& b ≤ a := Nat.and_le_left
  rw [BitVec.toNat_and, ofI a (by omega), ofI b hb]
  exact wrap64 (by omega) (by omega)
theorem bXorN (a b : Nat) (ha : a < 9223372036854775808) (hb : b < 9223372036854775808) : bXor (a : Int) (b : Int) = ((a ^^^ b : Nat) : Int) := by
  unfold bXor
  have h : a ^^^ b < 2 ^ 63 := Nat.xor_lt_two_pow (by omega) (by omega)
  rw [BitVec.toNat_xor, ofI a (by omega), ofI b (by omega)]
  exact wrap64 (by omega) (by omega)
theorem bOrN (a b : Nat) (ha : a < 9223372036854775808) (hb : b < 9223372036854775808) : bOr (a : Int) (b : Int) = ((a ||| b : Nat) : Int) := by
  unfold bOr
  have h : a ||| b < 2 ^ 63 := Nat.or_lt_two_pow (by omega) (by omega)
  rw [BitVec.toNat_or, ofI a (by omega), ofI b (by omega)]
  exact wrap64 (by omega) (by omega)
theorem bShrN (a l : Nat) (hl : l ≤ 64) : bShr (a : Int) (l : Int) = ((a >>> l : Nat) : Int) := by
  unfold bShr
  rw [Int.toNat_natCast, Nat.min_eq_left hl, Int.fdiv_eq_ediv_of_nonneg _ (Int.le_of_lt (Int.pow_pos (by decide))), Nat.shiftRight_eq_div_pow, Int.natCast_ediv, Int.natCast_pow]
  rfl
/-- Whether a set has a party. -/
theorem bit_iff (a l : Nat) (ha : a < 9223372036854775808) (hl : l ≤ 64) : (bAnd (bShr (a : Int) (l : Int)) 1 == 1) = a.testBit l := by
  have h1 : a >>> l ≤ a := by rw [Nat.shiftRight_eq_div_pow]; exact Nat.div_le_self _ _
  have h2 := bAndN (a >>> l) 1 (by omega) (by omega)
  rw [bShrN a l hl, show ((1 : Int)) = ((1 : Nat) : Int) from rfl, h2, Nat.and_one_is_mod]
  unfold Nat.testBit
  rw [Nat.and_comm, Nat.and_one_is_mod]
  rcases Nat.mod_two_eq_zero_or_one (a >>> l) with h | h <;> rw [h] <;> rfl
/-- One set within s: the row of the most groups goes on. -/
def inU (sm : Row) (s low g : Nat) (ou : Row) : Row :=
  if g.testBit low = true ∧ g ≠ s ∧ sm.I g 0 = 0 then ou.setI s 0 (if wi (1 + ou.I (s ^^^ g) 0) > ou.I s 0 then wi (1 + ou.I (s ^^^ g) 0) else ou.I s 0) else ou
def innR (sm : Row) (s low : Nat) : Nat → Nat → Row → Row
  | 0, _, ou => ou
  | n + 1, g, ou => if g = 0 then ou else innR sm s low n ((g - 1) &&& s) (inU sm s low g ou)
def S11 (nb N M : Nat) (s low g : Int) (b sm ou : Row) : St := ⟨[sl 0 nb] ++ us 2 ++ [sl 1 N, sl 2 M, i64 s, i64 low, i64 g] ++ us 83, [[]], [Rb false b, Rb true sm, Rb true ou]⟩
def S11x (nb N M : Nat) (s : Int) (b sm ou : Row) : St := ⟨[sl 0 nb] ++ us 2 ++ [sl 1 N, sl 2 M, i64 s] ++ us 85, [[]], [Rb false b, Rb true sm, Rb true ou]⟩
def G11 (cd : Nat → Nat → Nat → Int → Int → Int → Bool) : List It → (X → St → Option (List D)) → Option (List D)
  | [.n nb, .n N, .n M, .i s, .i low, .i g, .r b, .r sm, .r ou], k => br (cd nb N M s low g) (k (.exit 2) (S11x nb N M s b sm (innR sm s.toNat low.toNat (g.toNat + 1) g.toNat ou))) none
  | _, _ => none
def l11 (cd : Nat → Nat → Nat → Int → Int → Int → Bool) : LoopC where
  f := 29
  id := 11
  lv := [0, 3, 4, 5, 6, 7]
  lx := [0, 2, 3, 4, 5]
  p := { τ := [.v (.sl 0)] ++ pu 2 ++ [.v (.sl 1), .v (.sl 2), .v (.int .i64), .v (.int .i64), .v (.int .i64)] ++ pu 83, saved := [[]], mem := [.row ks1 false, .row ks1 true, .row ks1 true] }
  G := G11 cd
/-- The party that comes first in a set. -/
def ctzN (s : Nat) : Nat := Lib.ctz 64 s
def smU (b : Row) (s : Nat) (sm : Row) : Row := sm.setI s 0 (wi (sm.I (s &&& (s - 1)) 0 + b.I (ctzN s) 0))
def ouU (b : Row) (s : Nat) (sm ou : Row) : Row :=
  if (smU b s sm).I s 0 ≠ 0 then ou.setI s 0 (-1) else innR (smU b s sm) s (ctzN s) (s + 1) s ((ou.setI s 0 (-1)).setI s 0 1)
def mstR (b : Row) : Nat → Nat → Row → Row → Row
  | 0, _, _, ou => ou
  | m + 1, s, sm, ou => mstR b m (s + 1) (smU b s sm) (ouU b s sm ou)
def S3 (nb N M : Nat) (s : Int) (b sm ou : Row) : St := ⟨[sl 0 nb] ++ us 2 ++ [sl 1 N, sl 2 M, i64 s] ++ us 85, [[]], [Rb false b, Rb true sm, Rb true ou]⟩
def S3x (M : Nat) (ou : Row) : St := ⟨us 4 ++ [sl 0 M] ++ us 86, [[]], [Rb true ou]⟩
def G3 (cd : Nat → Nat → Nat → Bool) : List It → (X → St → Option (List D)) → Option (List D)
  | [.n nb, .n N, .n M, .r b, .r sm, .r ou], k => br (cd nb N M) (k (.exit 0) (S3x M (mstR b (N - 1) 1 sm ou))) none
  | _, _ => none
def l3 (cd : Nat → Nat → Nat → Bool) : LoopC where
  f := 29
  id := 3
  lv := [0, 3, 4, 5]
  lx := [2, 4]
  p := { τ := [.v (.sl 0)] ++ pu 2 ++ [.v (.sl 1), .v (.sl 2), .v (.c (i64 1))] ++ pu 85, saved := [[]], mem := [.row ks1 false, .row ks1 true, .row ks1 true] }
  G := G3 cd
noncomputable def C1g (c1 : Nat → Nat → Nat → Int → Int → Int → Bool) (c2 : Nat → Nat → Nat → Bool) : Cx := mkCx Tryd.prog fns [(43, Ftz)] [l11 c1, l3 c2]
theorem round11 (c1 : Nat → Nat → Nat → Int → Int → Int → Bool) (c2 : Nat → Nat → Nat → Bool) (R : St → Option (List D)) (K : X → St → Option (List D)) (p : Nat) (nb N M : Nat) (s low g : Int) (b sm ou : Row) : evCode (C1g c1 c2) 29 true (inl (C1g c1 c2) (p + 4)) (lbody (C1g c1 c2).P 29 11) (S11 nb N M s low g b sm ou) (rnd [0, 3, 4, 5, 6, 7] (some [0, 2, 3, 4, 5]) R K) =
    br (decide (g > 0)) (br (decide (low < 0)) none (br (bAnd (bShr g low) 1 == 1) (br (g != s) (br (decide (0 ≤ g) && decide (g < (N : Int))) (br (sm.I (0 + g.toNat) 0 == 0) (br (decide (0 ≤ s) && decide (s < (M : Int))) (br (decide (0 ≤ bXor s g) && decide (bXor s g < (M : Int))) (br (decide (0 ≤ s) && decide (s < (M : Int)))
      (R (S11 nb N M s low (bAnd (wi (g - 1)) s) b sm (ou.setI (0 + s.toNat) 0 (if wi (1 + ou.I (0 + (bXor s g).toNat) 0) > ou.I (0 + s.toNat) 0 then wi (1 + ou.I (0 + (bXor s g).toNat) 0) else ou.I (0 + s.toNat) 0)))) none) none) none)
      (R (S11 nb N M s low (bAnd (wi (g - 1)) s) b sm ou))) none) (R (S11 nb N M s low (bAnd (wi (g - 1)) s) b sm ou))) (R (S11 nb N M s low (bAnd (wi (g - 1)) s) b sm ou)))) (K (.exit 2) (S11x nb N M s b sm ou)) := by kernel_rfl
def tzU (s : Int) : Int := ctzI (IntKind.u64.wrap s)
set_option maxRecDepth 100000 in
theorem round3 (c1 : Nat → Nat → Nat → Int → Int → Int → Bool) (c2 : Nat → Nat → Nat → Bool) (R : St → Option (List D)) (K : X → St → Option (List D)) (p : Nat) (nb N M : Nat) (s : Int) (b sm ou : Row) : evCode (C1g c1 c2) 29 true (inl (C1g c1 c2) (p + 4)) (lbody (C1g c1 c2).P 29 3) (S3 nb N M s b sm ou) (rnd [0, 3, 4, 5] (some [2, 4]) R K) =
    br (decide (s < (M : Int))) (br (decide (0 < IntKind.u64.wrap s) && decide (IntKind.u64.wrap s < 18446744073709551616)) (br (decide (0 ≤ bAnd s (wi (s - 1))) && decide (bAnd s (wi (s - 1)) < (N : Int))) (br (decide (0 ≤ tzU s) && decide (tzU s < (nb : Int))) (br (decide (0 ≤ s) && decide (s < (N : Int))) (br (decide (0 ≤ s) && decide (s < (M : Int))) (br (decide (0 ≤ s) && decide (s < (N : Int)))
      (br ((sm.setI (0 + s.toNat) 0 (wi (sm.I (0 + (bAnd s (wi (s - 1))).toNat) 0 + b.I (0 + (tzU s).toNat) 0))).I (0 + s.toNat) 0 != 0)
        (R (S3 nb N M (wi (s + 1)) b (sm.setI (0 + s.toNat) 0 (wi (sm.I (0 + (bAnd s (wi (s - 1))).toNat) 0 + b.I (0 + (tzU s).toNat) 0))) (ou.setI (0 + s.toNat) 0 (-1))))
        (br (decide (0 ≤ s) && decide (s < (M : Int))) (br (c1 nb N M s (tzU s) s)
          (R (S3 nb N M (wi (s + 1)) b (sm.setI (0 + s.toNat) 0 (wi (sm.I (0 + (bAnd s (wi (s - 1))).toNat) 0 + b.I (0 + (tzU s).toNat) 0))) (innR (sm.setI (0 + s.toNat) 0 (wi (sm.I (0 + (bAnd s (wi (s - 1))).toNat) 0 + b.I (0 + (tzU s).toNat) 0))) s.toNat (tzU s).toNat (s.toNat + 1) s.toNat ((ou.setI (0 + s.toNat) 0 (-1)).setI (0 + s.toNat) 0 1)))) none) none)) none) none) none) none) none) none) (K (.exit 0) (S3x M ou)) := by kernel_rfl
end Go.Proofs.YtpblmkephkhlkaaDoor
/- Package ledger: the most groups of all sets of parties: contract. No conditions. -/
namespace Go.Proofs.YtpblmkephkhlkaaDoor
open Go.Ev
set_option linter.all false
def in11 (nb N M : Nat) (s low g : Int) : Bool := decide (0 ≤ s ∧ s < N ∧ N = M ∧ N = 2 ^ nb ∧ nb ≤ 62 ∧ 0 ≤ low ∧ low ≤ 62 ∧ g = s)
def in3 (nb N M : Nat) : Bool := decide (N = 2 ^ nb ∧ N = M ∧ nb ≤ 62)
noncomputable def C1 : Cx := C1g in11 in3
theorem go11 {f : St → (X → St → Option (List D)) → Option (List D)} {lv : List Tmp} {lx : Option (List Tmp)} {nb N s low : Nat} {b sm : Row}
    (hr : ∀ (g : Int) (ou : Row) R K, f (S11 nb N N s low g b sm ou) (rnd lv lx R K) =
      br (decide (g > 0)) (br (decide ((low : Int) < 0)) none (br (bAnd (bShr g low) 1 == 1) (br (g != s) (br (decide (0 ≤ g) && decide (g < (N : Int))) (br (sm.I (0 + g.toNat) 0 == 0) (br (decide (0 ≤ (s : Int)) && decide ((s : Int) < (N : Int))) (br (decide (0 ≤ bXor s g) && decide (bXor s g < (N : Int))) (br (decide (0 ≤ (s : Int)) && decide ((s : Int) < (N : Int)))
        (R (S11 nb N N s low (bAnd (wi (g - 1)) s) b sm (ou.setI (0 + (s : Int).toNat) 0 (if wi (1 + ou.I (0 + (bXor s g).toNat) 0) > ou.I (0 + (s : Int).toNat) 0 then wi (1 + ou.I (0 + (bXor s g).toNat) 0) else ou.I (0 + (s : Int).toNat) 0)))) none) none) none)
        (R (S11 nb N N s low (bAnd (wi (g - 1)) s) b sm ou))) none) (R (S11 nb N N s low (bAnd (wi (g - 1)) s) b sm ou))) (R (S11 nb N N s low (bAnd (wi (g - 1)) s) b sm ou)))) (K (.exit 2) (S11x nb N N s b sm ou)))
    (hN : N = 2 ^ nb) (hb : nb ≤ 62) (hs : s < N) (hl : low ≤ 62) (K : X → St → Option (List D)) :
    ∀ (n fu g : Nat) (ou : Row), g &&& s = g → g < n → n ≤ fu → rounds lv lx f fu (S11 nb N N s low g b sm ou) K = K (.exit 2) (S11x nb N N s b sm (innR sm s low n g ou))
  | n + 1, fu + 1, g, ou, h0, h1, h2 => by
    have hgs : g ≤ s := by have : g &&& s ≤ s := Nat.and_le_right; omega
    have hNN : N ≤ 4611686018427387904 := by
      have : 2 ^ nb ≤ 2 ^ 62 := Nat.pow_le_pow_right (by decide) hb
      omega
    rw [rnds1, hr]
    unfold innR
    by_cases hg : g = 0
    · rw [if_pos hg, decide_eq_false (show ¬ (g : Int) > 0 by omega), br_false]
    · rw [if_neg hg, decide_eq_true (show (g : Int) > 0 by omega), br_true, decide_eq_false (show ¬ (low : Int) < 0 by omega), br_false, bit_iff g low (by omega) (by omega)]
      have hx : s ^^^ g < N := by rw [hN]; exact Nat.xor_lt_two_pow (by omega) (by omega)
      have hnext : bAnd (wi ((g : Int) - 1)) (s : Int) = (((g - 1) &&& s : Nat) : Int) := by
        rw [wiN (by omega) (by omega), show (g : Int) - 1 = ((g - 1 : Nat) : Int) by omega]
        exact bAndN _ _ (by omega) (by omega)
      have hle : (g - 1) &&& s ≤ g - 1 := Nat.and_le_left
      have hsub : ((g - 1) &&& s) &&& s = (g - 1) &&& s := by rw [Nat.and_assoc, Nat.and_self]
      have ih := fun ou' => go11 hr hN hb hs hl K n fu ((g - 1) &&& s) ou' hsub (by omega) (by omega)
      rw [hnext, bXorN s g (by omega) (by omega), Int.toNat_natCast, Int.toNat_natCast, Int.toNat_natCast, Nat.zero_add, Nat.zero_add, Nat.zero_add]
      unfold inU
      cases hbit : g.testBit low
      · rw [br_false, if_neg (fun h => by cases h.1)]
        exact ih ou
      · rw [br_true]
        by_cases hgs' : g = s
        · rw [show ((g : Int) != (s : Int)) = false by rw [hgs']; simp, br_false, if_neg (show ¬ (true = true ∧ g ≠ s ∧ sm.I g 0 = 0) from fun h => h.2.1 hgs')]
          exact ih ou
        · rw [show ((g : Int) != (s : Int)) = true from bne_iff_ne.mpr (by omega), br_true, show (decide (0 ≤ (g : Int)) && decide ((g : Int) < (N : Int))) = true by simp only [Bool.and_eq_true, decide_eq_true_eq]; omega, br_true]
          by_cases hz : sm.I g 0 = 0
          · rw [show (sm.I g 0 == 0) = true by simpa using hz, br_true, show (decide (0 ≤ (s : Int)) && decide ((s : Int) < (N : Int))) = true by simp only [Bool.and_eq_true, decide_eq_true_eq]; omega, br_true,
              show (decide (0 ≤ ((s ^^^ g : Nat) : Int)) && decide (((s ^^^ g : Nat) : Int) < (N : Int))) = true by simp only [Bool.and_eq_true, decide_eq_true_eq]; omega, br_true, br_true, if_pos (show true = true ∧ g ≠ s ∧ sm.I g 0 = 0 from ⟨rfl, hgs', hz⟩)]
            exact ih _
          · rw [show (sm.I g 0 == 0) = false by simpa using hz, br_false, if_neg (show ¬ (true = true ∧ g ≠ s ∧ sm.I g 0 = 0) from fun h => hz h.2.2)]
            exact ih ou
set_option maxRecDepth 100000 in
theorem loop11 : LoopOk C1 (l11 in11) := ⟨by kernel_rfl, fun q its k rr h => by
  show rounds [0, 3, 4, 5, 6, 7] (some [0, 2, 3, 4, 5]) (evCode C1 29 true (inl C1 (q + 4)) (lbody C1.P 29 11)) 18446744073709551616 (bst (l11 in11).p its) k = some rr
  change G11 in11 its k = some rr at h
  unfold G11 at h
  split at h
  · rename_i nb N M s low g b sm ou
    rcases br_some h with ⟨h1, h2⟩ | ⟨_, h2⟩
    · obtain ⟨k1, k2, k3, k4, k5, k6, k7, k8⟩ := of_decide_eq_true h1
      obtain ⟨s, rfl⟩ := Int.eq_ofNat_of_zero_le k1
      obtain ⟨low, rfl⟩ := Int.eq_ofNat_of_zero_le k6
      subst k3
      subst k8
      rw [← h2, Int.toNat_natCast, Int.toNat_natCast]
      have hp : 2 ^ nb ≤ 2 ^ 62 := Nat.pow_le_pow_right (by decide) k5
      exact go11 (fun g ou R K => round11 in11 in3 R K q nb N N s low g b sm ou) k4 k5 (by omega) (by omega) k (s + 1) 18446744073709551616 s ou (Nat.and_self s) (by omega) (by omega)
    · cases h2
  · cases h⟩
theorem ctz_lt (s nb : Nat) (h0 : 0 < s) (h1 : s < 2 ^ nb) (h2 : nb ≤ 62) : ctzN s < nb := by
  have hp : 2 ^ nb ≤ 2 ^ 62 := Nat.pow_le_pow_right (by decide) h2
  obtain ⟨hlow, hk⟩ := Lib.lowest_bit 64 s (by omega) (by omega)
  have : s &&& (2 ^ 64 - s) ≤ s := Nat.and_le_left
  rw [hlow] at this
  unfold ctzN
  exact (Nat.pow_lt_pow_iff_right (by decide)).1 (Nat.lt_of_le_of_lt this h1)
theorem tzUN (s : Nat) (h : s < 9223372036854775808) : tzU (s : Int) = (ctzN s : Int) := by
  unfold tzU ctzI ctzN
  rw [show IntKind.u64.wrap (s : Int) = s from wrap_id (by simp [Lit.wf, IntKind.min, IntKind.max, IntKind.signed, IntKind.bits]; omega), Int.toNat_natCast]
theorem go3 {f : St → (X → St → Option (List D)) → Option (List D)} {lv : List Tmp} {lx : Option (List Tmp)} {nb N : Nat} {b : Row}
    (hr : ∀ (s : Int) (sm ou : Row) R K, f (S3 nb N N s b sm ou) (rnd lv lx R K) =
      br (decide (s < (N : Int))) (br (decide (0 < IntKind.u64.wrap s) && decide (IntKind.u64.wrap s < 18446744073709551616)) (br (decide (0 ≤ bAnd s (wi (s - 1))) && decide (bAnd s (wi (s - 1)) < (N : Int))) (br (decide (0 ≤ tzU s) && decide (tzU s < (nb : Int))) (br (decide (0 ≤ s) && decide (s < (N : Int))) (br (decide (0 ≤ s) && decide (s < (N : Int))) (br (decide (0 ≤ s) && decide (s < (N : Int)))
        (br ((sm.setI (0 + s.toNat) 0 (wi (sm.I (0 + (bAnd s (wi (s - 1))).toNat) 0 + b.I (0 + (tzU s).toNat) 0))).I (0 + s.toNat) 0 != 0)
          (R (S3 nb N N (wi (s + 1)) b (sm.setI (0 + s.toNat) 0 (wi (sm.I (0 + (bAnd s (wi (s - 1))).toNat) 0 + b.I (0 + (tzU s).toNat) 0))) (ou.setI (0 + s.toNat) 0 (-1))))
          (br (decide (0 ≤ s) && decide (s < (N : Int))) (br (in11 nb N N s (tzU s) s)
            (R (S3 nb N N (wi (s + 1)) b (sm.setI (0 + s.toNat) 0 (wi (sm.I (0 + (bAnd s (wi (s - 1))).toNat) 0 + b.I (0 + (tzU s).toNat) 0))) (innR (sm.setI (0 + s.toNat) 0 (wi (sm.I (0 + (bAnd s (wi (s - 1))).toNat) 0 + b.I (0 + (tzU s).toNat) 0))) s.toNat (tzU s).toNat (s.toNat + 1) s.toNat ((ou.setI (0 + s.toNat) 0 (-1)).setI (0 + s.toNat) 0 1)))) none) none)) none) none) none) none) none) none) (K (.exit 0) (S3x N ou)))
    (hN : N = 2 ^ nb) (hb : nb ≤ 62) (K : X → St → Option (List D)) :
    ∀ (m fu s : Nat) (sm ou : Row), s + m = N → 0 < s → m < fu → rounds lv lx f fu (S3 nb N N s b sm ou) K = K (.exit 0) (S3x N (mstR b m s sm ou))
  | 0, fu + 1, s, sm, ou, h0, h1, h2 => by
    rw [rnds1, hr, decide_eq_false (show ¬ (s : Int) < (N : Int) by omega), br_false]
    rfl
  | m + 1, fu + 1, s, sm, ou, h0, h1, h2 => by
    have hNN : N ≤ 4611686018427387904 := by
      have : 2 ^ nb ≤ 2 ^ 62 := Nat.pow_le_pow_right (by decide) hb
      omega
    have hctz := ctz_lt s nb h1 (by omega) hb
    have hw : IntKind.u64.wrap (s : Int) = s := wrap_id (by simp [Lit.wf, IntKind.min, IntKind.max, IntKind.signed, IntKind.bits]; omega)
    have hand : bAnd (s : Int) (wi ((s : Int) - 1)) = ((s &&& (s - 1) : Nat) : Int) := by
      rw [wiN (by omega) (by omega), show (s : Int) - 1 = ((s - 1 : Nat) : Int) by omega]
      exact bAndN _ _ (by omega) (by omega)
    have hle : s &&& (s - 1) ≤ s - 1 := Nat.and_le_right
    have ih := go3 hr hN hb K m fu (s + 1) (smU b s sm) (ouU b s sm ou) (by omega) (by omega) (by omega)
    have hin : in11 nb N N s (ctzN s : Int) s = true := decide_eq_true ⟨by omega, by omega, rfl, hN, hb, by omega, by omega, rfl⟩
    have hs : (decide (0 ≤ (s : Int)) && decide ((s : Int) < (N : Int))) = true := by simp only [Bool.and_eq_true, decide_eq_true_eq]; omega
    rw [rnds1, hr, hw, hand, tzUN s (by omega), hin, hs, wiN (n := (s : Int) + 1) (by omega) (by omega), show (s : Int) + 1 = ((s + 1 : Nat) : Int) by omega, decide_eq_true (show (s : Int) < (N : Int) by omega),
      show (decide (0 < (s : Int)) && decide ((s : Int) < 18446744073709551616)) = true by simp only [Bool.and_eq_true, decide_eq_true_eq]; omega,
      show (decide (0 ≤ ((s &&& (s - 1) : Nat) : Int)) && decide (((s &&& (s - 1) : Nat) : Int) < (N : Int))) = true by simp only [Bool.and_eq_true, decide_eq_true_eq]; omega,
      show (decide (0 ≤ (ctzN s : Int)) && decide ((ctzN s : Int) < (nb : Int))) = true by simp only [Bool.and_eq_true, decide_eq_true_eq]; omega]
    rw [br_true, br_true, br_true, br_true, br_true, br_true, br_true, br_true, br_true, Int.toNat_natCast, Int.toNat_natCast, Int.toNat_natCast, Nat.zero_add, Nat.zero_add, Nat.zero_add]
    unfold mstR
    rw [← ih]
    unfold ouU
    by_cases hz : (smU b s sm).I s 0 = 0
    · rw [if_neg (fun h => h hz), show ((sm.setI s 0 (wi (sm.I (s &&& (s - 1)) 0 + b.I (ctzN s) 0))).I s 0 != 0) = false by rw [show (sm.setI s 0 (wi (sm.I (s &&& (s - 1)) 0 + b.I (ctzN s) 0))).I s 0 = 0 from hz]; rfl, br_false]
      rfl
    · rw [if_pos hz, show ((sm.setI s 0 (wi (sm.I (s &&& (s - 1)) 0 + b.I (ctzN s) 0))).I s 0 != 0) = true from bne_iff_ne.mpr hz, br_true]
      rfl
set_option maxRecDepth 100000 in
theorem loop3 : LoopOk C1 (l3 in3) := ⟨by kernel_rfl, fun q its k rr h => by
  show rounds [0, 3, 4, 5] (some [2, 4]) (evCode C1 29 true (inl C1 (q + 4)) (lbody C1.P 29 3)) 18446744073709551616 (bst (l3 in3).p its) k = some rr
  change G3 in3 its k = some rr at h
  unfold G3 at h
  split at h
  · rename_i nb N M b sm ou
    rcases br_some h with ⟨h1, h2⟩ | ⟨_, h2⟩
    · obtain ⟨k1, k2, k3⟩ := of_decide_eq_true h1
      subst k2
      rw [← h2]
      have hp : 2 ^ nb ≤ 2 ^ 62 := Nat.pow_le_pow_right (by decide) k3
      have h0 : 0 < 2 ^ nb := Nat.two_pow_pos nb
      exact go3 (fun s sm ou R K => round3 in11 in3 R K q nb N N s b sm ou) k1 k3 k (N - 1) 18446744073709551616 1 sm ou (by omega) (by omega) (by omega)
    · cases h2
  · cases h⟩
theorem C1_ok : CxW C1 Wt := mkCx_okW enter mixed (fun p h => by
  simp only [List.mem_cons, List.not_mem_nil, or_false] at h
  rcases h with rfl
  exact den_tz) (fun l h => by
  simp only [List.mem_cons, List.not_mem_nil, or_false] at h
  rcases h with rfl | rfl
  · exact loop11
  · exact loop3)
def nSz (b : Row) : Nat := (wi (1 * 2 ^ min (b.n : Int).toNat 64)).toNat
theorem tmost (c1 : Nat → Nat → Nat → Int → Int → Int → Bool) (c2 : Nat → Nat → Nat → Bool) (b : Row) : evF (C1g c1 c2) 6 29 [.slice ks1 b] =
    br (decide (0 ≤ wi (1 * 2 ^ min (b.n : Int).toNat 64)) && decide (wi (1 * 2 ^ min (b.n : Int).toNat 64) ≤ wi (1 * 2 ^ min (b.n : Int).toNat 64)) && decide (wi (1 * 2 ^ min (b.n : Int).toNat 64) ≤ 100000000000))
      (br (decide (0 ≤ wi (1 * 2 ^ min (b.n : Int).toNat 64)) && decide (wi (1 * 2 ^ min (b.n : Int).toNat 64) ≤ wi (1 * 2 ^ min (b.n : Int).toNat 64)) && decide (wi (1 * 2 ^ min (b.n : Int).toNat 64) ≤ 100000000000))
        (br (c2 b.n (nSz b) (nSz b)) (some [.slice ks1 (winOf (mstR b (nSz b - 1) 1 (Row.zeros (nSz b)) (Row.zeros (nSz b))) 0 (nSz b))]) none) none) none := by kernel_rfl
/-- The most groups, for all sets. -/
def mostR (b : Row) : Row := winOf (mstR b (2 ^ b.n - 1) 1 (Row.zeros (2 ^ b.n)) (Row.zeros (2 ^ b.n))) 0 (2 ^ b.n)
def Fmost : List D → Option (Bool × List D)
  | [.slice [.int .i64] b] => some (decide (b.n ≤ 20), [.slice ks1 (mostR b)])
  | _ => none
theorem nSz_eq {b : Row} (h : b.n ≤ 20) : wi (1 * 2 ^ min (b.n : Int).toNat 64) = ((2 ^ b.n : Nat) : Int) := by
  have hp : 2 ^ b.n ≤ 2 ^ 20 := Nat.pow_le_pow_right (by decide) h
  rw [Int.toNat_natCast, Nat.min_eq_left (by omega), Int.one_mul, show (2 : Int) ^ b.n = ((2 ^ b.n : Nat) : Int) by rw [Int.natCast_pow]; rfl]
  generalize 2 ^ b.n = N at hp ⊢
  exact wiN (by omega) (by omega)
theorem den_most : DenW Tryd.prog Wt 29 Fmost := evF_denW C1_ok fun ds rs h => by
  unfold Fmost at h
  split at h
  · rename_i b
    simp only [Option.some.injEq, Prod.mk.injEq, decide_eq_true_eq] at h
    obtain ⟨h0, rfl⟩ := h
    refine (tmost in11 in3 b).trans ?_
    have e := nSz_eq h0
    have hp : 2 ^ b.n ≤ 2 ^ 20 := Nat.pow_le_pow_right (by decide) h0
    unfold nSz
    have hc : ∀ N : Nat, N ≤ 2 ^ 20 → (decide (0 ≤ (N : Int)) && decide ((N : Int) ≤ (N : Int)) && decide ((N : Int) ≤ 100000000000)) = true := fun N hN => by simp only [Bool.and_eq_true, decide_eq_true_eq]; omega
    rw [e, Int.toNat_natCast, hc _ hp, br_true, br_true,
      show in3 b.n (2 ^ b.n) (2 ^ b.n) = true from decide_eq_true ⟨rfl, rfl, by omega⟩, br_true]
    rfl
  · cases h
end Go.Proofs.YtpblmkephkhlkaaDoor
/- Package ledger: the check of balances, on both sides. No conditions. -/
namespace Go.Proofs.YtpblmkephkhlkaaDoor
open Go.Ev
set_option linter.all false
/-- Balances are gone through: whether one is too great, and the sum so far. -/
def ckL (b : Row) : Nat → Nat → Int → Bool × Int
  | 0, _, s => (false, s)
  | m + 1, j, s => if b.I j 0 < -1000000000 ∨ b.I j 0 > 1000000000 then (true, s) else ckL b m (j + 1) (wi (s + b.I j 0))
def S6 (n : Nat) (sum j : Int) (b : Row) : St := ⟨us 4 ++ [i64 sum] ++ us 8 ++ [sl 0 n, i64 n, i64 j] ++ us 15, [[]], [Rb false b]⟩
def S6r (sum : Int) : St := ⟨us 2 ++ [i64 8] ++ us 1 ++ [i64 sum] ++ us 26, [[]], []⟩
def S6x (sum : Int) : St := ⟨us 4 ++ [i64 sum] ++ us 26, [[]], []⟩
def G6 (cd : Nat → Int → Bool) : List It → (X → St → Option (List D)) → Option (List D)
  | [.n n, .i n', .r b], k => br (cd n n') (br (ckL b n 0 0).1 (k .ret (S6r (ckL b n 0 0).2)) (k (.exit 0) (S6x (ckL b n 0 0).2))) none
  | _, _ => none
def l6 (cd : Nat → Int → Bool) : LoopC where
  f := 28
  id := 6
  lv := [4, 13, 14, 15]
  lx := [2, 4]
  p := { τ := pu 4 ++ [.v (.c (i64 0))] ++ pu 8 ++ [.v (.sl 0), .v (.int .i64), .v (.c (i64 0))] ++ pu 15, saved := [[]], mem := [.row ks1 false] }
  G := G6 cd
def S5 (n : Nat) (sum j : Int) (b : Row) : St := ⟨[sl 0 n] ++ us 2 ++ [i64 sum, i64 j] ++ us 30, [[]], [Rb false b]⟩
def S5r (sum : Int) : St := ⟨us 2 ++ [i64 8, i64 sum] ++ us 31, [[]], []⟩
def S5x (sum : Int) : St := ⟨us 3 ++ [i64 sum] ++ us 31, [[]], []⟩
def G5 (cd : Nat → Int → Bool) : List It → (X → St → Option (List D)) → Option (List D)
  | [.n n, .r b], k => br (cd n n) (br (ckL b n 0 0).1 (k .ret (S5r (ckL b n 0 0).2)) (k (.exit 0) (S5x (ckL b n 0 0).2))) none
  | _, _ => none
def l5 (cd : Nat → Int → Bool) : LoopC where
  f := 16
  id := 5
  lv := [0, 3, 4]
  lx := [2, 3]
  p := { τ := [.v (.sl 0)] ++ pu 2 ++ [.v (.c (i64 0)), .v (.c (i64 0))] ++ pu 30, saved := [[]], mem := [.row ks1 false] }
  G := G5 cd
noncomputable def C2g (cd : Nat → Int → Bool) : Cx := mkCx Tryd.prog fns [] [l6 cd, l5 cd]
theorem round6 (cd : Nat → Int → Bool) (R : St → Option (List D)) (K : X → St → Option (List D)) (p : Nat) (n : Nat) (sum j : Int) (b : Row) : evCode (C2g cd) 28 true (inl (C2g cd) (p + 4)) (lbody (C2g cd).P 28 6) (S6 n sum j b) (rnd [4, 13, 14, 15] (some [2, 4]) R K) =
    br (decide (j < (n : Int))) (br (decide (0 ≤ j) && decide (j < (n : Int))) (br (decide (b.I (0 + j.toNat) 0 < -1000000000)) (K .ret (S6r sum)) (br (decide (b.I (0 + j.toNat) 0 > 1000000000)) (K .ret (S6r sum)) (R (S6 n (wi (sum + b.I (0 + j.toNat) 0)) (wi (j + 1)) b)))) none) (K (.exit 0) (S6x sum)) := by kernel_rfl
theorem round5 (cd : Nat → Int → Bool) (R : St → Option (List D)) (K : X → St → Option (List D)) (p : Nat) (n : Nat) (sum j : Int) (b : Row) : evCode (C2g cd) 16 true (inl (C2g cd) (p + 4)) (lbody (C2g cd).P 16 5) (S5 n sum j b) (rnd [0, 3, 4] (some [2, 3]) R K) =
    br (decide (j < (n : Int))) (br (decide (0 ≤ j) && decide (j < (n : Int))) (br (decide (b.I (0 + j.toNat) 0 < -1000000000)) (K .ret (S5r sum)) (br (decide (0 ≤ j) && decide (j < (n : Int))) (br (decide (b.I (0 + j.toNat) 0 > 1000000000)) (K .ret (S5r sum)) (br (decide (0 ≤ j) && decide (j < (n : Int))) (R (S5 n (wi (sum + b.I (0 + j.toNat) 0)) (wi (j + 1)) b)) none)) none)) none) (K (.exit 0) (S5x sum)) := by kernel_rfl
def inCk (n : Nat) (m : Int) : Bool := decide (m = n ∧ n ≤ 1000)
noncomputable def C2 : Cx := C2g inCk
theorem go6 {f : St → (X → St → Option (List D)) → Option (List D)} {lv : List Tmp} {lx : Option (List Tmp)} {S : Int → Int → St} {Sr Sx : Int → St} {n : Nat} {b : Row} (hn : n ≤ 1000)
    (hr : ∀ (sum : Int) (j : Nat) R K, f (S sum j) (rnd lv lx R K) = if j < n then (if b.I j 0 < -1000000000 ∨ b.I j 0 > 1000000000 then K .ret (Sr sum) else R (S (wi (sum + b.I j 0)) (j + 1 : Nat))) else K (.exit 0) (Sx sum)) (K : X → St → Option (List D)) :
    ∀ (m fu j : Nat) (s : Int), j + m = n → m < fu → rounds lv lx f fu (S s j) K = br (ckL b m j s).1 (K .ret (Sr (ckL b m j s).2)) (K (.exit 0) (Sx (ckL b m j s).2))
  | 0, fu + 1, j, s, h0, h1 => by
    rw [rnds1, hr, if_neg (by omega)]
    rfl
  | m + 1, fu + 1, j, s, h0, h1 => by
    rw [rnds1, hr, if_pos (by omega)]
    unfold ckL
    by_cases hb : b.I j 0 < -1000000000 ∨ b.I j 0 > 1000000000
    · rw [if_pos hb, if_pos hb]
      rfl
    · rw [if_neg hb, if_neg hb]
      exact go6 hn hr K m fu (j + 1) _ (by omega) (by omega)
set_option maxRecDepth 100000 in
theorem loop6 : LoopOk C2 (l6 inCk) := ⟨by kernel_rfl, fun q its k rr h => by
  show rounds [4, 13, 14, 15] (some [2, 4]) (evCode C2 28 true (inl C2 (q + 4)) (lbody C2.P 28 6)) 18446744073709551616 (bst (l6 inCk).p its) k = some rr
  change G6 inCk its k = some rr at h
  unfold G6 at h
  split at h
  · rename_i n n' b
    rcases br_some h with ⟨h1, h2⟩ | ⟨_, h2⟩
    · obtain ⟨k1, k2⟩ := of_decide_eq_true h1
      subst k1
      rw [← h2]
      exact go6 (S := fun s j => S6 n s j b) (Sr := S6r) (Sx := S6x) k2 (fun sum j R K => by
        refine (round6 inCk R K q n sum j b).trans ?_
        by_cases hj : j < n
        · rw [if_pos hj, decide_eq_true (show (j : Int) < (n : Int) by omega), br_true, decide_eq_true (show (0 : Int) ≤ (j : Int) by omega), show (true && true) = true from rfl, br_true, Int.toNat_natCast, Nat.zero_add, wiN (n := (j : Int) + 1) (by omega) (by omega)]
          by_cases h1 : b.I j 0 < -1000000000
          · rw [decide_eq_true h1, br_true, if_pos (.inl h1)]
          · rw [decide_eq_false h1, br_false]
            by_cases h2 : b.I j 0 > 1000000000
            · rw [decide_eq_true h2, br_true, if_pos (.inr h2)]
            · rw [decide_eq_false h2, br_false, if_neg (by omega)]
              rfl
        · rw [if_neg hj, decide_eq_false (show ¬ (j : Int) < (n : Int) by omega), br_false]) k n 18446744073709551616 0 0 (by omega) (by omega)
    · cases h2
  · cases h⟩
set_option maxRecDepth 100000 in
theorem loop5 : LoopOk C2 (l5 inCk) := ⟨by kernel_rfl, fun q its k rr h => by
  show rounds [0, 3, 4] (some [2, 3]) (evCode C2 16 true (inl C2 (q + 4)) (lbody C2.P 16 5)) 18446744073709551616 (bst (l5 inCk).p its) k = some rr
  change G5 inCk its k = some rr at h
  unfold G5 at h
  split at h
  · rename_i n b
    rcases br_some h with ⟨h1, h2⟩ | ⟨_, h2⟩
    · obtain ⟨_, k2⟩ := of_decide_eq_true h1
      rw [← h2]
      exact go6 (S := fun s j => S5 n s j b) (Sr := S5r) (Sx := S5x) k2 (fun sum j R K => by
        refine (round5 inCk R K q n sum j b).trans ?_
        by_cases hj : j < n
        · rw [if_pos hj, decide_eq_true (show (j : Int) < (n : Int) by omega), br_true, decide_eq_true (show (0 : Int) ≤ (j : Int) by omega), show (true && true) = true from rfl, br_true, br_true, br_true, Int.toNat_natCast, Nat.zero_add, wiN (n := (j : Int) + 1) (by omega) (by omega)]
          by_cases h1 : b.I j 0 < -1000000000
          · rw [decide_eq_true h1, br_true, if_pos (.inl h1)]
          · rw [decide_eq_false h1, br_false]
            by_cases h2 : b.I j 0 > 1000000000
            · rw [decide_eq_true h2, br_true, if_pos (.inr h2)]
            · rw [decide_eq_false h2, br_false, if_neg (by omega)]
              rfl
        · rw [if_neg hj, decide_eq_false (show ¬ (j : Int) < (n : Int) by omega), br_false]) k n 18446744073709551616 0 0 (by omega) (by omega)
    · cases h2
  · cases h⟩
theorem C2_ok : CxOk C2 := mkCx_ok enter mixed (fun p h => by cases h) (fun l h => by
  simp only [List.mem_cons, List.not_mem_nil, or_false] at h
  rcases h with rfl | rfl
  · exact loop6
  · exact loop5)
def ckB (b : Row) : Bool := (ckL b b.n 0 0).1
def ckS (b : Row) : Int := (ckL b b.n 0 0).2
/-- The error of balances. -/
def ckE (b : Row) : Int := if b.n < 1 ∨ 10 < b.n then 2 else if ckB b = true ∨ ckS b ≠ 0 then 8 else 0
def Fck : List D → Option (Bool × List D)
  | [.slice [.int .i64] b] => some (true, [.v (i64 (ckE b))])
  | _ => none
theorem tcheck (cd : Nat → Int → Bool) (b : Row) : evF (C2g cd) 6 28 [.slice ks1 b] =
    br (decide ((b.n : Int) < 1)) (some [.v (i64 2)]) (br (decide ((b.n : Int) > 10)) (some [.v (i64 2)]) (br (cd b.n b.n) (br (ckB b) (some [.v (i64 8)]) (br (ckS b != 0) (some [.v (i64 8)]) (some [.v (i64 0)]))) none)) := by kernel_rfl
theorem tstart (cd : Nat → Int → Bool) (b : Row) : evF (C2g cd) 6 16 [.slice ks1 b] =
    br (decide ((b.n : Int) ≥ 1)) (br (!decide ((b.n : Int) ≤ 10)) (some [.v (i64 2)]) (br (cd b.n b.n) (br (ckB b) (some [.v (i64 8)]) (br (ckS b != 0) (some [.v (i64 8)]) (some [.v (i64 0)]))) none)) (some [.v (i64 2)]) := by kernel_rfl
theorem ck_tail (b : Row) (h : ¬ (b.n < 1 ∨ 10 < b.n)) : br (ckB b) (some [D.v (i64 8)]) (br (ckS b != 0) (some [.v (i64 8)]) (some [.v (i64 0)])) = some [.v (i64 (ckE b))] := by
  unfold ckE
  rw [if_neg h]
  cases hb : ckB b
  · by_cases hs : ckS b = 0
    · rw [br_false, show (ckS b != 0) = false by simpa using hs, br_false, if_neg (by rintro (h | h); exact absurd h (by decide); exact h hs)]
    · rw [br_false, show (ckS b != 0) = true by simpa using hs, br_true, if_pos (.inr hs)]
  · rw [br_true, if_pos (.inl rfl)]
theorem den_ck : Den Tryd.prog 28 Fck := evF_den C2_ok fun ds rs h => by
  unfold Fck at h
  split at h
  · rename_i b
    simp only [Option.some.injEq, Prod.mk.injEq, true_and] at h
    subst h
    refine (tcheck inCk b).trans ?_
    by_cases h1 : (b.n : Int) < 1
    · rw [decide_eq_true h1, br_true]; unfold ckE; rw [if_pos (by omega)]
    · rw [decide_eq_false h1, br_false]
      by_cases h2 : (b.n : Int) > 10
      · rw [decide_eq_true h2, br_true]; unfold ckE; rw [if_pos (by omega)]
      · rw [decide_eq_false h2, br_false, show inCk b.n b.n = true from decide_eq_true ⟨rfl, by omega⟩, br_true, ck_tail b (by omega)]
  · cases h
theorem den_start : Den Tryd.prog 16 Fck := evF_den C2_ok fun ds rs h => by
  unfold Fck at h
  split at h
  · rename_i b
    simp only [Option.some.injEq, Prod.mk.injEq, true_and] at h
    subst h
    refine (tstart inCk b).trans ?_
    by_cases h1 : (b.n : Int) ≥ 1
    · rw [decide_eq_true h1, br_true]
      by_cases h2 : (b.n : Int) ≤ 10
      · rw [decide_eq_true h2, show (!true) = false from rfl, br_false, show inCk b.n b.n = true from decide_eq_true ⟨rfl, by omega⟩, br_true, ck_tail b (by omega)]
      · rw [decide_eq_false h2, show (!false) = true from rfl, br_true]; unfold ckE; rw [if_pos (by omega)]
    · rw [decide_eq_false h1, br_false]; unfold ckE; rw [if_pos (by omega)]
  · cases h
end Go.Proofs.YtpblmkephkhlkaaDoor
/- Package ledger: the best grouping: its loops. No conditions. -/
namespace Go.Proofs.YtpblmkephkhlkaaDoor
open Go.Ev
set_option linter.all false
/-- The parties whose balances are not 0, and no groups yet. -/
def rsU (b : Row) (j : Nat) (x : Nat × Row) : Nat × Row := (if b.I j 0 ≠ 0 then x.1 ||| 2 ^ j else x.1, x.2.setI j 0 (-1))
def rsR (b : Row) : Nat → Nat → Nat × Row → Nat × Row
  | 0, _, x => x
  | m + 1, j, x => rsR b m (j + 1) (rsU b j x)
/-- Whether one group comes before another one. -/
def befN (g h : Nat) : Bool := !Nat.beq (((g ^^^ h) &&& (18446744073709551616 - (g ^^^ h))) &&& g) 0
def bstU (m : Row) (rest low g best : Nat) : Nat :=
  if g &&& low = 0 ∨ m.I g 0 < 1 ∨ m.I (rest ^^^ g) 0 ≠ wi (m.I rest 0 - 1) then best else if best = 0 ∨ befN g best = true then g else best
def bst (m : Row) (rest low : Nat) : Nat → Nat → Nat → Nat
  | 0, _, best => best
  | n + 1, g, best => if g = 0 then best else bst m rest low n ((g - 1) &&& rest) (bstU m rest low g best)
/-- A group is written down. -/
def asR (best : Nat) (group : Int) : Nat → Nat → Row → Row
  | 0, _, o => o
  | m + 1, j, o => asR best group m (j + 1) (if best.testBit j = true then o.setI j 0 group else o)
def lowN (s : Nat) : Nat := s &&& (18446744073709551616 - s)
def grS (m : Row) (n : Nat) : Nat → Nat → Nat → Row → Option Row
  | f, rest, group, o => if rest = 0 then some o else match f with
    | 0 => none
    | f + 1 => grS m n f (rest ^^^ bst m rest (lowN rest) (rest + 1) rest 0) (group + 1) (asR (bst m rest (lowN rest) (rest + 1) rest 0) group n 0 o)
def S7 (nb n n' : Nat) (m rest j : Int) (b o : Row) : St := ⟨[sl 0 nb] ++ us 4 ++ [sl 1 n, i64 rest] ++ us 16 ++ [sl 0 n', i64 m, i64 j] ++ us 83, [[]], [Rb false b, Rb true o]⟩
def S7x (nb n : Nat) (rest : Int) (b o : Row) : St := ⟨[sl 0 nb] ++ us 4 ++ [sl 1 n, i64 rest] ++ us 102, [[]], [Rb false b, Rb true o]⟩
def G7 (cd : Nat → Nat → Nat → Int → Bool) : List It → (X → St → Option (List D)) → Option (List D)
  | [.n nb, .n n, .n n', .i m, .r b, .r o], k => br (cd nb n n' m) (k (.exit 0) (S7x nb n (rsR b n 0 (0, o)).1 b (rsR b n 0 (0, o)).2)) none
  | _, _ => none
def l7 (cd : Nat → Nat → Nat → Int → Bool) : LoopC where
  f := 9
  id := 7
  lv := [0, 5, 6, 23, 24, 25]
  lx := [0, 2, 3, 5, 6]
  p := { τ := [.v (.sl 0)] ++ pu 4 ++ [.v (.sl 1), .v (.c (i64 0))] ++ pu 16 ++ [.v (.sl 0), .v (.int .i64), .v (.c (i64 0))] ++ pu 83, saved := [[]], mem := [.row ks1 false, .row ks1 true] }
  G := G7 cd
def S20 (nb no nm : Nat) (rest group low best g : Int) (b o m : Row) : St := ⟨[sl 0 nb] ++ us 4 ++ [sl 1 no, i64 rest] ++ us 2 ++ [sl 2 nm, i64 group, i64 low, i64 best, i64 g] ++ us 95, [[]], [Rb false b, Rb true o, Rb true m]⟩
def S20x (nb no nm : Nat) (rest group best : Int) (b o m : Row) : St := ⟨[sl 0 nb] ++ us 4 ++ [sl 1 no, i64 rest] ++ us 2 ++ [sl 2 nm, i64 group] ++ us 1 ++ [i64 best] ++ us 96, [[]], [Rb false b, Rb true o, Rb true m]⟩
def G20 (cd : Nat → Int → Int → Int → Int → Bool) : List It → (X → St → Option (List D)) → Option (List D)
  | [.n nb, .n no, .i rest, .n nm, .i group, .i low, .i best, .i g, .r b, .r o, .r m], k => br (cd nm rest low best g) (k (.exit 4) (S20x nb no nm rest group (bst m rest.toNat low.toNat (g.toNat + 1) g.toNat 0 : Nat) b o m)) none
  | _, _ => none
def l20 (cd : Nat → Int → Int → Int → Int → Bool) : LoopC where
  f := 9
  id := 20
  lv := [0, 5, 6, 9, 10, 11, 12, 13]
  lx := [0, 2, 3, 5, 6, 9, 10, 12]
  p := { τ := [.v (.sl 0)] ++ pu 4 ++ [.v (.sl 1), .v (.int .i64)] ++ pu 2 ++ [.v (.sl 2), .v (.int .i64), .v (.int .i64), .v (.int .i64), .v (.int .i64)] ++ pu 95, saved := [[]], mem := [.row ks1 false, .row ks1 true, .row ks1 true] }
  G := G20 cd
def S26 (nb no nm : Nat) (rest group best c j : Int) (b o m : Row) : St := ⟨[sl 0 nb] ++ us 4 ++ [sl 1 no, i64 rest] ++ us 2 ++ [sl 2 nm, i64 group] ++ us 1 ++ [i64 best] ++ us 78 ++ [i64 c, i64 j] ++ us 16, [[]], [Rb false b, Rb true o, Rb true m]⟩
def G26 (cd : Nat → Int → Int → Bool) : List It → (X → St → Option (List D)) → Option (List D)
  | [.n nb, .n no, .i rest, .n nm, .i group, .i best, .i c, .r b, .r o, .r m], k => br (cd no best c) (k (.exit 6) (S20x nb no nm rest group best b (asR best.toNat group no 0 o) m)) none
  | _, _ => none
def l26 (cd : Nat → Int → Int → Bool) : LoopC where
  f := 9
  id := 26
  lv := [0, 5, 6, 9, 10, 12, 91, 92]
  lx := [0, 2, 3, 5, 6, 9, 10, 12]
  p := { τ := [.v (.sl 0)] ++ pu 4 ++ [.v (.sl 1), .v (.int .i64)] ++ pu 2 ++ [.v (.sl 2), .v (.int .i64)] ++ pu 1 ++ [.v (.int .i64)] ++ pu 78 ++ [.v (.int .i64), .v (.c (i64 0))] ++ pu 16, saved := [[]], mem := [.row ks1 false, .row ks1 true, .row ks1 true] }
  G := G26 cd
def S15 (nb no nm : Nat) (rest group : Int) (b o m : Row) : St := ⟨[sl 0 nb] ++ us 4 ++ [sl 1 no, i64 rest] ++ us 2 ++ [sl 2 nm, i64 group] ++ us 98, [[]], [Rb false b, Rb true o, Rb true m]⟩
def S15x (no : Nat) (o : Row) : St := ⟨us 5 ++ [sl 0 no] ++ us 103, [[]], [Rb true o]⟩
def G15 (gs : Nat → Nat → Nat → Int → Row → Row → Option Row) : List It → (X → St → Option (List D)) → Option (List D)
  | [.n nb, .n no, .i rest, .n nm, .r _, .r o, .r m], k => match gs nb no nm rest o m with | some o' => k (.exit 2) (S15x no o') | none => none
  | _, _ => none
def l15 (gs : Nat → Nat → Nat → Int → Row → Row → Option Row) : LoopC where
  f := 9
  id := 15
  lv := [0, 5, 6, 9, 10]
  lx := [2, 3, 5]
  p := { τ := [.v (.sl 0)] ++ pu 4 ++ [.v (.sl 1), .v (.int .i64)] ++ pu 2 ++ [.v (.sl 2), .v (.c (i64 0))] ++ pu 98, saved := [[]], mem := [.row ks1 false, .row ks1 true, .row ks1 true] }
  G := G15 gs
noncomputable def C3g (c7 : Nat → Nat → Nat → Int → Bool) (c20 : Nat → Int → Int → Int → Int → Bool) (c26 : Nat → Int → Int → Bool) (gs : Nat → Nat → Nat → Int → Row → Row → Option Row) : Cx :=
  mkCx Tryd.prog fns [(28, Fck), (29, Fmost)] [l7 c7, l20 c20, l26 c26, l15 gs]
section
variable (c7 : Nat → Nat → Nat → Int → Bool) (c20 : Nat → Int → Int → Int → Int → Bool) (c26 : Nat → Int → Int → Bool) (gs : Nat → Nat → Nat → Int → Row → Row → Option Row)
theorem round7 (R : St → Option (List D)) (K : X → St → Option (List D)) (p : Nat) (nb n n' : Nat) (m rest j : Int) (b o : Row) : evCode (C3g c7 c20 c26 gs) 9 true (inl (C3g c7 c20 c26 gs) (p + 4)) (lbody (C3g c7 c20 c26 gs).P 9 7) (S7 nb n n' m rest j b o) (rnd [0, 5, 6, 23, 24, 25] (some [0, 2, 3, 5, 6]) R K) =
    br (decide (j < m)) (br (decide (0 ≤ j) && decide (j < (n' : Int))) (br (decide (0 ≤ j) && decide (j < (n : Int))) (br (b.I (0 + j.toNat) 0 != 0) (br (decide (j < 0)) none (R (S7 nb n n' m (bOr rest (wi (1 * 2 ^ min j.toNat 64))) (wi (j + 1)) b (o.setI (0 + j.toNat) 0 (-1))))) (R (S7 nb n n' m rest (wi (j + 1)) b (o.setI (0 + j.toNat) 0 (-1))))) none) none)
      (K (.exit 0) (S7x nb n rest b o)) := by kernel_rfl
def bef (g h : Int) : Bool := bAnd (bAnd (bXor g h) (wi (0 - bXor g h))) g != 0
theorem round20 (R : St → Option (List D)) (K : X → St → Option (List D)) (p : Nat) (nb no nm : Nat) (rest group low best g : Int) (b o m : Row) : evCode (C3g c7 c20 c26 gs) 9 true (inl (C3g c7 c20 c26 gs) (p + 4)) (lbody (C3g c7 c20 c26 gs).P 9 20) (S20 nb no nm rest group low best g b o m) (rnd [0, 5, 6, 9, 10, 11, 12, 13] (some [0, 2, 3, 5, 6, 9, 10, 12]) R K) =
    br (decide (g > 0)) (br (bAnd g low == 0) (R (S20 nb no nm rest group low best (bAnd (wi (g - 1)) rest) b o m)) (br (decide (0 ≤ g) && decide (g < (nm : Int))) (br (decide (m.I (0 + g.toNat) 0 < 1)) (R (S20 nb no nm rest group low best (bAnd (wi (g - 1)) rest) b o m))
      (br (decide (0 ≤ bXor rest g) && decide (bXor rest g < (nm : Int))) (br (decide (0 ≤ rest) && decide (rest < (nm : Int))) (br (m.I (0 + (bXor rest g).toNat) 0 != wi (m.I (0 + rest.toNat) 0 - 1)) (R (S20 nb no nm rest group low best (bAnd (wi (g - 1)) rest) b o m))
        (br (best == 0) (R (S20 nb no nm rest group low g (bAnd (wi (g - 1)) rest) b o m)) (br (bef g best) (R (S20 nb no nm rest group low g (bAnd (wi (g - 1)) rest) b o m)) (R (S20 nb no nm rest group low best (bAnd (wi (g - 1)) rest) b o m))))) none) none)) none))
      (K (.exit 4) (S20x nb no nm rest group best b o m)) := by kernel_rfl
theorem round26 (R : St → Option (List D)) (K : X → St → Option (List D)) (p : Nat) (nb no nm : Nat) (rest group best c j : Int) (b o m : Row) : evCode (C3g c7 c20 c26 gs) 9 true (inl (C3g c7 c20 c26 gs) (p + 4)) (lbody (C3g c7 c20 c26 gs).P 9 26) (S26 nb no nm rest group best c j b o m) (rnd [0, 5, 6, 9, 10, 12, 91, 92] (some [0, 2, 3, 5, 6, 9, 10, 12]) R K) =
    br (decide (j < c)) (br (decide (j < 0)) none (br (bAnd (bShr best j) 1 == 1) (br (decide (0 ≤ j) && decide (j < (no : Int))) (R (S26 nb no nm rest group best c (wi (j + 1)) b (o.setI (0 + j.toNat) 0 group) m)) none) (R (S26 nb no nm rest group best c (wi (j + 1)) b o m))))
      (K (.exit 6) (S20x nb no nm rest group best b o m)) := by kernel_rfl
set_option maxRecDepth 100000 in
theorem round15 (R : St → Option (List D)) (K : X → St → Option (List D)) (p : Nat) (nb no nm : Nat) (rest group : Int) (b o m : Row) : evCode (C3g c7 c20 c26 gs) 9 true (inl (C3g c7 c20 c26 gs) (p + 4)) (lbody (C3g c7 c20 c26 gs).P 9 15) (S15 nb no nm rest group b o m) (rnd [0, 5, 6, 9, 10] (some [2, 3, 5]) R K) =
    br (rest != 0) (br (c20 nm rest (bAnd rest (wi (0 - rest))) 0 rest)
      (br (c26 no (bst m rest.toNat (bAnd rest (wi (0 - rest))).toNat (rest.toNat + 1) rest.toNat 0 : Nat) nb)
        (R (S15 nb no nm (bXor rest (bst m rest.toNat (bAnd rest (wi (0 - rest))).toNat (rest.toNat + 1) rest.toNat 0 : Nat)) (wi (group + 1)) b (asR (bst m rest.toNat (bAnd rest (wi (0 - rest))).toNat (rest.toNat + 1) rest.toNat 0) group no 0 o) m)) none) none)
      (K (.exit 2) (S15x no o)) := by kernel_rfl
end
end Go.Proofs.YtpblmkephkhlkaaDoor
/- Package ledger: the best grouping: contract. No conditions. -/
namespace Go.Proofs.YtpblmkephkhlkaaDoor
open Go.Ev
set_option linter.all false
theorem sub_xor {r g : Nat} (h : g &&& r = g) : (r ^^^ g) &&& r = r ^^^ g := by
  apply Nat.eq_of_testBit_eq
  intro i
  have hi := congrArg (fun x => x.testBit i) h
  simp only [Nat.testBit_and, Nat.testBit_xor] at hi ⊢
  cases h1 : g.testBit i <;> cases h2 : r.testBit i <;> simp_all
theorem xor_le {r g : Nat} (h : g &&& r = g) : r ^^^ g ≤ r := by rw [← sub_xor h]; exact Nat.and_le_right
theorem sub_le {r g : Nat} (h : g &&& r = g) : g ≤ r := by rw [← h]; exact Nat.and_le_right
theorem bNegAnd (x : Nat) (hx : x < 9223372036854775808) : bAnd (x : Int) (wi (0 - (x : Int))) = ((x &&& (18446744073709551616 - x) : Nat) : Int) := by
  rw [wiN (by omega) (by omega), Int.zero_sub]
  by_cases h0 : x = 0
  · subst h0; rfl
  · have h1 : (BitVec.ofInt 64 (-(x : Int))).toNat = 18446744073709551616 - x := by
      rw [BitVec.toNat_ofInt]
      omega
    unfold bAnd
    have h : x &&& (18446744073709551616 - x) ≤ x := Nat.and_le_left
    rw [BitVec.toNat_and, ofI x (by omega), h1]
    exact wrap64 (by omega) (by omega)
theorem befN_eq (g h : Nat) (hg : g < 4611686018427387904) (hh : h < 4611686018427387904) : bef (g : Int) (h : Int) = befN g h := by
  unfold bef befN
  have hx : g ^^^ h < 2 ^ 62 := Nat.xor_lt_two_pow (by omega) (by omega)
  have hl : (g ^^^ h) &&& (18446744073709551616 - (g ^^^ h)) ≤ g ^^^ h := Nat.and_le_left
  rw [bXorN g h (by omega) (by omega), bNegAnd _ (by omega), bAndN _ g (by omega) (by omega)]
  generalize (g ^^^ h) &&& (18446744073709551616 - (g ^^^ h)) &&& g = x
  by_cases h0 : x = 0
  · subst h0; rfl
  · have hq : Nat.beq x 0 = false := by
      cases hx : Nat.beq x 0
      · rfl
      · exact absurd (Nat.eq_of_beq_eq_true hx) h0
    rw [hq]
    exact bne_iff_ne.mpr (by omega)
def in7 (_nb n n' : Nat) (m : Int) : Bool := decide (n = n' ∧ m = n ∧ n ≤ 60)
def in20 (nm : Nat) (rest low best g : Int) : Bool := decide (0 ≤ rest ∧ rest < nm ∧ nm ≤ 4611686018427387904 ∧ 0 ≤ low ∧ low < 4611686018427387904 ∧ best = 0 ∧ g = rest)
def in26 (no : Nat) (best c : Int) : Bool := decide (0 ≤ best ∧ best < 4611686018427387904 ∧ c = no ∧ no ≤ 60)
def gs15 (nb no nm : Nat) (rest : Int) (o m : Row) : Option Row := if 0 ≤ rest ∧ rest < nm ∧ nm ≤ 4611686018427387904 ∧ nb = no ∧ no ≤ 60 then grS m no 64 rest.toNat 0 o else none
noncomputable def C3 : Cx := C3g in7 in20 in26 gs15
theorem go7 {f : St → (X → St → Option (List D)) → Option (List D)} {lv : List Tmp} {lx : Option (List Tmp)} {nb n : Nat} {b : Row} (hn : n ≤ 60)
    (hr : ∀ (rest j : Int) (o : Row) R K, f (S7 nb n n n rest j b o) (rnd lv lx R K) = br (decide (j < (n : Int))) (br (decide (0 ≤ j) && decide (j < (n : Int))) (br (decide (0 ≤ j) && decide (j < (n : Int))) (br (b.I (0 + j.toNat) 0 != 0) (br (decide (j < 0)) none (R (S7 nb n n n (bOr rest (wi (1 * 2 ^ min j.toNat 64))) (wi (j + 1)) b (o.setI (0 + j.toNat) 0 (-1))))) (R (S7 nb n n n rest (wi (j + 1)) b (o.setI (0 + j.toNat) 0 (-1))))) none) none)
      (K (.exit 0) (S7x nb n rest b o))) (K : X → St → Option (List D)) :
    ∀ (m fu j rest : Nat) (o : Row), j + m = n → m < fu → rest < 2 ^ j → rounds lv lx f fu (S7 nb n n n rest j b o) K = K (.exit 0) (S7x nb n (rsR b m j (rest, o)).1 b (rsR b m j (rest, o)).2)
  | 0, fu + 1, j, rest, o, h0, h1, h2 => by
    rw [rnds1, hr, decide_eq_false (show ¬ (j : Int) < (n : Int) by omega), br_false]
    rfl
  | m + 1, fu + 1, j, rest, o, h0, h1, h2 => by
    have hp : 2 ^ j ≤ 2 ^ 60 := Nat.pow_le_pow_right (by decide) (by omega)
    have hp2 : 2 ^ (j + 1) = 2 * 2 ^ j := by rw [Nat.pow_succ, Nat.mul_comm]
    have hor : rest ||| 2 ^ j < 2 ^ (j + 1) := Nat.or_lt_two_pow (by omega) (by omega)
    have hj : (decide (0 ≤ (j : Int)) && decide ((j : Int) < (n : Int))) = true := by simp only [Bool.and_eq_true, decide_eq_true_eq]; omega
    have h2j : wi (1 * 2 ^ min j 64) = ((2 ^ j : Nat) : Int) := by
      rw [Nat.min_eq_left (by omega), Int.one_mul, show (2 : Int) ^ j = ((2 ^ j : Nat) : Int) by rw [Int.natCast_pow]; rfl]
      generalize 2 ^ j = x at hp ⊢
      exact wiN (by omega) (by omega)
    have hbo : bOr (rest : Int) ((2 ^ j : Nat) : Int) = ((rest ||| 2 ^ j : Nat) : Int) := bOrN _ _ (by omega) (by omega)
    rw [rnds1, hr, hj, decide_eq_true (show (j : Int) < (n : Int) by omega), br_true, br_true, br_true, Int.toNat_natCast, Nat.zero_add, wiN (n := (j : Int) + 1) (by omega) (by omega), show (j : Int) + 1 = ((j + 1 : Nat) : Int) by omega, h2j, hbo, decide_eq_false (show ¬ (j : Int) < 0 by omega), br_false]
    unfold rsR rsU
    by_cases hb : b.I j 0 = 0
    · rw [show (b.I j 0 != 0) = false by simpa using hb, br_false, if_neg (fun h => h hb)]
      exact go7 hn hr K m fu (j + 1) rest _ (by omega) (by omega) (by omega)
    · rw [show (b.I j 0 != 0) = true by simpa using hb, br_true, if_pos hb]
      exact go7 hn hr K m fu (j + 1) (rest ||| 2 ^ j) _ (by omega) (by omega) hor
theorem go20 {f : St → (X → St → Option (List D)) → Option (List D)} {lv : List Tmp} {lx : Option (List Tmp)} {nb no nm rest low : Nat} {group : Int} {b o m : Row} (hrest : rest < nm) (hnm : nm ≤ 4611686018427387904) (hlow : low < 4611686018427387904)
    (hr : ∀ (best g : Int) R K, f (S20 nb no nm rest group low best g b o m) (rnd lv lx R K) =
      br (decide (g > 0)) (br (bAnd g low == 0) (R (S20 nb no nm rest group low best (bAnd (wi (g - 1)) rest) b o m)) (br (decide (0 ≤ g) && decide (g < (nm : Int))) (br (decide (m.I (0 + g.toNat) 0 < 1)) (R (S20 nb no nm rest group low best (bAnd (wi (g - 1)) rest) b o m))
        (br (decide (0 ≤ bXor rest g) && decide (bXor rest g < (nm : Int))) (br (decide (0 ≤ (rest : Int)) && decide ((rest : Int) < (nm : Int))) (br (m.I (0 + (bXor rest g).toNat) 0 != wi (m.I (0 + (rest : Int).toNat) 0 - 1)) (R (S20 nb no nm rest group low best (bAnd (wi (g - 1)) rest) b o m))
          (br (best == 0) (R (S20 nb no nm rest group low g (bAnd (wi (g - 1)) rest) b o m)) (br (bef g best) (R (S20 nb no nm rest group low g (bAnd (wi (g - 1)) rest) b o m)) (R (S20 nb no nm rest group low best (bAnd (wi (g - 1)) rest) b o m))))) none) none)) none))
        (K (.exit 4) (S20x nb no nm rest group best b o m))) (K : X → St → Option (List D)) :
    ∀ (n fu g best : Nat), g &&& rest = g → best ≤ rest → g < n → n ≤ fu → rounds lv lx f fu (S20 nb no nm rest group low best g b o m) K = K (.exit 4) (S20x nb no nm rest group (bst m rest low n g best : Nat) b o m)
  | n + 1, fu + 1, g, best, h0, hbest, h1, h2 => by
    have hgs := sub_le h0
    have hxl := xor_le h0
    rw [rnds1, hr]
    unfold bst
    by_cases hg : g = 0
    · rw [if_pos hg, decide_eq_false (show ¬ (g : Int) > 0 by omega), br_false]
    · have hnext : bAnd (wi ((g : Int) - 1)) (rest : Int) = (((g - 1) &&& rest : Nat) : Int) := by
        rw [wiN (by omega) (by omega), show (g : Int) - 1 = ((g - 1 : Nat) : Int) by omega]
        exact bAndN _ _ (by omega) (by omega)
      have hle : (g - 1) &&& rest ≤ g - 1 := Nat.and_le_left
      have hsub : ((g - 1) &&& rest) &&& rest = (g - 1) &&& rest := by rw [Nat.and_assoc, Nat.and_self]
      have ih := fun best' hb' => go20 hrest hnm hlow hr K n fu ((g - 1) &&& rest) best' hsub hb' (by omega) (by omega)
      have hgl : g &&& low ≤ g := Nat.and_le_left
      have hrng : (decide (0 ≤ (rest : Int)) && decide ((rest : Int) < (nm : Int))) = true := by simp only [Bool.and_eq_true, decide_eq_true_eq]; omega
      rw [if_neg hg, decide_eq_true (show (g : Int) > 0 by omega), br_true, hnext, bAndN g low (by omega) (by omega), bXorN rest g (by omega) (by omega), Int.toNat_natCast, Int.toNat_natCast, Int.toNat_natCast, Nat.zero_add, Nat.zero_add, Nat.zero_add, hrng,
        show (decide (0 ≤ (g : Int)) && decide ((g : Int) < (nm : Int))) = true by simp only [Bool.and_eq_true, decide_eq_true_eq]; omega,
        show (decide (0 ≤ ((rest ^^^ g : Nat) : Int)) && decide (((rest ^^^ g : Nat) : Int) < (nm : Int))) = true by simp only [Bool.and_eq_true, decide_eq_true_eq]; omega, br_true, br_true, br_true, befN_eq g best (by omega) (by omega)]
      unfold bstU
      by_cases c1 : g &&& low = 0
      · rw [c1, show (((0 : Nat) : Int) == 0) = true from rfl, br_true, if_pos (.inl rfl)]
        exact ih best hbest
      · rw [show (((g &&& low : Nat) : Int) == 0) = false from beq_eq_false_iff_ne.mpr (by omega), br_false]
        by_cases c2 : m.I g 0 < 1
        · rw [decide_eq_true c2, br_true, if_pos (.inr (.inl c2))]
          exact ih best hbest
        · rw [decide_eq_false c2, br_false]
          by_cases c3 : m.I (rest ^^^ g) 0 = wi (m.I rest 0 - 1)
          · rw [show (m.I (rest ^^^ g) 0 != wi (m.I rest 0 - 1)) = false by simpa using c3, br_false, if_neg (by rintro (h | h | h); exact c1 h; exact c2 h; exact h c3)]
            by_cases c4 : best = 0
            · rw [show ((best : Int) == 0) = true from beq_iff_eq.mpr (by omega), br_true, if_pos (.inl c4)]
              exact ih g hgs
            · rw [show ((best : Int) == 0) = false from beq_eq_false_iff_ne.mpr (by omega), br_false]
              cases c5 : befN g best
              · rw [br_false, if_neg (by rintro (h | h); exact c4 h; exact absurd h (by decide))]
                exact ih best hbest
              · rw [br_true, if_pos (.inr rfl)]
                exact ih g hgs
          · rw [show (m.I (rest ^^^ g) 0 != wi (m.I rest 0 - 1)) = true by simpa using c3, br_true, if_pos (.inr (.inr c3))]
            exact ih best hbest
theorem go26 {f : St → (X → St → Option (List D)) → Option (List D)} {lv : List Tmp} {lx : Option (List Tmp)} {nb no nm best : Nat} {rest group : Int} {b m : Row} (hb : best < 4611686018427387904) (hn : no ≤ 60)
    (hr : ∀ (j : Int) (o : Row) R K, f (S26 nb no nm rest group best no j b o m) (rnd lv lx R K) = br (decide (j < (no : Int))) (br (decide (j < 0)) none (br (bAnd (bShr best j) 1 == 1) (br (decide (0 ≤ j) && decide (j < (no : Int))) (R (S26 nb no nm rest group best no (wi (j + 1)) b (o.setI (0 + j.toNat) 0 group) m)) none) (R (S26 nb no nm rest group best no (wi (j + 1)) b o m))))
      (K (.exit 6) (S20x nb no nm rest group best b o m))) (K : X → St → Option (List D)) :
    ∀ (k fu j : Nat) (o : Row), j + k = no → k < fu → rounds lv lx f fu (S26 nb no nm rest group best no j b o m) K = K (.exit 6) (S20x nb no nm rest group best b (asR best group k j o) m)
  | 0, fu + 1, j, o, h0, h1 => by
    rw [rnds1, hr, decide_eq_false (show ¬ (j : Int) < (no : Int) by omega), br_false]
    rfl
  | k + 1, fu + 1, j, o, h0, h1 => by
    rw [rnds1, hr, show (decide (0 ≤ (j : Int)) && decide ((j : Int) < (no : Int))) = true by simp only [Bool.and_eq_true, decide_eq_true_eq]; omega, decide_eq_true (show (j : Int) < (no : Int) by omega), br_true, decide_eq_false (show ¬ (j : Int) < 0 by omega), br_false, bit_iff best j (by omega) (by omega),
      br_true, Int.toNat_natCast, Nat.zero_add, wiN (n := (j : Int) + 1) (by omega) (by omega), show (j : Int) + 1 = ((j + 1 : Nat) : Int) by omega]
    unfold asR
    cases hbit : best.testBit j
    · rw [br_false, if_neg (by decide)]
      exact go26 hb hn hr K k fu (j + 1) o (by omega) (by omega)
    · rw [br_true, if_pos rfl]
      exact go26 hb hn hr K k fu (j + 1) _ (by omega) (by omega)
theorem bst_sub {m : Row} {rest low : Nat} : ∀ (n g best : Nat), g &&& rest = g → best &&& rest = best → bst m rest low n g best &&& rest = bst m rest low n g best
  | 0, g, best, _, h => h
  | n + 1, g, best, hg, hb => by
    unfold bst
    split
    · exact hb
    · refine bst_sub n _ _ (by rw [Nat.and_assoc, Nat.and_self]) ?_
      unfold bstU
      split
      · exact hb
      · split
        · exact hg
        · exact hb
theorem low_le (s : Nat) : lowN s ≤ s := Nat.and_le_left
theorem go15 {f : St → (X → St → Option (List D)) → Option (List D)} {lv : List Tmp} {lx : Option (List Tmp)} {nb no nm : Nat} {b m : Row} (hnm : nm ≤ 4611686018427387904) (hno : nb = no ∧ no ≤ 60)
    (hr : ∀ (rest group : Int) (o : Row) R K, f (S15 nb no nm rest group b o m) (rnd lv lx R K) =
      br (rest != 0) (br (in20 nm rest (bAnd rest (wi (0 - rest))) 0 rest)
        (br (in26 no (bst m rest.toNat (bAnd rest (wi (0 - rest))).toNat (rest.toNat + 1) rest.toNat 0 : Nat) nb)
          (R (S15 nb no nm (bXor rest (bst m rest.toNat (bAnd rest (wi (0 - rest))).toNat (rest.toNat + 1) rest.toNat 0 : Nat)) (wi (group + 1)) b (asR (bst m rest.toNat (bAnd rest (wi (0 - rest))).toNat (rest.toNat + 1) rest.toNat 0) group no 0 o) m)) none) none)
        (K (.exit 2) (S15x no o))) (K : X → St → Option (List D)) :
    ∀ (k fu rest group : Nat) (o o' : Row), grS m no k rest group o = some o' → k < fu → rest < nm → group + k ≤ 1000 → rounds lv lx f fu (S15 nb no nm rest group b o m) K = K (.exit 2) (S15x no o') := by
  intro k
  induction k with
  | zero =>
    intro fu rest group o o' h hk _ _
    obtain ⟨fu, rfl⟩ : ∃ fu', fu = fu' + 1 := ⟨fu - 1, by omega⟩
    unfold grS at h
    split at h
    · rename_i h0
      cases h
      rw [rnds1, hr, h0]
      rfl
    · cases h
  | succ k ih =>
    intro fu rest group o o' h hk hrest hgr
    obtain ⟨fu, rfl⟩ : ∃ fu', fu = fu' + 1 := ⟨fu - 1, by omega⟩
    unfold grS at h
    by_cases h0 : rest = 0
    · rw [if_pos h0] at h
      cases h
      rw [rnds1, hr, h0]
      rfl
    · rw [if_neg h0] at h
      have hs := bst_sub (m := m) (low := lowN rest) (rest + 1) rest 0 (Nat.and_self rest) (Nat.zero_and rest)
      have hl := low_le rest
      have hle := sub_le hs
      have hxl := xor_le hs
      rw [rnds1, hr, show ((rest : Int) != 0) = true from bne_iff_ne.mpr (by omega), br_true, bNegAnd rest (by omega), show rest &&& (18446744073709551616 - rest) = lowN rest from rfl, Int.toNat_natCast, Int.toNat_natCast,
        show in20 nm rest (lowN rest : Nat) 0 rest = true from decide_eq_true ⟨by omega, by omega, hnm, by omega, by omega, rfl, rfl⟩, br_true]
      generalize bst m rest (lowN rest) (rest + 1) rest 0 = best at *
      rw [show in26 no (best : Nat) nb = true from decide_eq_true ⟨by omega, by omega, by omega, hno.2⟩, br_true, bXorN rest best (by omega) (by omega), wiN (n := (group : Int) + 1) (by omega) (by omega), show (group : Int) + 1 = ((group + 1 : Nat) : Int) by omega]
      exact ih fu (rest ^^^ best) (group + 1) _ o' h (by omega) (by omega) (by omega)
set_option maxRecDepth 100000 in
theorem loop7 : LoopOk C3 (l7 in7) := ⟨by kernel_rfl, fun q its k rr h => by
  show rounds [0, 5, 6, 23, 24, 25] (some [0, 2, 3, 5, 6]) (evCode C3 9 true (inl C3 (q + 4)) (lbody C3.P 9 7)) 18446744073709551616 (Go.Ev.bst (l7 in7).p its) k = some rr
  change G7 in7 its k = some rr at h
  unfold G7 at h
  split at h
  · rename_i nb n n' m b o
    rcases br_some h with ⟨h1, h2⟩ | ⟨_, h2⟩
    · obtain ⟨k1, k2, k3⟩ := of_decide_eq_true h1
      subst k1
      subst k2
      rw [← h2]
      exact go7 (nb := nb) (b := b) k3 (fun rest j o R K => round7 in7 in20 in26 gs15 R K q nb n n n rest j b o) k n 18446744073709551616 0 0 o (by omega) (by omega) (by decide)
    · cases h2
  · cases h⟩
set_option maxRecDepth 100000 in
theorem loop20 : LoopOk C3 (l20 in20) := ⟨by kernel_rfl, fun q its k rr h => by
  show rounds [0, 5, 6, 9, 10, 11, 12, 13] (some [0, 2, 3, 5, 6, 9, 10, 12]) (evCode C3 9 true (inl C3 (q + 4)) (lbody C3.P 9 20)) 18446744073709551616 (Go.Ev.bst (l20 in20).p its) k = some rr
  change G20 in20 its k = some rr at h
  unfold G20 at h
  split at h
  · rename_i nb no rest nm group low best g b o m
    rcases br_some h with ⟨h1, h2⟩ | ⟨_, h2⟩
    · obtain ⟨k1, k2, k3, k4, k5, k6, k7⟩ := of_decide_eq_true h1
      obtain ⟨rest, rfl⟩ := Int.eq_ofNat_of_zero_le k1
      obtain ⟨low, rfl⟩ := Int.eq_ofNat_of_zero_le k4
      subst k6
      subst k7
      rw [← h2, Int.toNat_natCast, Int.toNat_natCast]
      exact go20 (nb := nb) (no := no) (group := group) (b := b) (o := o) (m := m) (by omega) k3 (by omega) (fun best g R K => round20 in7 in20 in26 gs15 R K q nb no nm rest group low best g b o m) k (rest + 1) 18446744073709551616 rest 0 (Nat.and_self rest) (by omega) (by omega) (by omega)
    · cases h2
  · cases h⟩
set_option maxRecDepth 100000 in
theorem loop26 : LoopOk C3 (l26 in26) := ⟨by kernel_rfl, fun q its k rr h => by
  show rounds [0, 5, 6, 9, 10, 12, 91, 92] (some [0, 2, 3, 5, 6, 9, 10, 12]) (evCode C3 9 true (inl C3 (q + 4)) (lbody C3.P 9 26)) 18446744073709551616 (Go.Ev.bst (l26 in26).p its) k = some rr
  change G26 in26 its k = some rr at h
  unfold G26 at h
  split at h
  · rename_i nb no rest nm group best c b o m
    rcases br_some h with ⟨h1, h2⟩ | ⟨_, h2⟩
    · obtain ⟨k1, k2, k3, k4⟩ := of_decide_eq_true h1
      obtain ⟨best, rfl⟩ := Int.eq_ofNat_of_zero_le k1
      subst k3
      rw [← h2, Int.toNat_natCast]
      exact go26 (nb := nb) (nm := nm) (rest := rest) (group := group) (b := b) (m := m) (by omega) k4 (fun j o R K => round26 in7 in20 in26 gs15 R K q nb no nm rest group best no j b o m) k no 18446744073709551616 0 o (by omega) (by omega)
    · cases h2
  · cases h⟩
set_option maxRecDepth 100000 in
theorem loop15 : LoopOk C3 (l15 gs15) := ⟨by kernel_rfl, fun q its k rr h => by
  show rounds [0, 5, 6, 9, 10] (some [2, 3, 5]) (evCode C3 9 true (inl C3 (q + 4)) (lbody C3.P 9 15)) 18446744073709551616 (Go.Ev.bst (l15 gs15).p its) k = some rr
  change G15 gs15 its k = some rr at h
  unfold G15 at h
  split at h
  · rename_i nb no rest nm b o m
    split at h
    · rename_i o' hgs
      unfold gs15 at hgs
      split at hgs
      · rename_i hc
        obtain ⟨k1, k2, k3, k4, k5⟩ := hc
        obtain ⟨rest, rfl⟩ := Int.eq_ofNat_of_zero_le k1
        rw [← h]
        exact go15 (b := b) (m := m) k3 ⟨k4, k5⟩ (fun rest group o R K => round15 in7 in20 in26 gs15 R K q nb no nm rest group b o m) k 64 18446744073709551616 rest 0 o o' (by rw [Int.toNat_natCast] at hgs; exact hgs) (by omega) (by omega) (by omega)
      · cases hgs
    · cases h
  · cases h⟩
theorem C3_ok : CxW C3 Wt := mkCx_okW enter mixed (fun p h => by
  simp only [List.mem_cons, List.not_mem_nil, or_false] at h
  rcases h with rfl | rfl
  · exact den_ck.at _
  · exact den_most) (fun l h => by
  simp only [List.mem_cons, List.not_mem_nil, or_false] at h
  rcases h with rfl | rfl | rfl | rfl
  · exact loop7
  · exact loop20
  · exact loop26
  · exact loop15)
theorem tgroups (c7 : Nat → Nat → Nat → Int → Bool) (c20 : Nat → Int → Int → Int → Int → Bool) (c26 : Nat → Int → Int → Bool) (gs : Nat → Nat → Nat → Int → Row → Row → Option Row) (b : Row) : evF (C3g c7 c20 c26 gs) 6 9 [.slice ks1 b] =
    br (ckE (winOf b 0 b.n) != 0) (some [.slice [.int .i64] Row.nil, .v (i64 (ckE (winOf b 0 b.n)))])
      (br (decide (0 ≤ (b.n : Int)) && decide ((b.n : Int) ≤ (b.n : Int)) && decide ((b.n : Int) ≤ 100000000000))
        (br (c7 b.n (b.n : Int).toNat b.n b.n)
          (br (decide ((winOf b 0 b.n).n ≤ 20))
            (match gs b.n (b.n : Int).toNat (mostR (winOf b 0 b.n)).n (rsR b (b.n : Int).toNat 0 (0, Row.zeros (b.n : Int).toNat)).1 (rsR b (b.n : Int).toNat 0 (0, Row.zeros (b.n : Int).toNat)).2 (mostR (winOf b 0 b.n)) with
              | some o' => some [.slice ks1 (winOf o' 0 (b.n : Int).toNat), .v (i64 0)]
              | none => none) none) none) none) := by kernel_rfl
end Go.Proofs.YtpblmkephkhlkaaDoor
/- Package ledger: Groups: contract. No conditions. -/
namespace Go.Proofs.YtpblmkephkhlkaaDoor
open Go.Ev
set_option linter.all false
theorem win_self {b : Row} (h : 0 < b.n) : winOf b 0 b.n = b := by
  cases b with
  | nil => cases h
  | mk n I B S R => rfl
theorem ckE_win (b : Row) : ckE (winOf b 0 b.n) = ckE b := by
  by_cases h : 0 < b.n
  · rw [win_self h]
  · have h0 : b.n = 0 := by omega
    have h1 : (winOf b 0 b.n).n = 0 := h0
    unfold ckE
    rw [if_pos (by omega), if_pos (by omega)]
theorem rsR_lt (b : Row) : ∀ (m j : Nat) (x : Nat × Row), x.1 < 2 ^ j → (rsR b m j x).1 < 2 ^ (j + m)
  | 0, j, x, h => h
  | m + 1, j, x, h => by
    unfold rsR
    rw [show j + (m + 1) = (j + 1) + m by omega]
    refine rsR_lt b m (j + 1) _ ?_
    have hp2 : 2 ^ (j + 1) = 2 * 2 ^ j := by rw [Nat.pow_succ, Nat.mul_comm]
    unfold rsU
    dsimp only
    split
    · exact Nat.or_lt_two_pow (by omega) (by omega)
    · omega
/-- The best grouping, where the search comes to an end. -/
def gpO (b : Row) : Option Row := grS (mostR b) b.n 64 (rsR b b.n 0 (0, Row.zeros b.n)).1 0 (rsR b b.n 0 (0, Row.zeros b.n)).2
def gpC (b : Row) : Bool := ckE b != 0 || (gpO b).isSome
def gpR (b : Row) : Row := if ckE b ≠ 0 then .nil else match gpO b with | some o => winOf o 0 b.n | none => .nil
def Fgroups : List D → Option (Bool × List D)
  | [.slice [.int .i64] b] => some (gpC b, [.slice ks1 (gpR b), .v (i64 (ckE b))])
  | _ => none
theorem den_groups : DenW Tryd.prog Wt 9 Fgroups := evF_denW C3_ok fun ds rs h => by
  unfold Fgroups at h
  split at h
  · rename_i b
    simp only [Option.some.injEq, Prod.mk.injEq] at h
    obtain ⟨hc, rfl⟩ := h
    refine (tgroups in7 in20 in26 gs15 b).trans ?_
    rw [ckE_win]
    unfold gpR
    by_cases hk : ckE b = 0
    · have hn : 1 ≤ b.n ∧ b.n ≤ 10 := by
        unfold ckE at hk
        split at hk
        · cases hk
        · omega
      have hp : 2 ^ b.n ≤ 2 ^ 10 := Nat.pow_le_pow_right (by decide) hn.2
      have hlt := rsR_lt b b.n 0 (0, Row.zeros b.n) (show 0 < 2 ^ 0 by decide)
      rw [Nat.zero_add] at hlt
      unfold gpC at hc
      rw [show (ckE b != 0) = false by simpa using hk, Bool.false_or] at hc
      rw [show (ckE b != 0) = false by simpa using hk, br_false, win_self (by omega), Int.toNat_natCast, show (decide (0 ≤ (b.n : Int)) && decide ((b.n : Int) ≤ (b.n : Int)) && decide ((b.n : Int) ≤ 100000000000)) = true by simp only [Bool.and_eq_true, decide_eq_true_eq]; omega, br_true,
        show in7 b.n b.n b.n b.n = true from decide_eq_true ⟨rfl, rfl, by omega⟩, br_true, decide_eq_true (show b.n ≤ 20 by omega), br_true, if_neg (fun h => h hk)]
      have hm : (mostR b).n = 2 ^ b.n := rfl
      have hg : gs15 b.n b.n (mostR b).n (rsR b b.n 0 (0, Row.zeros b.n)).1 (rsR b b.n 0 (0, Row.zeros b.n)).2 (mostR b) = gpO b := by
        unfold gs15 gpO
        rw [hm, if_pos ⟨by omega, by omega, by omega, rfl, by omega⟩, Int.toNat_natCast]
      rw [hg]
      cases ho : gpO b with
      | none => rw [ho] at hc; cases hc
      | some o => rw [hk]
    · rw [show (ckE b != 0) = true by simpa using hk, br_true, if_pos hk]; rfl
  · cases h
end Go.Proofs.YtpblmkephkhlkaaDoor
/- Package ledger and its reference: what Check returns. No conditions. -/
namespace Go.Proofs.YtpblmkephkhlkaaDoor.Lg
open Go.Ev

set_option linter.all false
def ks3 : List CK := [.int .i64, .int .i64, .int .i64]
def pay (n : Int) (r : Row) : List D := [.v (i64 n), .slice ks3 r]

/-- Where a payment is bad. -/
def isB (n p : Int) : Bool := decide (p ≥ 0) && decide (p < n)
def bad (n : Int) (r : Row) (j : Nat) : Bool := !isB n (r.I j 0) || !isB n (r.I j 1) || r.I j 0 == r.I j 1 || decide (r.I j 2 < 1) || decide (r.I j 2 > 1000000000)
def partiesB (n : Int) : Bool := decide (n ≥ 1) && decide (n ≤ 10)
/-- The error of a list of payments. -/
def chk (n : Int) (r : Row) : Int := bif partiesB n then (bif decide ((r.n : Int) > 200) then 4 else bif anyF (bad n r) r.n 0 then 8 else 0) else 2

/-! ### is, of the reference -/
def F19 : List D → Option (Bool × List D)
  | [.v (.int .i64 n), .v (.int .i64 p)] => some (true, [.v (.bool (isB n p))])
  | _ => none
noncomputable def C0 : Cx := mkCx Tryd.prog fns [] []
theorem C0_ok : CxOk C0 := mkCx_ok enter mixed (fun p h => by cases h) (fun l h => by cases h)
theorem t19 (n p : Int) : evF C0 6 35 [.v (i64 n), .v (i64 p)] = br (decide (p ≥ 0)) (some [.v (.bool (decide (p < n)))]) (some [.v (.bool false)]) := by kernel_rfl
theorem den19 : Den Tryd.prog 35 F19 := evF_den C0_ok fun ds rs h => by
  unfold F19 at h
  split at h
  · rename_i n p
    cases h
    refine (t19 n p).trans ?_
    unfold isB
    cases decide (p ≥ 0) <;> rfl
  · cases h

/-! ### ledger.Check -/
def S7 (n : Int) (len : Nat) (l : Int) (j : Int) (r : Row) : St := { τ := [i64 n] ++ us 15 ++ [.slice (some ⟨0, 0, some 0⟩) len 0, i64 l, i64 j] ++ us 29, saved := [[]], mem := [some (.row ks3 false r)] }
def S7r : St := { τ := us 4 ++ [i64 8] ++ us 43, saved := [[]], mem := [] }
def S7x : St := { τ := us 48, saved := [[]], mem := [] }
def G7 : List It → (X → St → Option (List D)) → Option (List D)
  | [.i n, .n len, .i l, .r r], k => br (decide (l = (len : Int)) && decide (len ≤ 1000)) (br (anyF (bad n r) len 0) (k .ret S7r) (k (.exit 0) S7x)) none
  | _, _ => none
def l7 : LoopC where
  f := 38
  id := 7
  lv := [0, 16, 17, 18]
  lx := [4]
  p := { τ := [.v (.int .i64)] ++ pu 15 ++ [.v (.sl 0), .v (.int .i64), .v (.c (i64 0))] ++ pu 29, saved := [[]], mem := [.row ks3 false] }
  G := G7
noncomputable def C7 : Cx := mkCx Tryd.prog fns [] [l7]

theorem round7 (d : Nat) (R : St → Option (List D)) (K : X → St → Option (List D)) (n : Int) (len : Nat) (l : Int) (j : Nat) (r : Row) :
    evCode C7 38 true (inl C7 (d + 4)) (lbody C7.P 38 7) (S7 n len l j r) (rnd [0, 16, 17, 18] (some [4]) R K) =
    br (decide ((j : Int) < l)) (br (decide (0 ≤ (j : Int)) && decide ((j : Int) < len))
      (br (decide (r.I (0 + j) 0 ≥ 0)) (br (!decide (r.I (0 + j) 0 < n)) (K .ret S7r)
        (br (decide (r.I (0 + j) 1 ≥ 0)) (br (!decide (r.I (0 + j) 1 < n)) (K .ret S7r)
          (br (r.I (0 + j) 0 == r.I (0 + j) 1) (K .ret S7r)
            (br (decide (r.I (0 + j) 2 ≥ 1)) (br (!decide (r.I (0 + j) 2 ≤ 1000000000)) (K .ret S7r) (R (S7 n len l (IntKind.i64.wrap (j + 1)) r))) (K .ret S7r)))) (K .ret S7r))) (K .ret S7r)) none) (K (.exit 0) S7x) := by kernel_rfl

theorem bad_tree {A : Type} (n : Int) (r : Row) (j : Nat) (x y : Option A) :
    (br (decide (r.I (0 + j) 0 ≥ 0)) (br (!decide (r.I (0 + j) 0 < n)) x
        (br (decide (r.I (0 + j) 1 ≥ 0)) (br (!decide (r.I (0 + j) 1 < n)) x
          (br (r.I (0 + j) 0 == r.I (0 + j) 1) x
            (br (decide (r.I (0 + j) 2 ≥ 1)) (br (!decide (r.I (0 + j) 2 ≤ 1000000000)) x y) x))) x)) x) = br (bad n r j) x y := by
  rw [Nat.zero_add]
  have e1 : decide (r.I j 2 < 1) = !decide (r.I j 2 ≥ 1) := by rw [Bool.eq_iff_iff]; simp only [Bool.not_eq_true', decide_eq_true_eq, decide_eq_false_iff_not]; omega
  have e2 : decide (r.I j 2 > 1000000000) = !decide (r.I j 2 ≤ 1000000000) := by rw [Bool.eq_iff_iff]; simp only [Bool.not_eq_true', decide_eq_true_eq, decide_eq_false_iff_not]; omega
  unfold bad isB
  rw [e1, e2]
  cases decide (r.I j 0 ≥ 0) <;> cases decide (r.I j 0 < n) <;> cases decide (r.I j 1 ≥ 0) <;> cases decide (r.I j 1 < n) <;> cases (r.I j 0 == r.I j 1) <;> cases decide (r.I j 2 ≥ 1) <;> cases decide (r.I j 2 ≤ 1000000000) <;> rfl

theorem loop7 : LoopOk C7 l7 := ⟨by kernel_rfl, fun d its k rr h => by
  show rounds [0, 16, 17, 18] (some [4]) (evCode C7 38 true (inl C7 (d + 4)) (lbody C7.P 38 7)) 18446744073709551616 (Go.Ev.bst l7.p its) k = some rr
  change G7 its k = some rr at h
  unfold G7 at h
  split at h
  · rename_i n len l r
    rcases br_some h with ⟨h1, h2⟩ | ⟨_, h2⟩
    · simp only [Bool.and_eq_true, decide_eq_true_eq] at h1
      obtain ⟨rfl, h1⟩ := h1
      rw [← h2]
      exact rounds_scan (S := fun j => S7 n len len j r) (len := len) (bad := bad n r) (Kb := fun K => K .ret S7r) (Ke := fun K => K (.exit 0) S7x)
        (fun j hj R K => by
          rw [round7, wrap64 (by omega) (by omega), show decide ((j : Int) < (len : Int)) = true by simpa using hj, show (decide (0 ≤ (j : Int))) = true by simp]
          simp only [Bool.and_true, br_true]
          exact bad_tree n r j _ _)
        (fun R K => by
          rw [round7, show decide ((len : Int) < (len : Int)) = false by simp]
          rfl) k len 0 (by omega) _ (by omega)
    · cases h2
  · cases h⟩

theorem C7_ok : CxOk C7 := mkCx_ok enter mixed (fun p h => by cases h) (fun l h => by
  simp only [List.mem_singleton] at h
  subst h
  exact loop7)

def F7 : List D → Option (Bool × List D)
  | [.v (.int .i64 n), .slice [.int .i64, .int .i64, .int .i64] r] => some (true, [.v (i64 (chk n r))])
  | _ => none

theorem t7 (n : Int) (r : Row) : evF C7 6 38 (pay n r) =
    br (decide (n < 1)) (some [.v (i64 2)]) (br (decide (n > 10)) (some [.v (i64 2)]) (br (decide ((r.n : Int) > 200)) (some [.v (i64 4)])
      (br (decide ((r.n : Int) = (r.n : Int)) && decide (r.n ≤ 1000)) (br (anyF (bad n r) r.n 0) (some [.v (i64 8)]) (some [.v (i64 0)])) none))) := by kernel_rfl

theorem chk_tree (n : Int) (r : Row) {A : Type} (g : Int → Option A) : (br (decide (n < 1)) (g 2) (br (decide (n > 10)) (g 2) (br (decide ((r.n : Int) > 200)) (g 4)
      (br (decide ((r.n : Int) = (r.n : Int)) && decide (r.n ≤ 1000)) (br (anyF (bad n r) r.n 0) (g 8) (g 0)) none)))) = g (chk n r) := by
  have e1 : decide (n < 1) = !decide (n ≥ 1) := by rw [Bool.eq_iff_iff]; simp only [Bool.not_eq_true', decide_eq_true_eq, decide_eq_false_iff_not]; omega
  have e2 : decide (n > 10) = !decide (n ≤ 10) := by rw [Bool.eq_iff_iff]; simp only [Bool.not_eq_true', decide_eq_true_eq, decide_eq_false_iff_not]; omega
  have e3 : decide ((r.n : Int) > 200) = false → (decide ((r.n : Int) = (r.n : Int)) && decide (r.n ≤ 1000)) = true := by intro h; simp at h ⊢; omega
  unfold chk partiesB
  rw [e1, e2]
  cases h : decide ((r.n : Int) > 200)
  · rw [e3 h]
    cases decide (n ≥ 1) <;> cases decide (n ≤ 10) <;> cases anyF (bad n r) r.n 0 <;> rfl
  · cases decide (n ≥ 1) <;> cases decide (n ≤ 10) <;> rfl

theorem den7 : Den Tryd.prog 38 F7 := evF_den C7_ok fun ds rs h => by
  unfold F7 at h
  split at h
  · rename_i n r
    cases h
    exact (t7 n r).trans (chk_tree n r fun e => some [D.v (i64 e)])
  · cases h
end Go.Proofs.YtpblmkephkhlkaaDoor.Lg
/- The reference's Check and Same. No conditions. -/
namespace Go.Proofs.YtpblmkephkhlkaaDoor.Lg
open Go.Ev
set_option linter.all false

/-! ### Check of the reference -/
def S8 (n : Int) (len : Nat) (j : Int) (r : Row) : St := { τ := [i64 n, .slice (some ⟨0, 0, some 0⟩) len 0] ++ us 3 ++ [i64 j] ++ us 59, saved := [[]], mem := [some (.row ks3 false r)] }
def S8r : St := { τ := us 4 ++ [i64 8] ++ us 60, saved := [[]], mem := [] }
def S8x : St := { τ := us 65, saved := [[]], mem := [] }
def G8 : List It → (X → St → Option (List D)) → Option (List D)
  | [.i n, .n len, .r r], k => br (decide (len ≤ 1000)) (br (anyF (bad n r) len 0) (k .ret S8r) (k (.exit 0) S8x)) none
  | _, _ => none
def l8 : LoopC where
  f := 17
  id := 6
  lv := [0, 1, 5]
  lx := [4]
  p := { τ := [.v (.int .i64), .v (.sl 0)] ++ pu 3 ++ [.v (.c (i64 0))] ++ pu 59, saved := [[]], mem := [.row ks3 false] }
  G := G8
noncomputable def C8 : Cx := mkCx Tryd.prog fns [(35, F19)] [l8]

theorem round8 (d : Nat) (R : St → Option (List D)) (K : X → St → Option (List D)) (n : Int) (len : Nat) (j : Nat) (r : Row) :
    evCode C8 17 true (inl C8 (d + 4)) (lbody C8.P 17 6) (S8 n len j r) (rnd [0, 1, 5] (some [4]) R K) =
    br (decide ((j : Int) < len)) (br (decide (0 ≤ (j : Int)) && decide ((j : Int) < len)) (br true (br (!isB n (r.I (0 + j) 0)) (K .ret S8r)
      (br (decide (0 ≤ (j : Int)) && decide ((j : Int) < len)) (br true (br (!isB n (r.I (0 + j) 1)) (K .ret S8r)
        (br (decide (0 ≤ (j : Int)) && decide ((j : Int) < len)) (br (decide (0 ≤ (j : Int)) && decide ((j : Int) < len)) (br (r.I (0 + j) 0 == r.I (0 + j) 1) (K .ret S8r)
          (br (decide (0 ≤ (j : Int)) && decide ((j : Int) < len)) (br (decide (r.I (0 + j) 2 < 1)) (K .ret S8r)
            (br (decide (0 ≤ (j : Int)) && decide ((j : Int) < len)) (br (decide (r.I (0 + j) 2 > 1000000000)) (K .ret S8r)
              (R (S8 n len (IntKind.i64.wrap (j + 1)) r))) none)) none)) none) none)) none) none)) none) none) (K (.exit 0) S8x) := by kernel_rfl

theorem bad_or {A : Type} (n : Int) (r : Row) (j : Nat) (x y : Option A) : br (bad n r j) x y = br (!isB n (r.I (0 + j) 0)) x (br (!isB n (r.I (0 + j) 1)) x (br (r.I (0 + j) 0 == r.I (0 + j) 1) x (br (decide (r.I (0 + j) 2 < 1)) x (br (decide (r.I (0 + j) 2 > 1000000000)) x y)))) := by
  rw [Nat.zero_add]
  unfold bad
  cases isB n (r.I j 0) <;> cases isB n (r.I j 1) <;> cases (r.I j 0 == r.I j 1) <;> cases decide (r.I j 2 < 1) <;> cases decide (r.I j 2 > 1000000000) <;> rfl

theorem loop8 : LoopOk C8 l8 := ⟨by kernel_rfl, fun d its k rr h => by
  show rounds [0, 1, 5] (some [4]) (evCode C8 17 true (inl C8 (d + 4)) (lbody C8.P 17 6)) 18446744073709551616 (Go.Ev.bst l8.p its) k = some rr
  change G8 its k = some rr at h
  unfold G8 at h
  split at h
  · rename_i n len r
    rcases br_some h with ⟨h1, h2⟩ | ⟨_, h2⟩
    · simp only [decide_eq_true_eq] at h1
      rw [← h2]
      exact rounds_scan (S := fun j => S8 n len j r) (len := len) (bad := bad n r) (Kb := fun K => K .ret S8r) (Ke := fun K => K (.exit 0) S8x)
        (fun j hj R K => by
          rw [round8, wrap64 (by omega) (by omega), show decide ((j : Int) < (len : Int)) = true by simpa using hj, show (decide (0 ≤ (j : Int))) = true by simp]
          simp only [Bool.and_true, br_true]
          exact (bad_or n r j _ _).symm)
        (fun R K => by
          rw [round8, show decide ((len : Int) < (len : Int)) = false by simp]
          rfl) k len 0 (by omega) _ (by omega)
    · cases h2
  · cases h⟩

theorem C8_ok : CxOk C8 := mkCx_ok enter mixed (fun p h => by
  simp only [List.mem_singleton] at h
  subst h
  exact den19) (fun l h => by
  simp only [List.mem_singleton] at h
  subst h
  exact loop8)

theorem t8 (n : Int) (r : Row) : evF C8 6 17 (pay n r) =
    br (decide (n ≥ 1)) (br (!decide (n ≤ 10)) (some [.v (i64 2)]) (br (decide ((r.n : Int) > 200)) (some [.v (i64 4)])
      (br (decide (r.n ≤ 1000)) (br (anyF (bad n r) r.n 0) (some [.v (i64 8)]) (some [.v (i64 0)])) none))) (some [.v (i64 2)]) := by kernel_rfl

theorem den8 : Den Tryd.prog 17 F7 := evF_den C8_ok fun ds rs h => by
  unfold F7 at h
  split at h
  · rename_i n r
    cases h
    refine (t8 n r).trans ?_
    have e3 : decide ((r.n : Int) > 200) = false → decide (r.n ≤ 1000) = true := by intro h; simp at h ⊢; omega
    unfold chk partiesB
    cases h : decide ((r.n : Int) > 200)
    · rw [e3 h]
      cases decide (n ≥ 1) <;> cases decide (n ≤ 10) <;> cases anyF (bad n r) r.n 0 <;> rfl
    · cases decide (n ≥ 1) <;> cases decide (n ≤ 10) <;> rfl
  · cases h

/-! ### Same -/
def neI (r s : Row) (j : Nat) : Bool := r.I j 0 != s.I j 0
def same (r s : Row) : Bool := bif (r.n : Int) != (s.n : Int) then false else bif anyF (neI r s) r.n 0 then false else true
def big : Nat := 9223372036854775807
def F9 : List D → Option (Bool × List D)
  | [.slice [.int .i64] r, .slice [.int .i64] s] => some (decide (r.n ≤ big), [.v (.bool (same r s))])
  | _ => none
def S9 (len len2 : Nat) (j : Int) (r s : Row) : St := { τ := [.slice (some ⟨0, 0, some 0⟩) len 0, .slice (some ⟨1, 0, some 0⟩) len2 0] ++ us 3 ++ [i64 j] ++ us 20, saved := [[]], mem := [some (.row [.int .i64] false r), some (.row [.int .i64] false s)] }
def S9r : St := { τ := us 4 ++ [.bool false] ++ us 21, saved := [[]], mem := [] }
def S9x : St := { τ := us 26, saved := [[]], mem := [] }
def G9 : List It → (X → St → Option (List D)) → Option (List D)
  | [.n len, .n len2, .r r, .r s], k => br (decide (len ≤ big) && decide ((len : Int) = (len2 : Int))) (br (anyF (neI r s) len 0) (k .ret S9r) (k (.exit 0) S9x)) none
  | _, _ => none
def l9 : LoopC where
  f := 13
  id := 4
  lv := [0, 1, 5]
  lx := [4]
  p := { τ := [.v (.sl 0), .v (.sl 1)] ++ pu 3 ++ [.v (.c (i64 0))] ++ pu 20, saved := [[]], mem := [.row [.int .i64] false, .row [.int .i64] false] }
  G := G9
noncomputable def C9 : Cx := mkCx Tryd.prog fns [] [l9]

theorem round9 (d : Nat) (R : St → Option (List D)) (K : X → St → Option (List D)) (len len2 : Nat) (j : Nat) (r s : Row) :
    evCode C9 13 true (inl C9 (d + 4)) (lbody C9.P 13 4) (S9 len len2 j r s) (rnd [0, 1, 5] (some [4]) R K) =
    br (decide ((j : Int) < len)) (br (decide (0 ≤ (j : Int)) && decide ((j : Int) < len)) (br (decide (0 ≤ (j : Int)) && decide ((j : Int) < len2))
      (br (r.I (0 + j) 0 != s.I (0 + j) 0) (K .ret S9r) (R (S9 len len2 (IntKind.i64.wrap (j + 1)) r s))) none) none) (K (.exit 0) S9x) := by kernel_rfl

theorem loop9 : LoopOk C9 l9 := ⟨by kernel_rfl, fun d its k rr h => by
  show rounds [0, 1, 5] (some [4]) (evCode C9 13 true (inl C9 (d + 4)) (lbody C9.P 13 4)) 18446744073709551616 (Go.Ev.bst l9.p its) k = some rr
  change G9 its k = some rr at h
  unfold G9 at h
  split at h
  · rename_i len len2 r s
    rcases br_some h with ⟨h1, h2⟩ | ⟨_, h2⟩
    · simp only [Bool.and_eq_true, decide_eq_true_eq] at h1
      obtain ⟨h4, h3⟩ := h1
      have h1 : len ≤ 9223372036854775807 := h4
      obtain rfl : len = len2 := by omega
      rw [← h2]
      exact rounds_scan (S := fun j => S9 len len j r s) (len := len) (bad := neI r s) (Kb := fun K => K .ret S9r) (Ke := fun K => K (.exit 0) S9x)
        (fun j hj R K => by
          rw [round9, wrap64 (by omega) (by omega), show decide ((j : Int) < (len : Int)) = true by simpa using hj, show (decide (0 ≤ (j : Int))) = true by simp, Nat.zero_add]
          rfl)
        (fun R K => by
          rw [round9, show decide ((len : Int) < (len : Int)) = false by simp]
          rfl) k len 0 (by omega) _ (by omega)
    · cases h2
  · cases h⟩

theorem C9_ok : CxOk C9 := mkCx_ok enter mixed (fun p h => by cases h) (fun l h => by
  simp only [List.mem_singleton] at h
  subst h
  exact loop9)

theorem t9 (r s : Row) : evF C9 6 13 [.slice [.int .i64] r, .slice [.int .i64] s] =
    br ((r.n : Int) != (s.n : Int)) (some [.v (.bool false)]) (br (decide (r.n ≤ big) && decide ((r.n : Int) = (s.n : Int))) (br (anyF (neI r s) r.n 0) (some [.v (.bool false)]) (some [.v (.bool true)])) none) := by kernel_rfl

theorem den9 : Den Tryd.prog 13 F9 := evF_den C9_ok fun ds rs h => by
  unfold F9 at h
  split at h
  · rename_i r s
    simp only [Option.some.injEq, Prod.mk.injEq] at h
    obtain ⟨h, rfl⟩ := h
    refine (t9 r s).trans ?_
    rw [h]
    unfold same
    cases hn : ((r.n : Int) != (s.n : Int))
    · have : decide ((r.n : Int) = (s.n : Int)) = true := by simpa using hn
      rw [this]
      cases anyF (neI r s) r.n 0 <;> rfl
    · rfl
  · cases h
theorem same_self (r : Row) : same r r = true := by
  have : anyF (neI r r) r.n 0 = false := anyF_false.2 fun i _ _ => by simp [neI]
  simp [same, this]
end Go.Proofs.YtpblmkephkhlkaaDoor.Lg
/- Balances, of the program and of the reference. No conditions. -/
namespace Go.Proofs.YtpblmkephkhlkaaDoor.Lg
open Go.Ev
set_option linter.all false

/-- A payment is booked. -/
def book1 (r : Row) (j : Nat) (o : Row) : Row := o.setI (0 + (r.I (0 + j) 0).toNat) 0 (IntKind.i64.wrap (o.I (0 + (r.I (0 + j) 0).toNat) 0 - r.I (0 + j) 2))
def book (r : Row) (j : Nat) (o : Row) : Row := (book1 r j o).setI (0 + (r.I (0 + j) 1).toNat) 0 (IntKind.i64.wrap ((book1 r j o).I (0 + (r.I (0 + j) 1).toNat) 0 + r.I (0 + j) 2))
def books (r : Row) : Nat → Nat → Row → Row
  | 0, _, o => o
  | m + 1, j, o => books r m (j + 1) (book r j o)
def bal (n : Int) (r : Row) : Row := bif chk n r != 0 then .nil else winOf (books r r.n 0 (.zeros n.toNat)) 0 n.toNat
def F5 : List D → Option (Bool × List D)
  | [.v (.int .i64 n), .slice [.int .i64, .int .i64, .int .i64] r] => some (true, [.slice [.int .i64] (bal n r), .v (i64 (chk n r))])
  | _ => none
def inR (n : Nat) (x : Int) : Bool := decide (0 ≤ x) && decide (x < n)

theorem good_in {n : Nat} {r : Row} {j : Nat} (h : bad n r j = false) : inR n (r.I (0 + j) 0) = true ∧ inR n (r.I (0 + j) 1) = true := by
  rw [Nat.zero_add]
  simp only [bad, isB, Bool.or_eq_false_iff, Bool.not_eq_false', Bool.and_eq_true, decide_eq_true_eq] at h
  simp only [inR, Bool.and_eq_true, decide_eq_true_eq]
  omega

theorem runL_books {A : Type} {κ : Type} (n : Nat) (r : Row) (E : Row → κ → Option A) (K : κ) : ∀ (m j : Nat) (o : Row), anyF (bad n r) m j = false →
    runL (fun j o R _ => br (inR n (r.I (0 + j) 0)) (br (inR n (r.I (0 + j) 1)) (R (book r j o)) none) none) E K m j o = E (books r m j o) K
  | 0, _, _, _ => rfl
  | m + 1, j, o, h => by
    simp only [anyF, Bool.or_eq_false_iff] at h
    simp only [runL, books]
    rw [(good_in h.1).1, (good_in h.1).2]
    exact runL_books n r E K m (j + 1) _ h.2

/-! ### ledger.Balances -/
def S5 (n len : Nat) (l : Int) (j : Int) (r o : Row) : St := { τ := us 7 ++ [.slice (some ⟨0, 0, some 0⟩) n 0] ++ us 10 ++ [.slice (some ⟨1, 0, some 0⟩) len 0, i64 l, i64 j] ++ us 23, saved := [[]], mem := [some (.row [.int .i64] true o), some (.row ks3 false r)] }
def S5x (n : Nat) (o : Row) : St := { τ := us 7 ++ [.slice (some ⟨0, 0, some 0⟩) n 0] ++ us 36, saved := [[]], mem := [some (.row [.int .i64] true o)] }
def G5 : List It → (X → St → Option (List D)) → Option (List D)
  | [.n n, .n len, .i l, .r o, .r r], k => br (decide (l = (len : Int)) && decide (len ≤ 1000) && !anyF (bad (n : Int) r) len 0) (k (.exit 0) (S5x n (books r len 0 o))) none
  | _, _ => none
def l5 : LoopC where
  f := 27
  id := 6
  lv := [7, 18, 19, 20]
  lx := [4, 5, 7]
  p := { τ := pu 7 ++ [.v (.sl 0)] ++ pu 10 ++ [.v (.sl 1), .v (.int .i64), .v (.c (i64 0))] ++ pu 23, saved := [[]], mem := [.row [.int .i64] true, .row ks3 false] }
  G := G5
noncomputable def C5 : Cx := mkCx Tryd.prog fns [(38, F7)] [l5]

theorem round5 (d : Nat) (R : St → Option (List D)) (K : X → St → Option (List D)) (n len : Nat) (l : Int) (j : Nat) (r o : Row) :
    evCode C5 27 true (inl C5 (d + 4)) (lbody C5.P 27 6) (S5 n len l j r o) (rnd [7, 18, 19, 20] (some [4, 5, 7]) R K) =
    br (decide ((j : Int) < l)) (br (decide (0 ≤ (j : Int)) && decide ((j : Int) < len)) (br (inR n (r.I (0 + j) 0)) (br (inR n (r.I (0 + j) 0)) (br (inR n (r.I (0 + j) 1)) (br (inR n (r.I (0 + j) 1))
      (R (S5 n len l (IntKind.i64.wrap (j + 1)) r (book r j o))) none) none) none) none) none) (K (.exit 0) (S5x n o)) := by kernel_rfl

theorem loop5 : LoopOk C5 l5 := ⟨by kernel_rfl, fun d its k rr h => by
  show rounds [7, 18, 19, 20] (some [4, 5, 7]) (evCode C5 27 true (inl C5 (d + 4)) (lbody C5.P 27 6)) 18446744073709551616 (Go.Ev.bst l5.p its) k = some rr
  change G5 its k = some rr at h
  unfold G5 at h
  split at h
  · rename_i n len l o r
    rcases br_some h with ⟨h1, h2⟩ | ⟨_, h2⟩
    · simp only [Bool.and_eq_true, decide_eq_true_eq, Bool.not_eq_true'] at h1
      obtain ⟨⟨rfl, h1⟩, hb⟩ := h1
      rw [← h2]
      have key := rounds_run (lv := [7, 18, 19, 20]) (lx := some [4, 5, 7]) (f := evCode C5 27 true (inl C5 (d + 4)) (lbody C5.P 27 6)) (S := fun j o => S5 n len len j r o) (len := len)
        (T := fun j o R _ => br (inR n (r.I (0 + j) 0)) (br (inR n (r.I (0 + j) 1)) (R (book r j o)) none) none) (E := fun o K => K (.exit 0) (S5x n o))
        (fun j hj o R K => by
          rw [round5, wrap64 (by omega) (by omega), show decide ((j : Int) < (len : Int)) = true by simpa using hj, show (decide (0 ≤ (j : Int))) = true by simp]
          cases inR n (r.I (0 + j) 0) <;> cases inR n (r.I (0 + j) 1) <;> rfl)
        (fun o R K => by
          rw [round5, show decide ((len : Int) < (len : Int)) = false by simp]
          rfl) (fun j o R R' K hR => by simp only [hR]) k len 0 o (by omega) 18446744073709551616 (by omega)
      rw [runL_books n r _ k len 0 o hb] at key
      exact key
    · cases h2
  · cases h⟩

theorem C5_ok : CxOk C5 := mkCx_ok enter mixed (fun p h => by
  simp only [List.mem_singleton] at h
  subst h
  exact den7) (fun l h => by
  simp only [List.mem_singleton] at h
  subst h
  exact loop5)

theorem t5 (n : Int) (r : Row) : evF C5 6 27 (pay n r) =
    br (chk n r != 0) (some [.slice [.int .i64] .nil, .v (i64 (chk n r))]) (br (decide (0 ≤ n) && decide (n ≤ n) && decide (n ≤ 100000000000))
      (br (decide ((r.n : Int) = (r.n : Int)) && decide (r.n ≤ 1000) && !anyF (bad (n.toNat : Int) r) r.n 0) (some [.slice [.int .i64] (winOf (books r r.n 0 (.zeros n.toNat)) 0 n.toNat), .v (i64 0)]) none) none) := by kernel_rfl

theorem chk_zero {n : Int} {r : Row} (h : (chk n r != 0) = false) : 1 ≤ n ∧ n ≤ 10 ∧ r.n ≤ 200 ∧ anyF (bad n r) r.n 0 = false := by
  simp only [bne_eq_false_iff_eq] at h
  unfold chk partiesB at h
  cases h1 : decide (n ≥ 1) <;> cases h2 : decide (n ≤ 10) <;> cases h3 : decide ((r.n : Int) > 200) <;> cases h4 : anyF (bad n r) r.n 0 <;> simp [h1, h2, h3, h4] at h
  simp only [decide_eq_true_eq, decide_eq_false_iff_not] at h1 h2 h3
  exact ⟨by omega, by omega, by omega, rfl⟩

theorem den5 : Den Tryd.prog 27 F5 := evF_den C5_ok fun ds rs h => by
  unfold F5 at h
  split at h
  · rename_i n r
    cases h
    refine (t5 n r).trans ?_
    unfold bal
    cases hc : (chk n r != 0)
    · obtain ⟨h1, h2, h3, h4⟩ := chk_zero hc
      have e0 : chk n r = 0 := by simpa using hc
      rw [show ((n.toNat : Nat) : Int) = n by omega, h4, e0]
      have e1 : (decide (0 ≤ n) && decide (n ≤ n) && decide (n ≤ 100000000000)) = true := by simp; omega
      have e2 : (decide ((r.n : Int) = (r.n : Int)) && decide (r.n ≤ 1000)) = true := by simp; omega
      rw [e1, e2]
      rfl
    · rfl
  · cases h

end Go.Proofs.YtpblmkephkhlkaaDoor.Lg
/- Package ledger: the chapter's examples. No conditions. -/
namespace Go.Proofs.YtpblmkephkhlkaaDoor
open Go.Ev
set_option linter.all false
noncomputable def C4 : Cx := mkCx Tryd.prog fns [(9, Fgroups)] []
theorem C4_ok : CxW C4 Wt := mkCx_okW enter mixed (fun p h => by
  simp only [List.mem_cons, List.not_mem_nil, or_false] at h
  rcases h with rfl
  exact den_groups) (fun l h => by cases h)
set_option maxRecDepth 100000 in
theorem talive : evF C4 6 15 [] = some [.v (.bool true)] := by kernel_rfl
def Falive : List D → Option (Bool × List D)
  | [] => some (true, [.v (.bool true)])
  | _ => none
theorem den_alive : DenW Tryd.prog Wt 15 Falive := evF_denW C4_ok fun ds rs h => by
  unfold Falive at h
  split at h
  · simp only [Option.some.injEq, Prod.mk.injEq, true_and] at h
    subst h
    exact talive
  · cases h
end Go.Proofs.YtpblmkephkhlkaaDoor
/- LedgerSums: its loops. No conditions. -/
namespace Go.Proofs.YtpblmkephkhlkaaDoor
open Go.Ev
set_option linter.all false
def Rk (own : Bool) (r : Row) : Option Blk := some (.row Lg.ks3 own r)
/-- A payment back. -/
def pk1 (l : Row) (i : Nat) : Row := winOf ((((Row.zeros 1).setI 0 0 (l.I i 1)).setI 0 1 (l.I i 0)).setI 0 2 (l.I i 2)) 0 1
def bkR (l : Row) : Nat → Nat → Row → Row
  | 0, _, bk => bk
  | m + 1, k, bk => bkR l m (k + 1) ((winOf bk 0 k).app (pk1 l m))
def S9a (n : Int) (nl na nb nc : Nat) (ok : Bool) (e f g : Int) (i : Int) (l a b c : Row) : St := ⟨[i64 n, sl 0 nl] ++ us 5 ++ [.bool ok, sl 1 na, i64 e, sl 2 nb, i64 f, sl 3 nc, i64 g, .slice none 0 0, i64 i] ++ us 153, [[]], [Rk false l, Rb true a, Rb true b, Rb true c]⟩
def S9b (n : Int) (nl na nb nc nk : Nat) (ok : Bool) (e f g : Int) (i : Int) (l a b c bk : Row) : St := ⟨[i64 n, sl 0 nl] ++ us 5 ++ [.bool ok, sl 1 na, i64 e, sl 2 nb, i64 f, sl 3 nc, i64 g, sl 4 nk, i64 i] ++ us 153, [[]], [Rk false l, Rb true a, Rb true b, Rb true c, Rk true bk]⟩
def S9x (n : Int) (nl na nb nc : Nat) (ok : Bool) (e f g : Int) (l a b c : Row) : St := ⟨[i64 n, sl 0 nl] ++ us 5 ++ [.bool ok, sl 1 na, i64 e, sl 2 nb, i64 f, sl 3 nc, i64 g, .slice none 0 0] ++ us 154, [[]], [Rk false l, Rb true a, Rb true b, Rb true c]⟩
def S9y (n : Int) (nl na nb nc nk : Nat) (ok : Bool) (e f g : Int) (l a b c bk : Row) : St := ⟨[i64 n, sl 0 nl] ++ us 5 ++ [.bool ok, sl 1 na, i64 e, sl 2 nb, i64 f, sl 3 nc, i64 g, sl 4 nk] ++ us 154, [[]], [Rk false l, Rb true a, Rb true b, Rb true c, Rk true bk]⟩
/-- All payments back. -/
def backR (l : Row) (L : Nat) : Row := bkR l (L - 1) 1 (Row.nil.app (pk1 l (L - 1)))
def G9 (cd : Nat → Int → Bool) : List It → (X → St → Option (List D)) → Option (List D)
  | [.i n, .n nl, .b ok, .n na, .i e, .n nb, .i f, .n nc, .i g, .i i, .r l, .r a, .r b, .r c], k => br (cd nl i) (br (decide (nl = 0)) (k (.exit 0) (S9x n nl na nb nc ok e f g l a b c)) (k (.exit 0) (S9y n nl na nb nc nl ok e f g l a b c (backR l nl)))) none
  | _, _ => none
def l9 (cd : Nat → Int → Bool) : LoopC where
  f := 8
  id := 9
  lv := [0, 1, 7, 8, 9, 10, 11, 12, 13, 14, 15]
  lx := [0, 1, 6, 7, 8, 9, 10, 11, 12, 13, 14]
  p := { τ := [.v (.int .i64), .v (.sl 0)] ++ pu 5 ++ [.v .bool, .v (.sl 1), .v (.int .i64), .v (.sl 2), .v (.int .i64), .v (.sl 3), .v (.int .i64), .v (.c (.slice none 0 0)), .v (.int .i64)] ++ pu 153, saved := [[]], mem := [.row Lg.ks3 false, .row ks1 true, .row ks1 true, .row ks1 true] }
  G := G9 cd
/-- The sum of balances, and whether those of both lists together are others. -/
def suL (a b c : Row) : Nat → Nat → Int → Bool × Int
  | 0, _, s => (false, s)
  | m + 1, j, s => if c.I j 0 ≠ wi (a.I j 0 + b.I j 0) then (true, wi (s + a.I j 0)) else suL a b c m (j + 1) (wi (s + a.I j 0))
def S17 (n : Int) (na nb nc : Nat) (ok : Bool) (sum i : Int) (a b c : Row) : St := ⟨[i64 n] ++ us 6 ++ [.bool ok, sl 0 na] ++ us 1 ++ [sl 1 nb] ++ us 1 ++ [sl 2 nc] ++ us 5 ++ [i64 sum, i64 i] ++ us 149, [[]], [Rb true a, Rb true b, Rb true c]⟩
def S17r (ok : Bool) (sum : Int) : St := ⟨us 6 ++ [.bool false, .bool ok] ++ us 10 ++ [i64 sum] ++ us 150, [[]], []⟩
def S17x (ok : Bool) (sum : Int) : St := ⟨us 7 ++ [.bool ok] ++ us 10 ++ [i64 sum] ++ us 150, [[]], []⟩
def G17 (cd : Int → Nat → Nat → Nat → Bool) : List It → (X → St → Option (List D)) → Option (List D)
  | [.i n, .b ok, .n na, .n nb, .n nc, .r a, .r b, .r c], k => br (cd n na nb nc) (br (suL a b c n.toNat 0 0).1 (k .ret (S17r ok (suL a b c n.toNat 0 0).2)) (k (.exit 2) (S17x ok (suL a b c n.toNat 0 0).2))) none
  | _, _ => none
def l17 (cd : Int → Nat → Nat → Nat → Bool) : LoopC where
  f := 8
  id := 17
  lv := [0, 7, 8, 10, 12, 18, 19]
  lx := [6, 7, 18]
  p := { τ := [.v (.int .i64)] ++ pu 6 ++ [.v .bool, .v (.sl 0)] ++ pu 1 ++ [.v (.sl 1)] ++ pu 1 ++ [.v (.sl 2)] ++ pu 5 ++ [.v (.c (i64 0)), .v (.c (i64 0))] ++ pu 149, saved := [[]], mem := [.row ks1 true, .row ks1 true, .row ks1 true] }
  G := G17 cd
def nzB (r : Row) (t : Nat) : Bool := r.I t 0 != 0
def Sz (n : Nat) (j : Int) (r : Row) : St := ⟨[sl 0 n] ++ us 2 ++ [i64 j] ++ us 11, [[]], [Rb false r]⟩
def Szr : St := ⟨us 2 ++ [.bool false] ++ us 12, [[]], []⟩
def Szx : St := ⟨us 15, [[]], []⟩
def G2 (cd : Nat → Bool) : List It → (X → St → Option (List D)) → Option (List D)
  | [.n n, .r r], k => br (cd n) (br (anyF (nzB r) n 0) (k .ret Szr) (k (.exit 0) Szx)) none
  | _, _ => none
def l2 (cd : Nat → Bool) : LoopC where
  f := 18
  id := 2
  lv := [0, 3]
  lx := [2]
  p := { τ := [.v (.sl 0)] ++ pu 2 ++ [.v (.c (i64 0))] ++ pu 11, saved := [[]], mem := [.row ks1 false] }
  G := G2 cd
noncomputable def C5g (cz : Nat → Bool) : Cx := mkCx Tryd.prog fns [] [l2 cz]
theorem roundz (cz : Nat → Bool) (R : St → Option (List D)) (K : X → St → Option (List D)) (p : Nat) (n : Nat) (j : Int) (r : Row) : evCode (C5g cz) 18 true (inl (C5g cz) (p + 4)) (lbody (C5g cz).P 18 2) (Sz n j r) (rnd [0, 3] (some [2]) R K) =
    br (decide (j < (n : Int))) (br (decide (0 ≤ j) && decide (j < (n : Int))) (br (r.I (0 + j.toNat) 0 != 0) (K .ret Szr) (R (Sz n (wi (j + 1)) r))) none) (K (.exit 0) Szx) := by kernel_rfl
def inz (n : Nat) : Bool := decide (n ≤ 1000)
noncomputable def C5 : Cx := C5g inz
set_option maxRecDepth 100000 in
theorem loop2 : LoopOk C5 (l2 inz) := ⟨by kernel_rfl, fun q its k rr h => by
  show rounds [0, 3] (some [2]) (evCode C5 18 true (inl C5 (q + 4)) (lbody C5.P 18 2)) 18446744073709551616 (Go.Ev.bst (l2 inz).p its) k = some rr
  change G2 inz its k = some rr at h
  unfold G2 at h
  split at h
  · rename_i n r
    rcases br_some h with ⟨h1, h2⟩ | ⟨_, h2⟩
    · have h1 := of_decide_eq_true h1
      rw [← h2]
      exact rounds_scan (S := fun j => Sz n j r) (len := n) (bad := nzB r) (Kb := fun K => K .ret Szr) (Ke := fun K => K (.exit 0) Szx)
        (fun j hj R K => by
          refine (roundz inz R K q n j r).trans ?_
          rw [show (decide (0 ≤ (j : Int)) && decide ((j : Int) < (n : Int))) = true by simp only [Bool.and_eq_true, decide_eq_true_eq]; omega, decide_eq_true (show (j : Int) < (n : Int) by omega), br_true, br_true, Int.toNat_natCast, Nat.zero_add, wiN (n := (j : Int) + 1) (by omega) (by omega)]
          rfl)
        (fun R K => by
          refine (roundz inz R K q n n r).trans ?_
          rw [decide_eq_false (show ¬ (n : Int) < (n : Int) by omega), br_false]) k n 0 (by omega) _ (by omega)
    · cases h2
  · cases h⟩
theorem C5_ok : CxOk C5 := mkCx_ok enter mixed (fun p h => by cases h) (fun l h => by
  simp only [List.mem_cons, List.not_mem_nil, or_false] at h
  rcases h with rfl
  exact loop2)
theorem tzero (cz : Nat → Bool) (r : Row) : evF (C5g cz) 6 18 [.slice ks1 r] = br (cz r.n) (br (anyF (nzB r) r.n 0) (some [.v (.bool false)]) (some [.v (.bool true)])) none := by kernel_rfl
def zrB (r : Row) : Bool := !anyF (nzB r) r.n 0
def Fzero : List D → Option (Bool × List D)
  | [.slice [.int .i64] r] => some (decide (r.n ≤ 1000), [.v (.bool (zrB r))])
  | _ => none
theorem den_zero : Den Tryd.prog 18 Fzero := evF_den C5_ok fun ds rs h => by
  unfold Fzero at h
  split at h
  · rename_i r
    simp only [Option.some.injEq, Prod.mk.injEq] at h
    obtain ⟨h0, rfl⟩ := h
    refine (tzero inz r).trans ?_
    rw [show inz r.n = true from h0, br_true]
    unfold zrB
    cases anyF (nzB r) r.n 0
    · rw [br_false]; rfl
    · rw [br_true]; rfl
  · cases h
noncomputable def C6g (c9 : Nat → Int → Bool) (c17 : Int → Nat → Nat → Nat → Bool) : Cx := mkCx Tryd.prog fns [(15, Falive), (17, Lg.F7), (27, Lg.F5), (18, Fzero)] [l9 c9, l17 c17]
section
variable (c9 : Nat → Int → Bool) (c17 : Int → Nat → Nat → Nat → Bool)
theorem round9a (R : St → Option (List D)) (K : X → St → Option (List D)) (p : Nat) (n : Int) (nl na nb nc : Nat) (ok : Bool) (e f g : Int) (i : Int) (l a b c : Row) : evCode (C6g c9 c17) 8 true (inl (C6g c9 c17) (p + 4)) (lbody (C6g c9 c17).P 8 9) (S9a n nl na nb nc ok e f g i l a b c) (rnd [0, 1, 7, 8, 9, 10, 11, 12, 13, 14, 15] (some [0, 1, 6, 7, 8, 9, 10, 11, 12, 13, 14]) R K) =
    br (decide (i ≥ 0)) (br (decide (0 ≤ i) && decide (i < (nl : Int))) (br (decide (0 ≤ i) && decide (i < (nl : Int))) (br (decide (0 ≤ i) && decide (i < (nl : Int))) (R (S9b n nl na nb nc 1 ok e f g (wi (i - 1)) l a b c (Row.nil.app (pk1 l (0 + i.toNat))))) none) none) none) (K (.exit 0) (S9x n nl na nb nc ok e f g l a b c)) := by kernel_rfl
theorem round9b (R : St → Option (List D)) (K : X → St → Option (List D)) (p : Nat) (n : Int) (nl na nb nc nk : Nat) (ok : Bool) (e f g : Int) (i : Int) (l a b c bk : Row) : evCode (C6g c9 c17) 8 true (inl (C6g c9 c17) (p + 4)) (lbody (C6g c9 c17).P 8 9) (S9b n nl na nb nc nk ok e f g i l a b c bk) (rnd [0, 1, 7, 8, 9, 10, 11, 12, 13, 14, 15] (some [0, 1, 6, 7, 8, 9, 10, 11, 12, 13, 14]) R K) =
    br (decide (i ≥ 0)) (br (decide (0 ≤ i) && decide (i < (nl : Int))) (br (decide (0 ≤ i) && decide (i < (nl : Int))) (br (decide (0 ≤ i) && decide (i < (nl : Int))) (br (decide (nk + 1 ≤ 10000000000)) (R (S9b n nl na nb nc (nk + 1) ok e f g (wi (i - 1)) l a b c ((winOf bk 0 nk).app (pk1 l (0 + i.toNat))))) none) none) none) none) (K (.exit 0) (S9y n nl na nb nc nk ok e f g l a b c bk)) := by kernel_rfl
theorem round17 (R : St → Option (List D)) (K : X → St → Option (List D)) (p : Nat) (n : Int) (na nb nc : Nat) (ok : Bool) (sum i : Int) (a b c : Row) : evCode (C6g c9 c17) 8 true (inl (C6g c9 c17) (p + 4)) (lbody (C6g c9 c17).P 8 17) (S17 n na nb nc ok sum i a b c) (rnd [0, 7, 8, 10, 12, 18, 19] (some [6, 7, 18]) R K) =
    br (decide (i < n)) (br (decide (0 ≤ i) && decide (i < (na : Int))) (br (decide (0 ≤ i) && decide (i < (nc : Int))) (br (decide (0 ≤ i) && decide (i < (na : Int))) (br (decide (0 ≤ i) && decide (i < (nb : Int))) (br (c.I (0 + i.toNat) 0 != wi (a.I (0 + i.toNat) 0 + b.I (0 + i.toNat) 0)) (K .ret (S17r ok (wi (sum + a.I (0 + i.toNat) 0)))) (R (S17 n na nb nc ok (wi (sum + a.I (0 + i.toNat) 0)) (wi (i + 1)) a b c))) none) none) none) none) (K (.exit 2) (S17x ok sum)) := by kernel_rfl
end
theorem tsums (c9 : Nat → Int → Bool) (c17 : Int → Nat → Nat → Nat → Bool) (n : Int) (l m : Row) : evF (C6g c9 c17) 6 8 [.v (i64 n), .slice Lg.ks3 l, .slice Lg.ks3 m] =
    br (decide ((↑l.n : Int) > 60)) (some [.v (.bool (true))]) (br (decide ((↑m.n : Int) > 60)) (some [.v (.bool (true))]) (br (Lg.chk n (winOf l 0 l.n) != 0) (some [.v (.bool (true))]) (br (Lg.chk n (winOf m 0 m.n) != 0) (some [.v (.bool (true))]) (br (decide (0 + (winOf l 0 l.n).n ≤ 10000000000)) (br (decide (0 + (winOf l 0 l.n).n + (winOf m 0 m.n).n ≤ 10000000000)) (br (c9 l.n (IntKind.i64.wrap ((↑l.n : Int) - 1))) (br (decide (l.n = 0)) (br (decide (0 + (winOf l 0 l.n).n ≤ 10000000000)) (br (Lg.chk n (winOf l 0 l.n) != 0) (some [.v (.bool (false))]) (br (Lg.chk n (winOf m 0 m.n) != 0) (some [.v (.bool (false))]) (br (Lg.chk n (winOf ((winOf ((winOf (Row.zeros 0) 0 0).app (winOf l 0 l.n)) 0 (0 + (winOf l 0 l.n).n)).app (winOf m 0 m.n)) 0 (0 + (winOf l 0 l.n).n + (winOf m 0 m.n).n)) != 0) (some [.v (.bool (false))]) (br (Lg.chk n (winOf (Row.nil.app (winOf l 0 l.n)) 0 (0 + (winOf l 0 l.n).n)) != 0) (some [.v (.bool (false))]) (br ((↑(Lg.bal n (winOf l 0 l.n)).n : Int) != n) (some [.v (.bool (false))]) (br ((↑(Lg.bal n (winOf m 0 m.n)).n : Int) != n) (some [.v (.bool (false))]) (br ((↑(Lg.bal n (winOf ((winOf ((winOf (Row.zeros 0) 0 0).app (winOf l 0 l.n)) 0 (0 + (winOf l 0 l.n).n)).app (winOf m 0 m.n)) 0 (0 + (winOf l 0 l.n).n + (winOf m 0 m.n).n))).n : Int) != n) (some [.v (.bool (false))]) (br (decide ((winOf (Lg.bal n (winOf (Row.nil.app (winOf l 0 l.n)) 0 (0 + (winOf l 0 l.n).n))) 0 (Lg.bal n (winOf (Row.nil.app (winOf l 0 l.n)) 0 (0 + (winOf l 0 l.n).n))).n).n ≤ 1000)) (br (!zrB (winOf (Lg.bal n (winOf (Row.nil.app (winOf l 0 l.n)) 0 (0 + (winOf l 0 l.n).n))) 0 (Lg.bal n (winOf (Row.nil.app (winOf l 0 l.n)) 0 (0 + (winOf l 0 l.n).n))).n)) (some [.v (.bool (false))]) (br (c17 n (Lg.bal n (winOf l 0 l.n)).n (Lg.bal n (winOf m 0 m.n)).n (Lg.bal n (winOf ((winOf ((winOf (Row.zeros 0) 0 0).app (winOf l 0 l.n)) 0 (0 + (winOf l 0 l.n).n)).app (winOf m 0 m.n)) 0 (0 + (winOf l 0 l.n).n + (winOf m 0 m.n).n))).n) (br ((suL (Lg.bal n (winOf l 0 l.n)) (Lg.bal n (winOf m 0 m.n)) (Lg.bal n (winOf ((winOf ((winOf (Row.zeros 0) 0 0).app (winOf l 0 l.n)) 0 (0 + (winOf l 0 l.n).n)).app (winOf m 0 m.n)) 0 (0 + (winOf l 0 l.n).n + (winOf m 0 m.n).n))) n.toNat 0 0).1) (some [.v (.bool (false))]) (some [.v (.bool ((suL (Lg.bal n (winOf l 0 l.n)) (Lg.bal n (winOf m 0 m.n)) (Lg.bal n (winOf ((winOf ((winOf (Row.zeros 0) 0 0).app (winOf l 0 l.n)) 0 (0 + (winOf l 0 l.n).n)).app (winOf m 0 m.n)) 0 (0 + (winOf l 0 l.n).n + (winOf m 0 m.n).n))) n.toNat 0 0).2 == 0))])) (none))) (none))))))))) (none)) (br (decide (l.n + (winOf l 0 l.n).n ≤ 10000000000)) (br (Lg.chk n (winOf l 0 l.n) != 0) (some [.v (.bool (false))]) (br (Lg.chk n (winOf m 0 m.n) != 0) (some [.v (.bool (false))]) (br (Lg.chk n (winOf ((winOf ((winOf (Row.zeros 0) 0 0).app (winOf l 0 l.n)) 0 (0 + (winOf l 0 l.n).n)).app (winOf m 0 m.n)) 0 (0 + (winOf l 0 l.n).n + (winOf m 0 m.n).n)) != 0) (some [.v (.bool (false))]) (br (Lg.chk n (winOf ((winOf (backR l l.n) 0 l.n).app (winOf l 0 l.n)) 0 (l.n + (winOf l 0 l.n).n)) != 0) (some [.v (.bool (false))]) (br ((↑(Lg.bal n (winOf l 0 l.n)).n : Int) != n) (some [.v (.bool (false))]) (br ((↑(Lg.bal n (winOf m 0 m.n)).n : Int) != n) (some [.v (.bool (false))]) (br ((↑(Lg.bal n (winOf ((winOf ((winOf (Row.zeros 0) 0 0).app (winOf l 0 l.n)) 0 (0 + (winOf l 0 l.n).n)).app (winOf m 0 m.n)) 0 (0 + (winOf l 0 l.n).n + (winOf m 0 m.n).n))).n : Int) != n) (some [.v (.bool (false))]) (br (decide ((winOf (Lg.bal n (winOf ((winOf (backR l l.n) 0 l.n).app (winOf l 0 l.n)) 0 (l.n + (winOf l 0 l.n).n))) 0 (Lg.bal n (winOf ((winOf (backR l l.n) 0 l.n).app (winOf l 0 l.n)) 0 (l.n + (winOf l 0 l.n).n))).n).n ≤ 1000)) (br (!zrB (winOf (Lg.bal n (winOf ((winOf (backR l l.n) 0 l.n).app (winOf l 0 l.n)) 0 (l.n + (winOf l 0 l.n).n))) 0 (Lg.bal n (winOf ((winOf (backR l l.n) 0 l.n).app (winOf l 0 l.n)) 0 (l.n + (winOf l 0 l.n).n))).n)) (some [.v (.bool (false))]) (br (c17 n (Lg.bal n (winOf l 0 l.n)).n (Lg.bal n (winOf m 0 m.n)).n (Lg.bal n (winOf ((winOf ((winOf (Row.zeros 0) 0 0).app (winOf l 0 l.n)) 0 (0 + (winOf l 0 l.n).n)).app (winOf m 0 m.n)) 0 (0 + (winOf l 0 l.n).n + (winOf m 0 m.n).n))).n) (br ((suL (Lg.bal n (winOf l 0 l.n)) (Lg.bal n (winOf m 0 m.n)) (Lg.bal n (winOf ((winOf ((winOf (Row.zeros 0) 0 0).app (winOf l 0 l.n)) 0 (0 + (winOf l 0 l.n).n)).app (winOf m 0 m.n)) 0 (0 + (winOf l 0 l.n).n + (winOf m 0 m.n).n))) n.toNat 0 0).1) (some [.v (.bool (false))]) (some [.v (.bool ((suL (Lg.bal n (winOf l 0 l.n)) (Lg.bal n (winOf m 0 m.n)) (Lg.bal n (winOf ((winOf ((winOf (Row.zeros 0) 0 0).app (winOf l 0 l.n)) 0 (0 + (winOf l 0 l.n).n)).app (winOf m 0 m.n)) 0 (0 + (winOf l 0 l.n).n + (winOf m 0 m.n).n))) n.toNat 0 0).2 == 0))])) (none))) (none))))))))) (none))) (none)) (none)) (none))))) := by kernel_rfl
end Go.Proofs.YtpblmkephkhlkaaDoor
/- Payments as lists: what balances come to. No conditions. -/
namespace Go.Proofs.YtpblmkephkhlkaaDoor
open Go.Ev
set_option linter.all false
abbrev Pt := Int × Int × Int
def ptAt (r : Row) (i : Nat) : Pt := (r.I i 0, r.I i 1, r.I i 2)
def pl (r : Row) : List Pt := (List.range r.n).map (ptAt r)
def dl (x : Pt) (p : Int) : Int := (if x.2.1 = p then x.2.2 else 0) - (if x.1 = p then x.2.2 else 0)
def bl : List Pt → Int → Int
  | [], _ => 0
  | x :: xs, p => dl x p + bl xs p
def okP (n : Int) (x : Pt) : Prop := (0 ≤ x.1 ∧ x.1 < n) ∧ (0 ≤ x.2.1 ∧ x.2.1 < n) ∧ x.1 ≠ x.2.1 ∧ 1 ≤ x.2.2 ∧ x.2.2 ≤ 1000000000
def sw (x : Pt) : Pt := (x.2.1, x.1, x.2.2)
theorem bl_app (p : Int) : ∀ xs ys : List Pt, bl (xs ++ ys) p = bl xs p + bl ys p
  | [], ys => by simp [bl]
  | x :: xs, ys => by simp only [List.cons_append, bl, bl_app p xs ys]; omega
theorem bl_sw (p : Int) : ∀ xs : List Pt, bl (xs.map sw) p = -bl xs p
  | [] => rfl
  | x :: xs => by
    simp only [List.map_cons, bl, bl_sw p xs, dl, sw]
    omega
theorem bl_rev (p : Int) : ∀ xs : List Pt, bl xs.reverse p = bl xs p
  | [] => rfl
  | x :: xs => by
    rw [List.reverse_cons, bl_app, bl_rev p xs]
    simp only [bl]
    omega
theorem okP_sw {n : Int} {x : Pt} (h : okP n x) : okP n (sw x) := by
  obtain ⟨h1, h2, h3, h4⟩ := h
  exact ⟨h2, h1, fun e => h3 e.symm, h4⟩
theorem bad_iff (n : Int) (r : Row) (i : Nat) : Lg.bad n r i = false ↔ okP n (ptAt r i) := by
  unfold Lg.bad Lg.isB okP ptAt
  simp only [Bool.or_eq_false_iff, Bool.not_eq_false', Bool.and_eq_true, decide_eq_true_eq, decide_eq_false_iff_not, beq_eq_false_iff_ne]
  omega
theorem chk_iff (n : Int) (r : Row) : Lg.chk n r = 0 ↔ (1 ≤ n ∧ n ≤ 10) ∧ r.n ≤ 200 ∧ ∀ x ∈ pl r, okP n x := by
  unfold Lg.chk Lg.partiesB
  have h1 : (∀ x ∈ pl r, okP n x) ↔ anyF (Lg.bad n r) r.n 0 = false := by
    rw [anyF_false]
    constructor
    · intro h i _ hi
      rw [bad_iff]
      exact h _ (List.mem_map_of_mem (List.mem_range.mpr (by omega)))
    · intro h x hx
      obtain ⟨i, hi, rfl⟩ := List.mem_map.mp hx
      rw [← bad_iff]
      exact h i (by omega) (by have := List.mem_range.mp hi; omega)
  rw [h1]
  by_cases hn : 1 ≤ n ∧ n ≤ 10
  · rw [show (decide (n ≥ 1) && decide (n ≤ 10)) = true by simp only [Bool.and_eq_true, decide_eq_true_eq]; omega, cond_true]
    by_cases hr : r.n ≤ 200
    · rw [decide_eq_false (show ¬ (r.n : Int) > 200 by omega), cond_false]
      cases anyF (Lg.bad n r) r.n 0
      · exact ⟨fun _ => ⟨hn, hr, rfl⟩, fun _ => rfl⟩
      · exact ⟨fun h => (by cases h), fun h => (by cases h.2.2)⟩
    · rw [decide_eq_true (show (r.n : Int) > 200 by omega), cond_true]
      exact ⟨fun h => (by cases h), fun h => absurd h.2.1 hr⟩
  · rw [show (decide (n ≥ 1) && decide (n ≤ 10)) = false by
      rw [Bool.and_eq_false_iff, decide_eq_false_iff_not, decide_eq_false_iff_not]; omega, cond_false]
    exact ⟨fun h => (by cases h), fun h => absurd h.1 hn⟩
theorem setI0 (r : Row) (e : Nat) (x : Int) (p : Nat) : (r.setI e 0 x).I p 0 = if p = e then x else r.I p 0 := by
  show (bif Nat.beq p e && Nat.beq 0 0 then x else r.I p 0) = _
  by_cases h : p = e
  · subst h
    rw [if_pos rfl, Nat.beq_refl]
    rfl
  · rw [if_neg h]
    have : Nat.beq p e = false := by
      cases hx : Nat.beq p e
      · rfl
      · exact absurd (Nat.eq_of_beq_eq_true hx) h
    rw [this]
    rfl
theorem book_I {n : Int} {r o : Row} {j : Nat} {B : Int} (h : okP n (ptAt r j)) (hB : B ≤ 1000000000000000) (ho : ∀ p, -B ≤ o.I p 0 ∧ o.I p 0 ≤ B) (p : Nat) : (Lg.book r j o).I p 0 = o.I p 0 + dl (ptAt r j) p := by
  obtain ⟨⟨f0, f1⟩, ⟨t0, t1⟩, hne, c0, c1⟩ := h
  unfold ptAt at *
  dsimp only at *
  unfold Lg.book Lg.book1
  simp only [Nat.zero_add, setI0, dl, ptAt]
  generalize r.I j 0 = f at *
  generalize r.I j 1 = t at *
  generalize r.I j 2 = c at *
  have hp := ho p
  have hf := ho f.toNat
  have ht := ho t.toNat
  obtain ⟨f, rfl⟩ := Int.eq_ofNat_of_zero_le f0
  obtain ⟨t, rfl⟩ := Int.eq_ofNat_of_zero_le t0
  rw [Int.toNat_natCast] at hf ht
  simp only [Int.toNat_natCast, Nat.zero_add]
  rw [show IntKind.i64.wrap (o.I f 0 - c) = o.I f 0 - c from wrap64 (by omega) (by omega), if_neg (show ¬ t = f by omega), show IntKind.i64.wrap (o.I t 0 + c) = o.I t 0 + c from wrap64 (by omega) (by omega)]
  by_cases h1 : p = t
  · subst h1
    rw [if_pos rfl, if_pos rfl, if_neg (by omega)]
    omega
  · rw [if_neg h1, if_neg (show ¬ (t : Int) = (p : Int) by omega)]
    by_cases h2 : p = f
    · subst h2
      rw [if_pos rfl, if_pos rfl]
      omega
    · rw [if_neg h2, if_neg (show ¬ (f : Int) = (p : Int) by omega)]
      omega
theorem dl_range {n : Int} {x : Pt} (h : okP n x) (p : Int) : -1000000000 ≤ dl x p ∧ dl x p ≤ 1000000000 := by
  obtain ⟨_, _, hne, c0, c1⟩ := h
  unfold dl
  split <;> split <;> omega
theorem books_I {n : Int} {r : Row} : ∀ (m j : Nat) (o : Row) (B : Int), (∀ i, j ≤ i → i < j + m → okP n (ptAt r i)) → B + m * 1000000000 ≤ 1000000000000000 → (∀ p, -B ≤ o.I p 0 ∧ o.I p 0 ≤ B) → ∀ p : Nat, (Lg.books r m j o).I p 0 = o.I p 0 + bl ((List.range' j m).map (ptAt r)) p
  | 0, j, o, B, _, _, _, p => by simp [Lg.books, bl]
  | m + 1, j, o, B, h, hB, ho, p => by
    have hj := h j (Nat.le_refl _) (by omega)
    have hs := book_I (r := r) (o := o) (j := j) hj (by omega) ho
    unfold Lg.books
    rw [books_I m (j + 1) _ (B + 1000000000) (fun i h1 h2 => h i (by omega) (by omega)) (by omega) (fun q => by
      rw [hs q]
      have := ho q
      have := dl_range hj q
      omega) p, hs p, List.range'_succ]
    simp only [List.map_cons, bl]
    omega
theorem bal_I {n : Int} {r : Row} (h : Lg.chk n r = 0) : (Lg.bal n r).n = n.toNat ∧ ∀ p : Nat, (Lg.bal n r).I p 0 = bl (pl r) p := by
  obtain ⟨_, h2, h3⟩ := (chk_iff n r).mp h
  unfold Lg.bal
  rw [h, show ((0 : Int) != 0) = false from rfl, cond_false]
  refine ⟨rfl, fun p => ?_⟩
  rw [show (winOf (Lg.books r r.n 0 (Row.zeros n.toNat)) 0 n.toNat).I p 0 = (Lg.books r r.n 0 (Row.zeros n.toNat)).I p 0 from rfl, books_I (n := n) r.n 0 _ 0 (fun i _ hi => h3 _ (List.mem_map_of_mem (List.mem_range.mpr (by omega)))) (by omega) (fun p => by
    show (0 : Int) ≤ 0 ∧ (0 : Int) ≤ 0
    omega) p]
  rw [show (Row.zeros n.toNat).I p 0 = 0 from rfl, Int.zero_add, ← List.range_eq_range']
  rfl
theorem pl_win (r : Row) (k : Nat) : pl (winOf r 0 k) = (List.range k).map (ptAt r) := rfl
theorem pl_app (r s : Row) : pl (winOf (r.app s) 0 (r.n + s.n)) = pl r ++ pl s := by
  rw [pl_win, List.range_add, List.map_append, List.map_map]
  congr 1
  · refine List.map_congr_left fun i hi => ?_
    have hi := List.mem_range.mp hi
    have hb : Nat.blt i r.n = true := by rw [Nat.blt_eq]; exact hi
    unfold ptAt
    simp only [show ∀ q, (r.app s).I i q = r.I i q from fun q => by show (bif Nat.blt i r.n then r.I i q else s.I (i - r.n) q) = _; rw [hb, cond_true]]
  · refine List.map_congr_left fun i hi => ?_
    have hb : Nat.blt (r.n + i) r.n = false := by
      cases hx : Nat.blt (r.n + i) r.n
      · rfl
      · rw [Nat.blt_eq] at hx; omega
    show ptAt (r.app s) (r.n + i) = ptAt s i
    unfold ptAt
    simp only [show ∀ q, (r.app s).I (r.n + i) q = s.I i q from fun q => by show (bif Nat.blt (r.n + i) r.n then r.I (r.n + i) q else s.I (r.n + i - r.n) q) = _; rw [hb, cond_false, show r.n + i - r.n = i by omega]]
theorem pl_pk (l : Row) (i : Nat) : pl (pk1 l i) = [sw (ptAt l i)] := rfl
theorem bkR_pl (l : Row) : ∀ (m k : Nat) (bk : Row), bk.n = k → pl (winOf (bkR l m k bk) 0 (k + m)) = pl (winOf bk 0 k) ++ ((List.range m).reverse.map fun i => sw (ptAt l i))
  | 0, k, bk, h => by simp [bkR]
  | m + 1, k, bk, h => by
    unfold bkR
    rw [show k + (m + 1) = (k + 1) + m by omega, bkR_pl l m (k + 1) _ rfl]
    have h1 : pl (winOf ((winOf bk 0 k).app (pk1 l m)) 0 (k + 1)) = pl (winOf bk 0 k) ++ pl (pk1 l m) := pl_app (winOf bk 0 k) (pk1 l m)
    rw [h1, pl_pk, List.range_succ, List.reverse_append, List.append_assoc]
    rfl
theorem backR_pl (l : Row) (L : Nat) (h : 0 < L) : pl (winOf (backR l L) 0 L) = ((List.range L).map (ptAt l)).reverse.map sw := by
  unfold backR
  obtain ⟨k, rfl⟩ : ∃ k, L = k + 1 := ⟨L - 1, by omega⟩
  have := bkR_pl l k 1 (Row.nil.app (pk1 l k)) rfl
  rw [show k + 1 = 1 + k by omega, show 1 + k - 1 = k by omega, this]
  have h1 : pl (winOf (Row.nil.app (pk1 l k)) 0 1) = [sw (ptAt l k)] := pl_app Row.nil (pk1 l k)
  rw [h1, show 1 + k = k + 1 by omega, List.range_succ, List.map_append, List.reverse_append, List.map_append]
  simp [Function.comp_def]
end Go.Proofs.YtpblmkephkhlkaaDoor
/- Package ledger: Settle's inner function: the first party of a group whose balance has a sign. No conditions. -/
namespace Go.Proofs.YtpblmkephkhlkaaDoor
open Go.Ev
set_option linter.all false
def ksS : List CK := [.slice ks1]
/-- The first party of a group whose balance has a sign; -1: there is none. -/
def ffF (l g : Row) (gr sg : Int) : Nat → Nat → Int
  | 0, _ => -1
  | m + 1, j => if g.I j 0 = gr ∧ wi (l.I j 0 * sg) > 0 then (j : Int) else ffF l g gr sg m (j + 1)
theorem ffF_ge (l g : Row) (gr sg : Int) : ∀ m j, ffF l g gr sg m j = -1 ∨ (j : Int) ≤ ffF l g gr sg m j
  | 0, j => .inl rfl
  | m + 1, j => by
    unfold ffF
    split
    · right; omega
    · rcases ffF_ge l g gr sg m (j + 1) with h | h
      · exact .inl h
      · right; omega
def Sf (gr sg : Int) (n len : Nat) (j : Int) (l g : Row) : St := ⟨[i64 gr, i64 sg] ++ us 1 ++ [.pointer (some ⟨0, 0, some 0⟩)] ++ us 5 ++ [sl 1 n, i64 len, i64 j] ++ us 18, [[]], [some (.row ksS false g), Rb false l]⟩
def Sfr (j : Int) : St := ⟨us 6 ++ [i64 j] ++ us 23, [[]], []⟩
def Sfx : St := ⟨us 30, [[]], []⟩
def Gf (cd : Nat → Int → Nat → Bool) : List It → (X → St → Option (List D)) → Option (List D)
  | [.i gr, .i sg, .n n, .i len, .r g, .r l], k => br (cd n len (g.R 0 0).n) (br (decide (0 ≤ ffF l (g.R 0 0) gr sg n 0)) (k .ret (Sfr (ffF l (g.R 0 0) gr sg n 0))) (k (.exit 0) Sfx)) none
  | _, _ => none
def lf (cd : Nat → Int → Nat → Bool) : LoopC where
  f := 32
  id := 2
  lv := [0, 1, 3, 9, 10, 11]
  lx := [6]
  p := { τ := [.v (.int .i64), .v (.int .i64)] ++ pu 1 ++ [.v (.ptr 0 0)] ++ pu 5 ++ [.v (.sl 1), .v (.int .i64), .v (.c (i64 0))] ++ pu 18, saved := [[]], mem := [.row ksS false, .row ks1 false] }
  G := fun its => match its with
    | [.i gr, .i sg, .n 0, .n n, .i len, .r g, .r l] => Gf cd [.i gr, .i sg, .n n, .i len, .r g, .r l]
    | _ => fun _ => none
noncomputable def Cfg (cd : Nat → Int → Nat → Bool) : Cx := mkCx Tryd.prog fns [] [lf cd]
theorem roundf (cd : Nat → Int → Nat → Bool) (R : St → Option (List D)) (K : X → St → Option (List D)) (p : Nat) (gr sg : Int) (n len : Nat) (j : Int) (l g : Row) : evCode (Cfg cd) 32 true (inl (Cfg cd) (p + 4)) (lbody (Cfg cd).P 32 2) (Sf gr sg n len j l g) (rnd [0, 1, 3, 9, 10, 11] (some [6]) R K) =
    br (decide (j < (len : Int))) (br (decide (0 ≤ j) && decide (j < (n : Int))) (br (decide (0 ≤ j) && decide (j < ((g.R 0 0).n : Int))) (br ((g.R 0 0).I (0 + j.toNat) 0 == gr) (br (decide (wi (l.I (0 + j.toNat) 0 * sg) > 0)) (K .ret (Sfr j)) (R (Sf gr sg n len (wi (j + 1)) l g))) (R (Sf gr sg n len (wi (j + 1)) l g))) none) none) (K (.exit 0) Sfx) := by kernel_rfl
def inf (n : Nat) (len : Int) (m : Nat) : Bool := decide (len = n ∧ n ≤ 1000 ∧ n ≤ m)
noncomputable def Cf : Cx := Cfg inf
theorem gof {f : St → (X → St → Option (List D)) → Option (List D)} {lv : List Tmp} {lx : Option (List Tmp)} {gr sg : Int} {n : Nat} {l g : Row} (hn : n ≤ 1000) (hg : n ≤ (g.R 0 0).n)
    (hr : ∀ (j : Int) R K, f (Sf gr sg n n j l g) (rnd lv lx R K) = br (decide (j < (n : Int))) (br (decide (0 ≤ j) && decide (j < (n : Int))) (br (decide (0 ≤ j) && decide (j < ((g.R 0 0).n : Int))) (br ((g.R 0 0).I (0 + j.toNat) 0 == gr) (br (decide (wi (l.I (0 + j.toNat) 0 * sg) > 0)) (K .ret (Sfr j)) (R (Sf gr sg n n (wi (j + 1)) l g))) (R (Sf gr sg n n (wi (j + 1)) l g))) none) none) (K (.exit 0) Sfx)) (K : X → St → Option (List D)) :
    ∀ (m fu j : Nat), j + m = n → m < fu → rounds lv lx f fu (Sf gr sg n n j l g) K = br (decide (0 ≤ ffF l (g.R 0 0) gr sg m j)) (K .ret (Sfr (ffF l (g.R 0 0) gr sg m j))) (K (.exit 0) Sfx)
  | 0, fu + 1, j, h0, h1 => by
    rw [rnds1, hr, decide_eq_false (show ¬ (j : Int) < (n : Int) by omega), br_false]
    rfl
  | m + 1, fu + 1, j, h0, h1 => by
    rw [rnds1, hr, show (decide (0 ≤ (j : Int)) && decide ((j : Int) < (n : Int))) = true by simp only [Bool.and_eq_true, decide_eq_true_eq]; omega, show (decide (0 ≤ (j : Int)) && decide ((j : Int) < ((g.R 0 0).n : Int))) = true by simp only [Bool.and_eq_true, decide_eq_true_eq]; omega,
      decide_eq_true (show (j : Int) < (n : Int) by omega), br_true, br_true, br_true, Int.toNat_natCast, Nat.zero_add, wiN (n := (j : Int) + 1) (by omega) (by omega), show (j : Int) + 1 = ((j + 1 : Nat) : Int) by omega]
    have ih := gof hn hg hr K m fu (j + 1) (by omega) (by omega)
    unfold ffF
    by_cases c1 : (g.R 0 0).I j 0 = gr
    · rw [show ((g.R 0 0).I j 0 == gr) = true by simpa using c1, br_true]
      by_cases c2 : wi (l.I j 0 * sg) > 0
      · rw [decide_eq_true c2, br_true, if_pos ⟨c1, c2⟩, decide_eq_true (show (0 : Int) ≤ (j : Int) by omega), br_true]
      · rw [decide_eq_false c2, br_false, if_neg (fun h => c2 h.2)]
        exact ih
    · rw [show ((g.R 0 0).I j 0 == gr) = false by simpa using c1, br_false, if_neg (fun h => c1 h.1)]
      exact ih
set_option maxRecDepth 100000 in
theorem loopf : LoopOk Cf (lf inf) := ⟨by kernel_rfl, fun q its k rr h => by
  show rounds [0, 1, 3, 9, 10, 11] (some [6]) (evCode Cf 32 true (inl Cf (q + 4)) (lbody Cf.P 32 2)) 18446744073709551616 (Go.Ev.bst (lf inf).p its) k = some rr
  change (match its with
    | [.i gr, .i sg, .n 0, .n n, .i len, .r g, .r l] => Gf inf [.i gr, .i sg, .n n, .i len, .r g, .r l]
    | _ => fun _ => none) k = some rr at h
  split at h
  · rename_i gr sg n len g l
    change br (inf n len (g.R 0 0).n) _ _ = _ at h
    rcases br_some h with ⟨h1, h2⟩ | ⟨_, h2⟩
    · have h1 := of_decide_eq_true h1
      obtain ⟨rfl, h3, h4⟩ := h1
      rw [← h2]
      exact gof h3 h4 (fun j R K => roundf inf R K q gr sg n n j l g) k n _ 0 (by omega) (by omega)
    · cases h2
  · cases h⟩
theorem Cf_ok : CxOk Cf := mkCx_ok enter mixed (fun p h => by cases h) (fun l h => by
  simp only [List.mem_cons, List.not_mem_nil, or_false] at h
  rcases h with rfl
  exact loopf)
theorem tfirst (cd : Nat → Int → Nat → Bool) (gr sg : Int) (l g : Row) : evF (Cfg cd) 6 32 [.v (i64 gr), .v (i64 sg), .ptr ksS l, .ptr ksS g] = br (cd (l.R 0 0).n (l.R 0 0).n (g.R 0 0).n) (br (decide (0 ≤ ffF (l.R 0 0) (g.R 0 0) gr sg (l.R 0 0).n 0)) (some [.v (i64 (ffF (l.R 0 0) (g.R 0 0) gr sg (l.R 0 0).n 0))]) (some [.v (i64 (-1))])) none := by kernel_rfl
def Ffirst : List D → Option (Bool × List D)
  | [.v (.int .i64 gr), .v (.int .i64 sg), .ptr [.slice [.int .i64]] l, .ptr [.slice [.int .i64]] g] => some (decide ((l.R 0 0).n ≤ 1000 ∧ (l.R 0 0).n ≤ (g.R 0 0).n), [.v (i64 (ffF (l.R 0 0) (g.R 0 0) gr sg (l.R 0 0).n 0))])
  | _ => none
theorem den_first : Den Tryd.prog 32 Ffirst := evF_den Cf_ok fun ds rs h => by
  unfold Ffirst at h
  split at h
  · rename_i gr sg l g
    simp only [Option.some.injEq, Prod.mk.injEq] at h
    obtain ⟨h0, rfl⟩ := h
    have h0 := of_decide_eq_true h0
    refine (tfirst inf gr sg l g).trans ?_
    rw [show inf (l.R 0 0).n (l.R 0 0).n (g.R 0 0).n = true from decide_eq_true ⟨rfl, h0.1, h0.2⟩, br_true]
    rcases ffF_ge (l.R 0 0) (g.R 0 0) gr sg (l.R 0 0).n 0 with h | h
    · rw [h]; rfl
    · rw [decide_eq_true (show 0 ≤ ffF (l.R 0 0) (g.R 0 0) gr sg (l.R 0 0).n 0 by omega), br_true]
  · cases h
end Go.Proofs.YtpblmkephkhlkaaDoor
/- Package ledger: Settle: its loops. No conditions. -/
namespace Go.Proofs.YtpblmkephkhlkaaDoor.Se
open Go.Ev
set_option linter.all false
def fnf (a b : Nat) : Value := .func (.func 32) #[] #[.pointer (some ⟨a, 0, some 0⟩), .pointer (some ⟨b, 0, some 0⟩)]
def fw (l g : Row) (nl ng : Nat) (gr sg : Int) : Int := ffF (winOf l 0 nl) (winOf g 0 ng) gr sg nl 0
def mnI (x y : Int) : Int := if y < x then y else x
/-- What is paid at once. -/
def ceI (l : Row) (fr to : Int) : Int := mnI (l.I (0 + fr.toNat) 0) (wi (0 - l.I (0 + to.toNat) 0))
def l1U (l : Row) (fr : Int) (c : Int) : Row := l.setI (0 + fr.toNat) 0 (wi (l.I (0 + fr.toNat) 0 - c))
def l2U (l : Row) (fr to : Int) (c : Int) : Row := (l1U l fr c).setI (0 + to.toNat) 0 (wi ((l1U l fr c).I (0 + to.toNat) 0 + c))
def pyR (fr to c : Int) : Row := winOf ((((Row.zeros 1).setI 0 0 fr).setI 0 1 to).setI 0 2 c) 0 1
def oU (o : Row) (k : Nat) (p : Row) : Row := match k with
  | 0 => Row.nil.app p
  | k + 1 => (winOf o 0 (k + 1)).app p
def S8a (nl ng : Nat) (m j : Int) (l g : Row) : St := ⟨us 6 ++ [.pointer (some ⟨0, 0, some 0⟩), fnf 0 1, .slice none 0 0] ++ us 17 ++ [i64 m, i64 j] ++ us 46, [[]], [some (.box [sl 2 nl]), some (.box [sl 3 ng]), Rb true l, Rb true g]⟩
def S8b (nl ng k : Nat) (m j : Int) (l g o : Row) : St := ⟨us 6 ++ [.pointer (some ⟨0, 0, some 0⟩), fnf 0 1, sl 2 k] ++ us 17 ++ [i64 m, i64 j] ++ us 46, [[]], [some (.box [sl 3 nl]), some (.box [sl 4 ng]), some (.row Lg.ks3 true o), Rb true l, Rb true g]⟩
def S8 (nl ng k : Nat) (m j : Int) (l g o : Row) : St := match k with
  | 0 => S8a nl ng m j l g
  | k + 1 => S8b nl ng (k + 1) m j l g o
def S8x (k : Nat) (o : Row) : St := match k with
  | 0 => ⟨us 8 ++ [.slice none 0 0] ++ us 65, [[]], []⟩
  | k + 1 => ⟨us 8 ++ [sl 0 (k + 1)] ++ us 65, [[]], [some (.row Lg.ks3 true o)]⟩
def S11a (nl ng : Nat) (gr fr m j : Int) (l g : Row) : St := ⟨us 6 ++ [.pointer (some ⟨0, 0, some 0⟩), fnf 0 1, .slice none 0 0, i64 gr, i64 fr] ++ us 15 ++ [i64 m, i64 j] ++ us 46, [[]], [some (.box [sl 2 nl]), some (.box [sl 3 ng]), Rb true l, Rb true g]⟩
def S11b (nl ng k : Nat) (gr fr m j : Int) (l g o : Row) : St := ⟨us 6 ++ [.pointer (some ⟨0, 0, some 0⟩), fnf 0 1, sl 2 k, i64 gr, i64 fr] ++ us 15 ++ [i64 m, i64 j] ++ us 46, [[]], [some (.box [sl 3 nl]), some (.box [sl 4 ng]), some (.row Lg.ks3 true o), Rb true l, Rb true g]⟩
def S11 (nl ng k : Nat) (gr fr m j : Int) (l g o : Row) : St := match k with
  | 0 => S11a nl ng gr fr m j l g
  | k + 1 => S11b nl ng (k + 1) gr fr m j l g o
abbrev T3 := Option (Nat × Row × Row)
/-- What goes on with payments: with none, or with some. -/
def selO (x : T3) (a : Row → Option (List D)) (b : Nat → Row → Row → Option (List D)) : Option (List D) := match x with
  | some (0, l, _) => a l
  | some (k + 1, l, o) => b (k + 1) l o
  | none => none
theorem selO_some {k : Nat} {l o : Row} {a : Row → Option (List D)} {b : Nat → Row → Row → Option (List D)} {f : Nat → Row → Row → Option (List D)} (ha : a l = f 0 l o) (hb : ∀ k', b (k' + 1) l o = f (k' + 1) l o) : selO (some (k, l, o)) a b = f k l o := by
  cases k with
  | zero => exact ha
  | succ k => exact hb k
abbrev GS := Nat → Nat → Nat → Int → Int → Row → Row → Row → T3
abbrev G0 := Nat → Nat → Int → Row → Row → T3
def pS (mid : List PV) : List PV := pu 6 ++ [.v (.c (.pointer (some ⟨0, 0, some 0⟩))), .v (.c (fnf 0 1))] ++ mid ++ [.v (.int .i64), .v (.int .i64)] ++ pu 46
def l11a (gs : GS) : LoopC where
  f := 11
  id := 11
  lv := [6, 7, 8, 9, 10, 26, 27]
  lx := [2, 3, 6, 7, 8, 26, 27]
  p := { τ := pS ([.v (.c (.slice none 0 0)), .v (.int .i64), .v (.int .i64)] ++ pu 15), saved := [[]], mem := [.box [.v (.sl 2)], .box [.v (.sl 3)], .row ks1 true, .row ks1 true] }
  G := fun its k => match its with
    | [.i gr, .i fr, .i m, .i j, .n nl, .n ng, .r l, .r g] => selO (gs nl ng 0 gr fr l g .nil) (fun l' => k (.exit 2) (S8a nl ng m j l' g)) (fun k' l' o' => k (.exit 2) (S8b nl ng k' m j l' g o'))
    | _ => none
def l11b (gs : GS) : LoopC where
  f := 11
  id := 11
  lv := [6, 7, 8, 9, 10, 26, 27]
  lx := [2, 3, 6, 7, 8, 26, 27]
  p := { τ := pS ([.v (.sl 2), .v (.int .i64), .v (.int .i64)] ++ pu 15), saved := [[]], mem := [.box [.v (.sl 3)], .box [.v (.sl 4)], .row Lg.ks3 true, .row ks1 true, .row ks1 true] }
  G := fun its k => match its with
    | [.n nk, .i gr, .i fr, .i m, .i j, .n nl, .n ng, .r o, .r l, .r g] => match nk with
      | nk + 1 => selO (gs nl ng (nk + 1) gr fr l g o) (fun l' => k (.exit 2) (S8a nl ng m j l' g)) (fun k' l' o' => k (.exit 2) (S8b nl ng k' m j l' g o'))
      | 0 => none
    | _ => none
def l8 (g0 : G0) : LoopC where
  f := 11
  id := 8
  lv := [6, 7, 8, 26, 27]
  lx := [2, 3, 8]
  p := { τ := pu 6 ++ [.v (.c (.pointer (some ⟨0, 0, some 0⟩))), .v (.c (fnf 0 1)), .v (.c (.slice none 0 0))] ++ pu 17 ++ [.v (.int .i64), .v (.c (i64 0))] ++ pu 46, saved := [[]], mem := [.box [.v (.sl 2)], .box [.v (.sl 3)], .row ks1 true, .row ks1 true] }
  G := fun its k => match its with
    | [.i m, .n nl, .n ng, .r l, .r g] => selO (g0 nl ng m l g) (fun _ => k (.exit 0) (S8x 0 .nil)) (fun k' _ o' => match k' with | k' + 1 => k (.exit 0) (S8x (k' + 1) o') | 0 => none)
    | _ => none
noncomputable def C10g (gs : GS) (g0 : G0) : Cx := mkCx2 Tryd.prog fns [(9, Fgroups), (32, Ffirst)] [l11a gs, l8 g0] [l11b gs]
section
variable (gs : GS) (g0 : G0)
def R11 (nl ng k : Nat) (gr fr m j : Int) (l g o : Row) (R : St → Option (List D)) (K : X → St → Option (List D)) : Option (List D) :=
  br (decide (fr ≥ 0)) (br (decide (nl ≤ 1000 ∧ nl ≤ ng)) (br (decide (0 ≤ fr) && decide (fr < (nl : Int))) (br (decide (0 ≤ fw l g nl ng gr (-1)) && decide (fw l g nl ng gr (-1) < (nl : Int))) (br (decide (k + 1 ≤ 10000000000)) (br (decide (0 ≤ fr) && decide (fr < (nl : Int))) (br (decide (0 ≤ fr) && decide (fr < (nl : Int)))
    (br (decide (0 ≤ fw l g nl ng gr (-1)) && decide (fw l g nl ng gr (-1) < (nl : Int))) (br (decide (0 ≤ fw l g nl ng gr (-1)) && decide (fw l g nl ng gr (-1) < (nl : Int))) (br (decide (nl ≤ 1000 ∧ nl ≤ ng))
      (R (S11 nl ng (k + 1) gr (fw (l2U l fr (fw l g nl ng gr (-1)) (ceI l fr (fw l g nl ng gr (-1)))) g nl ng gr 1) m j (l2U l fr (fw l g nl ng gr (-1)) (ceI l fr (fw l g nl ng gr (-1)))) g (oU o k (pyR fr (fw l g nl ng gr (-1)) (ceI l fr (fw l g nl ng gr (-1)))))))
      none) none) none) none) none) none) none) none) none) (K (.exit 2) (S8 nl ng k m j l g o))
set_option maxRecDepth 100000 in
theorem round11a (R : St → Option (List D)) (K : X → St → Option (List D)) (p : Nat) (nl ng : Nat) (gr fr m j : Int) (l g o : Row) : evCode (C10g gs g0) 11 true (inl (C10g gs g0) (p + 4)) (lbody (C10g gs g0).P 11 11) (S11 nl ng 0 gr fr m j l g o) (rnd [6, 7, 8, 9, 10, 26, 27] (some [2, 3, 6, 7, 8, 26, 27]) R K) = R11 nl ng 0 gr fr m j l g o R K := by kernel_rfl
set_option maxRecDepth 100000 in
theorem round11b (R : St → Option (List D)) (K : X → St → Option (List D)) (p : Nat) (nl ng k : Nat) (gr fr m j : Int) (l g o : Row) : evCode (C10g gs g0) 11 true (inl (C10g gs g0) (p + 4)) (lbody (C10g gs g0).P 11 11) (S11 nl ng (k + 1) gr fr m j l g o) (rnd [6, 7, 8, 9, 10, 26, 27] (some [2, 3, 6, 7, 8, 26, 27]) R K) = R11 nl ng (k + 1) gr fr m j l g o R K := by kernel_rfl
def R8 (nl ng k : Nat) (m j : Int) (l g o : Row) (R : St → Option (List D)) (K : X → St → Option (List D)) : Option (List D) :=
  br (decide (j < m)) (br (decide (nl ≤ 1000 ∧ nl ≤ ng)) (selO (gs nl ng k j (fw l g nl ng j 1) l g o) (fun l' => R (S8a nl ng m (wi (j + 1)) l' g)) (fun k' l' o' => R (S8b nl ng k' m (wi (j + 1)) l' g o'))) none) (K (.exit 0) (S8x k o))
theorem round8a (R : St → Option (List D)) (K : X → St → Option (List D)) (p : Nat) (nl ng : Nat) (m j : Int) (l g : Row) : evCode (C10g gs g0) 11 true (inl (C10g gs g0) (p + 4)) (lbody (C10g gs g0).P 11 8) (S8 nl ng 0 m j l g .nil) (rnd [6, 7, 8, 26, 27] (some [2, 3, 8]) R K) = R8 gs nl ng 0 m j l g .nil R K := by kernel_rfl
theorem round8b (R : St → Option (List D)) (K : X → St → Option (List D)) (p : Nat) (nl ng k : Nat) (m j : Int) (l g o : Row) : evCode (C10g gs g0) 11 true (inl (C10g gs g0) (p + 4)) (lbody (C10g gs g0).P 11 8) (S8 nl ng (k + 1) m j l g o) (rnd [6, 7, 8, 26, 27] (some [2, 3, 8]) R K) = R8 gs nl ng (k + 1) m j l g o R K := by kernel_rfl
theorem tsettle (b : Row) : evF (C10g gs g0) 6 11 [.slice ks1 b] =
    br (gpC (winOf b 0 b.n)) (br (ckE (winOf b 0 b.n) != 0) (some [.slice Lg.ks3 .nil, .v (i64 (ckE (winOf b 0 b.n)))]) (br (decide (0 + b.n ≤ 10000000000))
      (selO (g0 (0 + b.n) (gpR (winOf b 0 b.n)).n b.n ((winOf (Row.zeros 0) 0 0).app (winOf b 0 b.n)) (gpR (winOf b 0 b.n))) (fun _ => some [.slice Lg.ks3 .nil, .v (i64 0)]) (fun k' _ o' => match k' with | k' + 1 => some [.slice Lg.ks3 (winOf o' 0 (k' + 1)), .v (i64 0)] | 0 => none)) none)) none := by kernel_rfl
end
end Go.Proofs.YtpblmkephkhlkaaDoor.Se
/- Package ledger: Settle: contract. No conditions. -/
namespace Go.Proofs.YtpblmkephkhlkaaDoor.Se
open Go.Ev
set_option linter.all false
/-- The payments of a group, from the party that pays first on. -/
def inG (g : Row) (nl ng : Nat) (gr : Int) : Nat → Int → Nat → Row → Row → T3
  | 0, fr, k, l, o => if fr < 0 then some (k, l, o) else none
  | f + 1, fr, k, l, o => if fr < 0 then some (k, l, o) else if fw l g nl ng gr (-1) < 0 then none else
    inG g nl ng gr f (fw (l2U l fr (fw l g nl ng gr (-1)) (ceI l fr (fw l g nl ng gr (-1)))) g nl ng gr 1) (k + 1) (l2U l fr (fw l g nl ng gr (-1)) (ceI l fr (fw l g nl ng gr (-1)))) (oU o k (pyR fr (fw l g nl ng gr (-1)) (ceI l fr (fw l g nl ng gr (-1)))))
def gsG : GS := fun nl ng k gr fr l g o => if nl ≤ 1000 ∧ nl ≤ ng ∧ fr < nl ∧ k ≤ 1000000 then inG g nl ng gr 1000 fr k l o else none
/-- The payments of the groups from j on. -/
def outG (g : Row) (nl ng : Nat) : Nat → Nat → Nat → Row → Row → T3
  | 0, _, k, l, o => some (k, l, o)
  | c + 1, j, k, l, o => match gsG nl ng k j (fw l g nl ng j 1) l g o with
    | some (k', l', o') => outG g nl ng c (j + 1) k' l' o'
    | none => none
def g0G : G0 := fun nl ng m l g => if nl ≤ 1000 ∧ nl ≤ ng ∧ 0 ≤ m ∧ m ≤ 1000 then outG g nl ng m.toNat 0 0 l .nil else none
noncomputable def C10 : Cx := C10g gsG g0G
theorem ffF_lt (l g : Row) (gr sg : Int) : ∀ m j, ffF l g gr sg m j < ((j + m : Nat) : Int)
  | 0, j => by unfold ffF; omega
  | m + 1, j => by
    unfold ffF
    split
    · omega
    · have := ffF_lt l g gr sg m (j + 1); omega
theorem fw_lt (l g : Row) (nl ng : Nat) (gr sg : Int) : fw l g nl ng gr sg < (nl : Int) := by
  have := ffF_lt (winOf l 0 nl) (winOf g 0 ng) gr sg nl 0
  unfold fw
  omega
theorem inG_zero {g : Row} {nl ng : Nat} {gr : Int} : ∀ {f : Nat} {fr : Int} {k : Nat} {l o : Row} {k' : Nat} {l' o' : Row}, inG g nl ng gr f fr k l o = some (k', l', o') → k ≤ k' ∧ k' ≤ k + f ∧ (k' = 0 → o' = o)
  | 0, fr, k, l, o, k', l', o', h => by
    unfold inG at h
    split at h
    · cases h; exact ⟨Nat.le_refl _, by omega, fun _ => rfl⟩
    · cases h
  | f + 1, fr, k, l, o, k', l', o', h => by
    unfold inG at h
    split at h
    · cases h; exact ⟨Nat.le_refl _, by omega, fun _ => rfl⟩
    · split at h
      · cases h
      · obtain ⟨h1, h2, h3⟩ := inG_zero h
        exact ⟨by omega, by omega, fun h0 => by omega⟩
theorem go11 {F : St → (X → St → Option (List D)) → Option (List D)} {lv : List Tmp} {lx : Option (List Tmp)} {nl ng : Nat} {gr m j : Int} {g : Row} (h1 : nl ≤ 1000) (h2 : nl ≤ ng)
    (hr : ∀ (k : Nat) (fr : Int) (l o : Row) R K, F (S11 nl ng k gr fr m j l g o) (rnd lv lx R K) = R11 nl ng k gr fr m j l g o R K) (K : X → St → Option (List D)) {k' : Nat} {l' o' : Row} :
    ∀ (f fu : Nat) (fr : Int) (k : Nat) (l o : Row), inG g nl ng gr f fr k l o = some (k', l', o') → fr < nl → k + f ≤ 2000000 → f < fu → rounds lv lx F fu (S11 nl ng k gr fr m j l g o) K = K (.exit 2) (S8 nl ng k' m j l' g o')
  | 0, fu + 1, fr, k, l, o, h, hf, hk, hu => by
    unfold inG at h
    rw [rnds1, hr]
    unfold R11
    split at h
    · cases h
      rw [decide_eq_false (show ¬ fr ≥ 0 by omega), br_false]
    · cases h
  | f + 1, fu + 1, fr, k, l, o, h, hf, hk, hu => by
    unfold inG at h
    rw [rnds1, hr]
    unfold R11
    split at h
    · cases h
      rw [decide_eq_false (show ¬ fr ≥ 0 by omega), br_false]
    · rename_i hfr
      split at h
      · cases h
      · rename_i hto
        have hlt := fw_lt l g nl ng gr (-1)
        rw [show (decide (0 ≤ fr) && decide (fr < (nl : Int))) = true by simp only [Bool.and_eq_true, decide_eq_true_eq]; omega, show (decide (0 ≤ fw l g nl ng gr (-1)) && decide (fw l g nl ng gr (-1) < (nl : Int))) = true by simp only [Bool.and_eq_true, decide_eq_true_eq]; omega,
          decide_eq_true (show fr ≥ 0 by omega), decide_eq_true (show nl ≤ 1000 ∧ nl ≤ ng from ⟨h1, h2⟩), decide_eq_true (show k + 1 ≤ 10000000000 by omega), br_true, br_true, br_true, br_true, br_true, br_true, br_true, br_true, br_true, br_true]
        exact go11 h1 h2 hr K f fu _ (k + 1) _ _ h (fw_lt _ _ _ _ _ _) (by omega) (by omega)
theorem round11 (q : Nat) (nl ng k : Nat) (gr fr m j : Int) (l g o : Row) (R : St → Option (List D)) (K : X → St → Option (List D)) : evCode C10 11 true (inl C10 (q + 4)) (lbody C10.P 11 11) (S11 nl ng k gr fr m j l g o) (rnd [6, 7, 8, 9, 10, 26, 27] (some [2, 3, 6, 7, 8, 26, 27]) R K) = R11 nl ng k gr fr m j l g o R K := by
  cases k with
  | zero => exact round11a gsG g0G R K q nl ng gr fr m j l g o
  | succ k => exact round11b gsG g0G R K q nl ng k gr fr m j l g o
theorem run11 {q nl ng k : Nat} {gr fr m j : Int} {l g o : Row} {K : X → St → Option (List D)} {rr : List D} (h : selO (gsG nl ng k gr fr l g o) (fun l' => K (.exit 2) (S8a nl ng m j l' g)) (fun k' l' o' => K (.exit 2) (S8b nl ng k' m j l' g o')) = some rr) :
    rounds [6, 7, 8, 9, 10, 26, 27] (some [2, 3, 6, 7, 8, 26, 27]) (evCode C10 11 true (inl C10 (q + 4)) (lbody C10.P 11 11)) 18446744073709551616 (S11 nl ng k gr fr m j l g o) K = some rr := by
  unfold gsG at h
  split at h
  · rename_i hc
    obtain ⟨h1, h2, h3, h4⟩ := hc
    cases hi : inG g nl ng gr 1000 fr k l o with
    | none => rw [hi] at h; cases h
    | some x =>
      obtain ⟨k', l', o'⟩ := x
      rw [hi] at h
      rw [go11 h1 h2 (fun k fr l o R K => round11 q nl ng k gr fr m j l g o R K) K 1000 _ fr k l o hi h3 (by omega) (by omega), ← h]
      cases k' <;> rfl
  · cases h
set_option maxRecDepth 100000 in
theorem loop11a : LoopOk C10 (l11a gsG) := ⟨by kernel_rfl, fun q its k rr h => by
  show rounds [6, 7, 8, 9, 10, 26, 27] (some [2, 3, 6, 7, 8, 26, 27]) (evCode C10 11 true (inl C10 (q + 4)) (lbody C10.P 11 11)) 18446744073709551616 (Go.Ev.bst (l11a gsG).p its) k = some rr
  dsimp only [l11a] at h
  split at h
  · rename_i gr fr m j nl ng l g
    exact run11 (k := 0) (o := .nil) h
  · cases h⟩
set_option maxRecDepth 100000 in
theorem loop11b : LoopOk C10 (l11b gsG) := ⟨by kernel_rfl, fun q its k rr h => by
  show rounds [6, 7, 8, 9, 10, 26, 27] (some [2, 3, 6, 7, 8, 26, 27]) (evCode C10 11 true (inl C10 (q + 4)) (lbody C10.P 11 11)) 18446744073709551616 (Go.Ev.bst (l11b gsG).p its) k = some rr
  dsimp only [l11b] at h
  split at h
  · rename_i nk gr fr m j nl ng o l g
    split at h
    · rename_i nk
      exact run11 (k := nk + 1) h
    · cases h
  · cases h⟩
theorem round8 (q : Nat) (nl ng k : Nat) (m j : Int) (l g o : Row) (ho : k = 0 → o = .nil) (R : St → Option (List D)) (K : X → St → Option (List D)) : evCode C10 11 true (inl C10 (q + 4)) (lbody C10.P 11 8) (S8 nl ng k m j l g o) (rnd [6, 7, 8, 26, 27] (some [2, 3, 8]) R K) = R8 gsG nl ng k m j l g o R K := by
  cases k with
  | zero => rw [ho rfl]; exact round8a gsG g0G R K q nl ng m j l g
  | succ k => exact round8b gsG g0G R K q nl ng k m j l g o
theorem gsG_zero {nl ng k : Nat} {gr fr : Int} {l g o : Row} {k' : Nat} {l' o' : Row} (h : gsG nl ng k gr fr l g o = some (k', l', o')) : k ≤ k' ∧ (k' = 0 → o' = o) := by
  unfold gsG at h
  split at h
  · exact ⟨(inG_zero h).1, (inG_zero h).2.2⟩
  · cases h
theorem go8 {q nl ng m : Nat} {g : Row} (h1 : nl ≤ 1000) (h2 : nl ≤ ng) (hm : m ≤ 1000) (K : X → St → Option (List D)) {k' : Nat} {l' o' : Row} :
    ∀ (c fu j k : Nat) (l o : Row), outG g nl ng c j k l o = some (k', l', o') → j + c = m → c < fu → (k = 0 → o = .nil) → (k' = 0 → o' = .nil) ∧ rounds [6, 7, 8, 26, 27] (some [2, 3, 8]) (evCode C10 11 true (inl C10 (q + 4)) (lbody C10.P 11 8)) fu (S8 nl ng k m j l g o) K = K (.exit 0) (S8x k' o')
  | 0, fu + 1, j, k, l, o, h, hj, hu, ho => by
    cases h
    refine ⟨ho, ?_⟩
    rw [rnds1, round8 q nl ng _ m j _ g _ ho]
    unfold R8
    rw [decide_eq_false (show ¬ (j : Int) < (m : Int) by omega), br_false]
  | c + 1, fu + 1, j, k, l, o, h, hj, hu, ho => by
    unfold outG at h
    split at h
    · rename_i k1 l1 o1 hg
      obtain ⟨z1, z2⟩ := gsG_zero hg
      obtain ⟨i1, i2⟩ := go8 (q := q) h1 h2 hm K c fu (j + 1) k1 l1 o1 h (by omega) (by omega) (fun h0 => by rw [z2 h0]; exact ho (by omega))
      refine ⟨i1, ?_⟩
      rw [rnds1, round8 q nl ng k m j l g o ho]
      unfold R8
      rw [decide_eq_true (show (j : Int) < (m : Int) by omega), br_true, decide_eq_true (show nl ≤ 1000 ∧ nl ≤ ng from ⟨h1, h2⟩), br_true, hg, wiN (n := (j : Int) + 1) (by omega) (by omega), show (j : Int) + 1 = ((j + 1 : Nat) : Int) by omega, ← i2]
      cases k1 <;> rfl
    · cases h
set_option maxRecDepth 100000 in
theorem loop8 : LoopOk C10 (l8 g0G) := ⟨by kernel_rfl, fun q its k rr h => by
  show rounds [6, 7, 8, 26, 27] (some [2, 3, 8]) (evCode C10 11 true (inl C10 (q + 4)) (lbody C10.P 11 8)) 18446744073709551616 (Go.Ev.bst (l8 g0G).p its) k = some rr
  dsimp only [l8] at h
  split at h
  · rename_i m nl ng l g
    unfold g0G at h
    split at h
    · rename_i hc
      obtain ⟨h1, h2, h3, h4⟩ := hc
      obtain ⟨m, rfl⟩ := Int.eq_ofNat_of_zero_le h3
      rw [Int.toNat_natCast] at h
      cases hi : outG g nl ng m 0 0 l .nil with
      | none => rw [hi] at h; cases h
      | some x =>
        obtain ⟨k', l', o'⟩ := x
        rw [hi] at h
        obtain ⟨i1, i2⟩ := go8 (q := q) h1 h2 (show m ≤ 1000 by omega) k m 18446744073709551616 0 0 l .nil hi (by omega) (by omega) (fun _ => rfl)
        refine Eq.trans (show _ = _ from i2) ?_
        rw [← h]
        cases k' <;> rfl
    · cases h
  · cases h⟩
theorem C10_ok : CxW C10 Wt := mkCx2_okW enter mixed (fun p h => by
    simp only [List.mem_cons, List.not_mem_nil, or_false] at h
    rcases h with rfl | rfl
    · exact den_groups
    · exact den_first.at _) (fun l h => by
    simp only [List.mem_cons, List.not_mem_nil, or_false] at h
    rcases h with rfl | rfl
    · exact loop11a
    · exact loop8) (fun l h => by
    simp only [List.mem_cons, List.not_mem_nil, or_false] at h
    rcases h with rfl
    exact ⟨loop11b, fun l hl => by cases hl; exact ⟨rfl, rfl⟩⟩)
/-- The payments of a settlement: how many there are, what is left, the payments. -/
def stO (b : Row) : T3 := outG (gpR b) b.n (gpR b).n b.n 0 0 (Row.app (.zeros 0) b) .nil
def stC (b : Row) : Bool := gpC b && (ckE b != 0 || (decide (b.n ≤ (gpR b).n) && (stO b).isSome))
def stR (b : Row) : Row := if ckE b ≠ 0 then .nil else match stO b with
  | some (k + 1, _, o) => winOf o 0 (k + 1)
  | _ => .nil
def Fsettle : List D → Option (Bool × List D)
  | [.slice [.int .i64] b] => some (stC b, [.slice Lg.ks3 (stR b), .v (i64 (ckE b))])
  | _ => none
theorem ck_n {b : Row} (h : ckE b = 0) : 1 ≤ b.n ∧ b.n ≤ 10 := by
  unfold ckE at h
  split at h
  · cases h
  · omega
theorem den_settle : DenW Tryd.prog Wt 11 Fsettle := evF_denW C10_ok fun ds rs h => by
  unfold Fsettle at h
  split at h
  · rename_i b
    simp only [Option.some.injEq, Prod.mk.injEq] at h
    obtain ⟨hc, rfl⟩ := h
    refine (tsettle gsG g0G b).trans ?_
    rw [ckE_win]
    unfold stC at hc
    unfold stR
    simp only [Bool.and_eq_true, Bool.or_eq_true, decide_eq_true_eq] at hc
    obtain ⟨hc1, hc2⟩ := hc
    have hw : gpC (winOf b 0 b.n) = true := by
      unfold gpC at hc1 ⊢
      rw [ckE_win]
      by_cases hk : ckE b = 0
      · rw [win_self (by have := (ck_n hk).1; omega)]; exact hc1
      · rw [show (ckE b != 0) = true by simpa using hk]; rfl
    rw [hw, br_true]
    by_cases hk : ckE b = 0
    · have hn := ck_n hk
      rw [show (ckE b != 0) = false by simpa using hk, br_false, win_self (by omega), Nat.zero_add, decide_eq_true (show b.n ≤ 10000000000 by omega), br_true, if_neg (fun h => h hk)]
      rcases hc2 with h | ⟨h, h'⟩
      · simp [hk] at h
      · have hz : winOf (Row.zeros 0) 0 0 = Row.zeros 0 := rfl
        have hg : g0G b.n (gpR b).n (b.n : Int) ((winOf (Row.zeros 0) 0 0).app b) (gpR b) = stO b := by
          unfold g0G stO
          rw [if_pos ⟨by omega, h, by omega, by omega⟩, Int.toNat_natCast, hz]
        rw [hg]
        cases ho : stO b with
        | none => rw [ho] at h'; cases h'
        | some x =>
          obtain ⟨k, l, o⟩ := x
          rw [hk]
          cases k <;> rfl
    · rw [show (ckE b != 0) = true by simpa using hk, br_true, if_pos hk]
  · cases h
end Go.Proofs.YtpblmkephkhlkaaDoor.Se
/- Sets of parties as numbers; the most groups; the best grouping; no fewer payments. No conditions. -/
namespace Go.Proofs.YtpblmkephkhlkaaDoor.Mk
open Go.Ev
set_option linter.all false
/-- The sum of a set. -/
def sM (f : Nat → Int) (s : Nat) : Nat → Int
  | 0 => 0
  | n + 1 => sM f s n + if s.testBit n = true then f n else 0
theorem sub_bit {g s : Nat} (h : g &&& s = g) {i : Nat} (hi : g.testBit i = true) : s.testBit i = true := by
  have := congrArg (fun x => x.testBit i) h
  simp only [Nat.testBit_and, hi, Bool.true_and] at this
  exact this
theorem sub_of_bit {g s : Nat} (h : ∀ i, g.testBit i = true → s.testBit i = true) : g &&& s = g := by
  apply Nat.eq_of_testBit_eq
  intro i
  rw [Nat.testBit_and]
  cases hg : g.testBit i
  · rfl
  · rw [h i hg]; rfl
theorem sM_ext {f : Nat → Int} {s t : Nat} : ∀ {n : Nat}, (∀ i, i < n → s.testBit i = t.testBit i) → sM f s n = sM f t n
  | 0, _ => rfl
  | n + 1, h => by
    unfold sM
    rw [sM_ext (n := n) (fun i hi => h i (by omega)), h n (by omega)]
theorem sM_zero {f : Nat → Int} : ∀ {n : Nat}, sM f 0 n = 0
  | 0 => rfl
  | n + 1 => by unfold sM; rw [sM_zero (n := n), Nat.zero_testBit]; rfl
theorem sM_xor {f : Nat → Int} {s h : Nat} (hs : h &&& s = h) : ∀ {n : Nat}, sM f (s ^^^ h) n = sM f s n - sM f h n
  | 0 => rfl
  | n + 1 => by
    unfold sM
    rw [sM_xor hs (n := n), Nat.testBit_xor]
    cases h1 : h.testBit n
    · cases h2 : s.testBit n <;> simp <;> omega
    · rw [sub_bit hs h1]; simp; omega
theorem sM_rem {f : Nat → Int} {s t k : Nat} (h : ∀ i, t.testBit i = (s.testBit i && decide (i ≠ k))) (hk : s.testBit k = true) : ∀ {n : Nat}, sM f s n = sM f t n + if k < n then f k else 0
  | 0 => by simp [sM]
  | n + 1 => by
    unfold sM
    rw [sM_rem h hk (n := n), h n]
    by_cases hn : n = k
    · subst hn
      rw [hk, if_neg (show ¬ n < n by omega), if_pos (show n < n + 1 by omega)]; simp
    · rw [decide_eq_true hn, Bool.and_true]
      by_cases hkn : k < n
      · rw [if_pos hkn, if_pos (show k < n + 1 by omega)]; omega
      · rw [if_neg hkn, if_neg (show ¬ k < n + 1 by omega)]; omega
theorem sM_le {f : Nat → Int} {s : Nat} : ∀ {n : Nat}, (∀ i, i < n → -1000000000 ≤ f i ∧ f i ≤ 1000000000) → -1000000000 * (n : Int) ≤ sM f s n ∧ sM f s n ≤ 1000000000 * (n : Int)
  | 0, _ => by simp [sM]
  | n + 1, h => by
    unfold sM
    have h1 := sM_le (f := f) (s := s) (n := n) (fun i hi => h i (by omega))
    have h2 := h n (by omega)
    split <;> omega
/-- The next set within s is the greatest one below. -/
theorem pred_and : ∀ (n s g h : Nat), g ≤ n → g &&& s = g → h &&& s = h → h < g → h ≤ (g - 1) &&& s
  | 0, s, g, h, hn, _, _, hlt => by omega
  | n + 1, s, g, h, hn, hg, hh, hlt => by
    have hg2 : g / 2 &&& s / 2 = g / 2 := by rw [← Nat.and_div_two, hg]
    have hh2 : h / 2 &&& s / 2 = h / 2 := by rw [← Nat.and_div_two, hh]
    have ht : ((g - 1) &&& s) / 2 = (g - 1) / 2 &&& s / 2 := Nat.and_div_two
    have ho : ((g - 1) &&& s) % 2 = 1 ↔ (g - 1) % 2 = 1 ∧ s % 2 = 1 := Nat.and_mod_two_eq_one
    have hs : h % 2 = 1 → s % 2 = 1 := fun h1 => by
      have : (h &&& s) % 2 = 1 := by rw [hh]; exact h1
      exact (Nat.and_mod_two_eq_one.1 this).2
    generalize hT : (g - 1) &&& s = T at ht ho
    rcases Nat.mod_two_eq_zero_or_one g with h0 | h1
    · rw [show (g - 1) / 2 = g / 2 - 1 by omega] at ht
      have ih := pred_and n (s / 2) (g / 2) (h / 2) (by omega) hg2 hh2 (by omega)
      rw [← ht] at ih
      rcases Nat.mod_two_eq_zero_or_one h with h2 | h2
      · omega
      · have := ho.2 ⟨by omega, hs h2⟩
        omega
    · rw [show (g - 1) / 2 = g / 2 by omega, hg2] at ht
      omega
theorem xor_ne {s h : Nat} (h0 : h ≠ 0) : s ^^^ h ≠ s := fun he => h0 (by
  have := congrArg (fun x => s ^^^ x) he
  simp only [← Nat.xor_assoc, Nat.xor_self, Nat.zero_xor] at this
  exact this)
/-- The lowest bit. -/
theorem low_bits {s : Nat} (h0 : s ≠ 0) (h1 : s < 2 ^ 62) : s.testBit (ctzN s) = true ∧ (∀ i, i < ctzN s → s.testBit i = false) ∧ ∀ i, (s &&& (s - 1)).testBit i = (s.testBit i && decide (i ≠ ctzN s)) := by
  have hs : s < 2 ^ 64 := by omega
  obtain ⟨m, e1, e2⟩ := Lib.ctzFrom_spec 64 s (by omega) hs
  have hk : ctzN s = Lib.ctzFrom 64 s := by unfold ctzN Lib.ctz; rw [if_neg h0]
  rw [← hk] at e1 e2
  generalize ctzN s = k at e1 e2 ⊢
  have hp : 0 < 2 ^ k := Nat.two_pow_pos k
  have hb : ∀ i, s.testBit i = if i < k then false else (2 * m + 1).testBit (i - k) := fun i => by
    have := Nat.testBit_two_pow_mul_add (2 * m + 1) (b := 0) (i := k) hp i
    rw [Nat.add_zero, ← e1] at this
    rw [this]
    simp
  have hs1 : s - 1 = 2 ^ k * (2 * m) + (2 ^ k - 1) := by rw [e1, Nat.mul_add, Nat.mul_one]; omega
  have hb1 : ∀ i, (s - 1).testBit i = if i < k then (2 ^ k - 1).testBit i else (2 * m).testBit (i - k) := fun i => by
    rw [hs1]
    exact Nat.testBit_two_pow_mul_add (2 * m) (b := 2 ^ k - 1) (i := k) (by omega) i
  refine ⟨?_, fun i hi => ?_, fun i => ?_⟩
  · rw [hb, if_neg (by omega), Nat.sub_self, Nat.testBit_zero]; exact decide_eq_true (by omega)
  · rw [hb, if_pos hi]
  · rw [Nat.testBit_and, hb, hb1]
    by_cases c : i < k
    · rw [if_pos c]; rfl
    · rw [if_neg c, if_neg c]
      by_cases c2 : i = k
      · subst c2
        rw [Nat.sub_self, Nat.testBit_zero, Nat.testBit_zero, decide_eq_false (show ¬ i ≠ i from fun h => h rfl), Bool.and_false, decide_eq_false (show ¬ 2 * m % 2 = 1 by omega), Bool.and_false]
      · obtain ⟨d, hd⟩ : ∃ d, i - k = d + 1 := ⟨i - k - 1, by omega⟩
        rw [hd, Nat.testBit_succ, Nat.testBit_succ, show (2 * m + 1) / 2 = m by omega, show 2 * m / 2 = m by omega, decide_eq_true c2, Bool.and_true, Bool.and_self]
theorem sI_same (r : Row) (s : Nat) (x : Int) : (r.setI s 0 x).I s 0 = x := by
  show (bif Nat.beq s s && Nat.beq 0 0 then x else _) = x
  rw [Nat.beq_refl]; rfl
theorem sI_ne {r : Row} {e j s : Nat} {x : Int} (h : e ≠ s) : (r.setI s 0 x).I e j = r.I e j := by
  show (bif Nat.beq e s && Nat.beq j 0 then x else _) = _
  have : Nat.beq e s = false := by
    cases hb : Nat.beq e s
    · rfl
    · exact absurd (Nat.eq_of_beq_eq_true hb) h
  rw [this]; rfl
/-- The sets within s are gone through. -/
theorem inn {sm : Row} {s low : Nat} : ∀ (n g : Nat) (ou : Row), g &&& s = g → g < n →
    (∀ e j, e ≠ s → (innR sm s low n g ou).I e j = ou.I e j) ∧ ou.I s 0 ≤ (innR sm s low n g ou).I s 0 ∧
    (∀ h, h ≠ 0 → h &&& s = h → h ≤ g → h.testBit low = true → h ≠ s → sm.I h 0 = 0 → wi (1 + ou.I (s ^^^ h) 0) ≤ (innR sm s low n g ou).I s 0) ∧
    ((innR sm s low n g ou).I s 0 = ou.I s 0 ∨ ∃ h, h ≠ 0 ∧ h &&& s = h ∧ h.testBit low = true ∧ h ≠ s ∧ sm.I h 0 = 0 ∧ (innR sm s low n g ou).I s 0 = wi (1 + ou.I (s ^^^ h) 0))
  | n + 1, g, ou, hg, hn => by
    unfold innR
    by_cases h0 : g = 0
    · rw [if_pos h0]
      exact ⟨fun _ _ _ => rfl, Int.le_refl _, fun h a b c => by omega, .inl rfl⟩
    · rw [if_neg h0]
      have hle : (g - 1) &&& s ≤ g - 1 := Nat.and_le_left
      have hsub : ((g - 1) &&& s) &&& s = (g - 1) &&& s := by rw [Nat.and_assoc, Nat.and_self]
      obtain ⟨i1, i2, i3, i4⟩ := inn (sm := sm) (s := s) (low := low) n ((g - 1) &&& s) (inU sm s low g ou) hsub (by omega)
      have u1 : ∀ e j, e ≠ s → (inU sm s low g ou).I e j = ou.I e j := fun e j he => by
        unfold inU
        split
        · exact sI_ne he
        · rfl
      have u2 : ou.I s 0 ≤ (inU sm s low g ou).I s 0 := by
        unfold inU
        split
        · rw [sI_same]; split <;> omega
        · exact Int.le_refl _
      have u3 : g.testBit low = true → g ≠ s → sm.I g 0 = 0 → wi (1 + ou.I (s ^^^ g) 0) ≤ (inU sm s low g ou).I s 0 := fun a b c => by
        unfold inU
        rw [if_pos ⟨a, b, c⟩, sI_same]
        split <;> omega
      have u4 : (inU sm s low g ou).I s 0 = ou.I s 0 ∨ (g.testBit low = true ∧ g ≠ s ∧ sm.I g 0 = 0 ∧ (inU sm s low g ou).I s 0 = wi (1 + ou.I (s ^^^ g) 0)) := by
        unfold inU
        split
        · rename_i hc
          rw [sI_same]
          split
          · exact .inr ⟨hc.1, hc.2.1, hc.2.2, rfl⟩
          · exact .inl rfl
        · exact .inl rfl
      refine ⟨fun e j he => (i1 e j he).trans (u1 e j he), Int.le_trans u2 i2, fun h a b c d e f => ?_, ?_⟩
      · by_cases hgh : h = g
        · subst hgh
          exact Int.le_trans (u3 d e f) i2
        · have := i3 h a b (pred_and g s g h (Nat.le_refl _) hg b (by omega)) d e f
          rw [u1 _ 0 (xor_ne a)] at this
          exact this
      · rcases i4 with h | ⟨h, a, b, c, d, e, f⟩
        · rcases u4 with h' | ⟨a, b, c, d⟩
          · exact .inl (h.trans h')
          · exact .inr ⟨g, h0, hg, a, b, c, h.trans d⟩
        · rw [u1 _ 0 (xor_ne a)] at f
          exact .inr ⟨h, a, b, c, d, e, f⟩
end Go.Proofs.YtpblmkephkhlkaaDoor.Mk
namespace Go.Proofs.YtpblmkephkhlkaaDoor.Mk
open Go.Ev
set_option linter.all false
def bF (b : Row) : Nat → Int := fun i => b.I i 0
def Sg (b : Row) (s : Nat) : Int := sM (bF b) s b.n
/-- Balances that are not too great, of at most 10 parties. -/
def Fit (b : Row) : Prop := b.n ≤ 10 ∧ ∀ i, i < b.n → -1000000000 ≤ b.I i 0 ∧ b.I i 0 ≤ 1000000000
theorem Fit.sum {b : Row} (h : Fit b) (s : Nat) : -10000000000 ≤ Sg b s ∧ Sg b s ≤ 10000000000 := by
  have h1 := h.1
  have := sM_le (f := bF b) (s := s) (n := b.n) h.2
  unfold Sg
  omega
structure Good (b : Row) (o : Nat → Int) (t : Nat) : Prop where
  zero : t = 0 → o t = 0
  neg : t ≠ 0 → Sg b t ≠ 0 → o t = -1
  pos : t ≠ 0 → Sg b t = 0 → 1 ≤ o t ∧ o t ≤ t
  step : t ≠ 0 → Sg b t = 0 → ∀ h, h ≠ 0 → h &&& t = h → h ≠ t → h.testBit (ctzN t) = true → Sg b h = 0 → 1 + o (t ^^^ h) ≤ o t
  att : t ≠ 0 → Sg b t = 0 → o t = 1 ∨ ∃ h, h ≠ 0 ∧ h &&& t = h ∧ h ≠ t ∧ h.testBit (ctzN t) = true ∧ Sg b h = 0 ∧ o t = 1 + o (t ^^^ h)
theorem Good.congr {b : Row} {o o' : Nat → Int} {t : Nat} (h : Good b o t) (he : ∀ t', t' ≤ t → o' t' = o t') : Good b o' t where
  zero := fun h0 => by rw [he t (Nat.le_refl _)]; exact h.zero h0
  neg := fun h0 h1 => by rw [he t (Nat.le_refl _)]; exact h.neg h0 h1
  pos := fun h0 h1 => by rw [he t (Nat.le_refl _)]; exact h.pos h0 h1
  step := fun h0 h1 g a c d e f => by rw [he t (Nat.le_refl _), he _ (xor_le c)]; exact h.step h0 h1 g a c d e f
  att := fun h0 h1 => by
    rw [he t (Nat.le_refl _)]
    rcases h.att h0 h1 with h2 | ⟨g, a, c, d, e, f, k⟩
    · exact .inl h2
    · exact .inr ⟨g, a, c, d, e, f, by rw [he _ (xor_le c)]; exact k⟩
theorem Good.bound {b : Row} {o : Nat → Int} {t : Nat} (h : Good b o t) : -1 ≤ o t ∧ o t ≤ t := by
  by_cases h0 : t = 0
  · have := h.zero h0; omega
  · by_cases h1 : Sg b t = 0
    · have := h.pos h0 h1; omega
    · have := h.neg h0 h1; omega
theorem xor_lt {s h : Nat} (hs : h &&& s = h) (h0 : h ≠ 0) : s ^^^ h < s := by
  have := xor_le hs
  have := xor_ne (s := s) h0
  omega
theorem sub_lt {s h : Nat} (hs : h &&& s = h) (h0 : h ≠ s) : h < s := by
  have := sub_le hs
  omega
theorem Sg_low {b : Row} (hf : Fit b) {s : Nat} (h0 : s ≠ 0) (h1 : s < 2 ^ b.n) : Sg b s = Sg b (s &&& (s - 1)) + b.I (ctzN s) 0 := by
  have hf1 := hf.1
  have hp : 2 ^ b.n ≤ 2 ^ 10 := Nat.pow_le_pow_right (by decide) hf1
  obtain ⟨k1, k2, k3⟩ := low_bits h0 (by omega)
  have hk := ctz_lt s b.n (by omega) h1 (by omega)
  unfold Sg
  rw [sM_rem k3 k1, if_pos hk]
  rfl
theorem mst_good {b : Row} (hf : Fit b) : ∀ (m s : Nat) (sm ou : Row), 0 < s → s + m = 2 ^ b.n → (∀ t, t < s → sm.I t 0 = Sg b t) → (∀ t, t < s → Good b (fun t => ou.I t 0) t) →
    ∀ t, t < 2 ^ b.n → Good b (fun t => (mstR b m s sm ou).I t 0) t
  | 0, s, sm, ou, h0, hs, h1, h2, t, ht => by unfold mstR; exact h2 t (by omega)
  | m + 1, s, sm, ou, h0, hs, h1, h2, t, ht => by
    have hp : 2 ^ b.n ≤ 2 ^ 10 := Nat.pow_le_pow_right (by decide) hf.1
    have hsl : s < 2 ^ b.n := by omega
    have hlow : s &&& (s - 1) < s := by
      have : s &&& (s - 1) ≤ s - 1 := Nat.and_le_right
      omega
    have hsm : ∀ t, t < s + 1 → (smU b s sm).I t 0 = Sg b t := fun t ht => by
      unfold smU
      by_cases hts : t = s
      · subst hts
        have := hf.sum t
        rw [sI_same, h1 _ hlow]
        rw [Sg_low hf (by omega) hsl] at this ⊢
        exact wiN (by omega) (by omega)
      · rw [sI_ne hts]; exact h1 t (by omega)
    unfold mstR
    refine mst_good hf m (s + 1) _ _ (by omega) (by omega) hsm (fun t ht => ?_) t ht
    have hss : (smU b s sm).I s 0 = Sg b s := hsm s (by omega)
    unfold ouU
    rw [hss]
    by_cases hz : Sg b s = 0
    · rw [if_neg (fun h => h hz)]
      obtain ⟨i1, i2, i3, i4⟩ := inn (sm := smU b s sm) (s := s) (low := ctzN s) (s + 1) s ((ou.setI s 0 (-1)).setI s 0 1) (Nat.and_self s) (by omega)
      rw [sI_same] at i2 i4
      have i5 : ∀ e, e ≠ s → (innR (smU b s sm) s (ctzN s) (s + 1) s ((ou.setI s 0 (-1)).setI s 0 1)).I e 0 = ou.I e 0 := fun e he => by
        rw [i1 e 0 he, sI_ne he, sI_ne he]
      by_cases hts : t = s
      · subst hts
        have hw : ∀ h, h ≠ 0 → h &&& t = h → wi (1 + ((ou.setI t 0 (-1)).setI t 0 1).I (t ^^^ h) 0) = 1 + ou.I (t ^^^ h) 0 ∧ ou.I (t ^^^ h) 0 ≤ ((t ^^^ h : Nat) : Int) ∧ t ^^^ h < t := fun h a c => by
          rw [sI_ne (xor_ne a), sI_ne (xor_ne a)]
          have hx := xor_lt c a
          have hB := (h2 _ hx).bound
          exact ⟨wiN (by omega) (by omega), hB.2, hx⟩
        refine ⟨fun h => by omega, fun _ h => absurd hz h, fun _ _ => ⟨i2, ?_⟩, fun _ _ h a c d e f => ?_, fun _ _ => ?_⟩
        · skip
          rcases i4 with h | ⟨h, a, c, d, e, f, k⟩
          · rw [h]; omega
          · obtain ⟨w1, w2, w3⟩ := hw h a c
            rw [w1] at k
            omega
        · skip
          have := i3 h a c (sub_le c) e d (by rw [hsm h (by have := sub_lt c d; omega)]; exact f)
          rw [(hw h a c).1] at this
          rw [i5 _ (xor_ne a)]
          exact this
        · skip
          rcases i4 with h | ⟨h, a, c, d, e, f, k⟩
          · exact .inl h
          · refine .inr ⟨h, a, c, e, d, ?_, ?_⟩
            · rw [← hsm h (by have := sub_lt c e; omega)]; exact f
            · rw [i5 _ (xor_ne a), ← (hw h a c).1]; exact k
      · exact (h2 t (by omega)).congr fun t' ht' => i5 t' (by omega)
    · rw [if_pos hz]
      by_cases hts : t = s
      · subst hts
        exact ⟨fun h => by omega, fun _ _ => sI_same _ _ _, fun _ h => absurd h hz, fun _ h => absurd h hz, fun _ h => absurd h hz⟩
      · exact (h2 t (by omega)).congr fun t' ht' => sI_ne (by omega)
def mN (b : Row) (s : Nat) : Int := (mostR b).I s 0
theorem most_good {b : Row} (hf : Fit b) {t : Nat} (ht : t < 2 ^ b.n) : Good b (mN b) t := by
  have hp : 0 < 2 ^ b.n := Nat.two_pow_pos _
  exact mst_good hf (2 ^ b.n - 1) 1 _ _ (by omega) (by omega) (fun t ht => by
    obtain rfl : t = 0 := by omega
    unfold Sg
    rw [sM_zero]; rfl) (fun t ht => by
    obtain rfl : t = 0 := by omega
    exact ⟨fun _ => rfl, fun h => absurd rfl h, fun h => absurd rfl h, fun h => absurd rfl h, fun h => absurd rfl h⟩) t ht
end Go.Proofs.YtpblmkephkhlkaaDoor.Mk
namespace Go.Proofs.YtpblmkephkhlkaaDoor.Mk
open Go.Ev
set_option linter.all false
/-- Those of a set that have a label. -/
def clM (c : Nat → Nat) (s q : Nat) : Nat → Nat
  | 0 => 0
  | n + 1 => if s.testBit n = true ∧ c n = q then clM c s q n ||| 2 ^ n else clM c s q n
theorem clM_bit (c : Nat → Nat) (s q i : Nat) : ∀ n, (clM c s q n).testBit i = (decide (i < n) && (s.testBit i && decide (c i = q)))
  | 0 => by simp [clM]
  | n + 1 => by
    unfold clM
    by_cases hi : i = n
    · subst hi
      split
      · rename_i h
        rw [Nat.testBit_or, Nat.testBit_two_pow, h.1, decide_eq_true h.2, decide_eq_true (show i < i + 1 by omega)]
        simp
      · rename_i h
        rw [clM_bit c s q i i, decide_eq_false (show ¬ i < i by omega), Bool.false_and, decide_eq_true (show i < i + 1 by omega), Bool.true_and]
        cases h1 : s.testBit i
        · rfl
        · rw [decide_eq_false (fun h2 => h ⟨h1, h2⟩)]; rfl
    · have e : decide (i < n + 1) = decide (i < n) := by
        by_cases h : i < n
        · rw [decide_eq_true h, decide_eq_true (show i < n + 1 by omega)]
        · rw [decide_eq_false h, decide_eq_false (show ¬ i < n + 1 by omega)]
      split
      · rw [Nat.testBit_or, Nat.testBit_two_pow, clM_bit c s q i n, e, decide_eq_false (show ¬ n = i from fun h => hi h.symm), Bool.or_false]
      · rw [clM_bit c s q i n, e]
def cntB (e : Nat → Bool) : Nat → Nat
  | 0 => 0
  | q + 1 => cntB e q + if e q = true then 1 else 0
theorem cntB_ext {e e' : Nat → Bool} : ∀ {Q}, (∀ q, q < Q → e q = e' q) → cntB e Q = cntB e' Q
  | 0, _ => rfl
  | Q + 1, h => by unfold cntB; rw [cntB_ext (Q := Q) (fun q hq => h q (by omega)), h Q (by omega)]
theorem cntB_none {e : Nat → Bool} : ∀ {Q}, (∀ q, q < Q → e q = false) → cntB e Q = 0
  | 0, _ => rfl
  | Q + 1, h => by unfold cntB; rw [cntB_none (Q := Q) (fun q hq => h q (by omega)), h Q (by omega)]; rfl
theorem cntB_le {e e' : Nat → Bool} : ∀ {Q}, (∀ q, q < Q → e q = true → e' q = true) → cntB e Q ≤ cntB e' Q
  | 0, _ => Nat.le_refl _
  | Q + 1, h => by
    unfold cntB
    have := cntB_le (Q := Q) (fun q hq => h q (by omega))
    have h2 := h Q (by omega)
    by_cases hc : e Q = true
    · rw [if_pos hc, if_pos (h2 hc)]; omega
    · rw [if_neg hc]; omega
theorem cntB_merge {e e' : Nat → Bool} {q0 : Nat} (h : ∀ q, q ≠ q0 → e q = true → e' q = true) : ∀ {Q}, cntB e Q ≤ cntB e' Q + if q0 < Q then 1 else 0
  | 0 => by simp [cntB]
  | Q + 1 => by
    unfold cntB
    by_cases hq : Q = q0
    · subst hq
      have := cntB_merge h (Q := Q)
      rw [if_neg (show ¬ Q < Q by omega)] at this
      rw [if_pos (show Q < Q + 1 by omega)]
      split <;> split <;> omega
    · have := cntB_merge h (Q := Q)
      have e1 : (if q0 < Q + 1 then 1 else 0 : Nat) = if q0 < Q then 1 else 0 := by
        by_cases h : q0 < Q
        · rw [if_pos h, if_pos (show q0 < Q + 1 by omega)]
        · rw [if_neg h, if_neg (show ¬ q0 < Q + 1 by omega)]
      rw [e1]
      by_cases hc : e Q = true
      · rw [if_pos hc, if_pos (h Q hq hc)]; omega
      · rw [if_neg hc]; omega
/-- Labels in use on a set. -/
def use (c : Nat → Nat) (s n : Nat) : Nat → Bool := fun q => decide (clM c s q n ≠ 0)
theorem use_iff {c : Nat → Nat} {s n q : Nat} : use c s n q = true ↔ ∃ i, i < n ∧ s.testBit i = true ∧ c i = q := by
  unfold use
  rw [decide_eq_true_eq]
  constructor
  · intro h
    obtain ⟨i, hi⟩ := Nat.exists_testBit_of_ne_zero h
    rw [clM_bit] at hi
    simp only [Bool.and_eq_true, decide_eq_true_eq] at hi
    exact ⟨i, hi.1, hi.2.1, hi.2.2⟩
  · rintro ⟨i, h1, h2, h3⟩ h
    have := clM_bit c s q i n
    rw [h, Nat.zero_testBit, decide_eq_true h1, h2, decide_eq_true h3] at this
    cases this
theorem lab_le {b : Row} (hf : Fit b) {c : Nat → Nat} (hc : ∀ i, i < b.n → c i < b.n) : ∀ N s, s ≤ N → s < 2 ^ b.n → (∀ q, Sg b (clM c s q b.n) = 0) → Sg b s = 0 ∧ ((cntB (use c s b.n) b.n : Nat) : Int) ≤ mN b s := by
  intro N
  induction N with
  | zero =>
    intro s hs hl hq
    obtain rfl : s = 0 := by omega
    refine ⟨sM_zero, ?_⟩
    rw [cntB_none (fun q _ => by
      cases hu : use c 0 b.n q
      · rfl
      · obtain ⟨i, _, h, _⟩ := use_iff.1 hu
        rw [Nat.zero_testBit] at h; cases h), (most_good hf hl).zero rfl]
    exact Int.le_refl _
  | succ N ih =>
    intro s hs hl hq
    by_cases h0 : s = 0
    · exact ih s (by omega) hl hq
    have hp : 2 ^ b.n ≤ 2 ^ 10 := Nat.pow_le_pow_right (by decide) hf.1
    have hp1 := (low_bits h0 (by omega)).1
    have hpn := ctz_lt s b.n (by omega) hl (by have := hf.1; omega)
    generalize hpe : ctzN s = p at hp1 hpn
    generalize hhe : clM c s (c p) b.n = h
    have hb : ∀ i, h.testBit i = (decide (i < b.n) && (s.testBit i && decide (c i = c p))) := fun i => by rw [← hhe]; exact clM_bit _ _ _ _ _
    have hhp : h.testBit p = true := by rw [hb, decide_eq_true hpn, hp1, decide_eq_true rfl]; rfl
    have hn0 : h ≠ 0 := fun h0 => by rw [h0, Nat.zero_testBit] at hhp; cases hhp
    have hsub : h &&& s = h := sub_of_bit fun i hi => by
      rw [hb] at hi
      simp only [Bool.and_eq_true] at hi
      exact hi.2.1
    have hS : Sg b h = 0 := by rw [← hhe]; exact hq _
    have hlt := xor_lt hsub hn0
    have hcl : ∀ q, clM c (s ^^^ h) q b.n = if q = c p then 0 else clM c s q b.n := fun q => by
      apply Nat.eq_of_testBit_eq
      intro i
      rw [clM_bit, Nat.testBit_xor, hb]
      split
      · rename_i hqp
        subst hqp
        rw [Nat.zero_testBit]
        cases decide (i < b.n) <;> cases s.testBit i <;> cases decide (c i = c p) <;> rfl
      · rename_i hqp
        rw [clM_bit]
        by_cases hci : c i = q
        · rw [decide_eq_true hci, decide_eq_false (fun h => hqp (hci.symm.trans h))]
          cases decide (i < b.n) <;> cases s.testBit i <;> rfl
        · rw [decide_eq_false hci]; simp
    have hsum : Sg b (s ^^^ h) = Sg b s - Sg b h := sM_xor hsub
    obtain ⟨i1, i2⟩ := ih (s ^^^ h) (by omega) (by omega) (fun q => by
      rw [hcl]
      split
      · exact sM_zero
      · exact hq q)
    have hz : Sg b s = 0 := by omega
    refine ⟨hz, ?_⟩
    have hm := cntB_merge (e := use c s b.n) (e' := use c (s ^^^ h) b.n) (q0 := c p) (fun q hqp hu => by
      unfold use at hu ⊢
      rw [hcl, if_neg hqp]
      exact hu) (Q := b.n)
    rw [if_pos (hc p hpn)] at hm
    by_cases hhs : h = s
    · have := ((most_good hf hl).pos h0 hz).1
      have h3 : s ^^^ h = 0 := by rw [hhs]; exact Nat.xor_self s
      have h4 := (most_good hf (t := s ^^^ h) (by omega)).zero h3
      omega
    · have := (most_good hf hl).step h0 hz h hn0 hsub hhs (by rw [hpe]; exact hhp) hS
      omega
/-- The sum of those that have a label. -/
def lS (f : Nat → Int) (c : Nat → Nat) (q : Nat) : Nat → Int
  | 0 => 0
  | n + 1 => lS f c q n + if c n = q then f n else 0
theorem lS_add {f g h : Nat → Int} {c : Nat → Nat} {q : Nat} : ∀ {n}, (∀ i, i < n → h i = f i + g i) → lS h c q n = lS f c q n + lS g c q n
  | 0, _ => rfl
  | n + 1, hh => by
    unfold lS
    rw [lS_add (n := n) (fun i hi => hh i (by omega)), hh n (by omega)]
    split <;> omega
theorem lS_zero {f : Nat → Int} {c : Nat → Nat} {q : Nat} : ∀ {n}, (∀ i, i < n → f i = 0) → lS f c q n = 0
  | 0, _ => rfl
  | n + 1, h => by
    unfold lS
    rw [lS_zero (n := n) (fun i hi => h i (by omega)), h n (by omega)]
    split <;> rfl
theorem lS_one {a : Int} {t : Nat} {c : Nat → Nat} {q : Nat} : ∀ {n}, lS (fun i => if i = t then a else 0) c q n = if t < n ∧ c t = q then a else 0
  | 0 => by simp [lS]
  | n + 1 => by
    unfold lS
    rw [lS_one (n := n)]
    by_cases hn : n = t
    · subst hn
      rw [if_neg (show ¬ (n < n ∧ c n = q) by omega)]
      by_cases hc : c n = q
      · rw [if_pos hc, if_pos (show n < n + 1 ∧ c n = q from ⟨by omega, hc⟩)]; simp
      · rw [if_neg hc, if_neg (show ¬ (n < n + 1 ∧ c n = q) from fun h => hc h.2)]; rfl
    · have e : (if t < n + 1 ∧ c t = q then a else 0) = if t < n ∧ c t = q then a else 0 := by
        by_cases h : t < n ∧ c t = q
        · rw [if_pos h, if_pos (show t < n + 1 ∧ c t = q from ⟨by omega, h.2⟩)]
        · rw [if_neg h, if_neg (show ¬ (t < n + 1 ∧ c t = q) from fun h2 => h ⟨by omega, h2.2⟩)]
      rw [e, if_neg hn]
      split <;> simp
theorem sM_class {f : Nat → Int} {c : Nat → Nat} {s q : Nat} (hz : ∀ i, s.testBit i = false → f i = 0) : ∀ {n k}, k ≤ n → sM f (clM c s q n) k = lS f c q k
  | n, 0, _ => rfl
  | n, k + 1, h => by
    unfold sM lS
    rw [sM_class hz (n := n) (k := k) (by omega), clM_bit, decide_eq_true (show k < n by omega), Bool.true_and]
    cases hs : s.testBit k
    · rw [hz k hs]; simp
    · by_cases hc : c k = q
      · rw [decide_eq_true hc, if_pos hc]; rfl
      · rw [decide_eq_false hc, if_neg hc]; rfl
/-- Labels after payments. -/
def mrg (c : Nat → Nat) (x : Pt) : Nat → Nat := fun i => if c i = c x.2.1.toNat then c x.1.toNat else c i
def labs : List Pt → (Nat → Nat) → Nat → Nat
  | [], c => c
  | x :: xs, c => labs xs (mrg c x)
theorem labs_eq : ∀ (xs : List Pt) (c : Nat → Nat) {i j : Nat}, c i = c j → labs xs c i = labs xs c j
  | [], c, i, j, h => h
  | x :: xs, c, i, j, h => labs_eq xs _ (by unfold mrg; rw [h])
theorem labs_in : ∀ (xs : List Pt) (c : Nat → Nat) (x : Pt), x ∈ xs → labs xs c x.1.toNat = labs xs c x.2.1.toNat
  | y :: xs, c, x, h => by
    unfold labs
    rcases List.mem_cons.1 h with rfl | h
    · refine labs_eq xs _ ?_
      unfold mrg
      rw [if_pos rfl]
      split <;> rfl
    · exact labs_in xs _ x h
theorem labs_lt {n : Nat} : ∀ (xs : List Pt) (c : Nat → Nat), (∀ x, x ∈ xs → okP n x) → (∀ i, i < n → c i < n) → ∀ i, i < n → labs xs c i < n
  | [], c, _, hc => hc
  | x :: xs, c, hx, hc => labs_lt xs _ (fun y hy => hx y (by simp [hy])) (fun i hi => by
    unfold mrg
    split
    · have := (hx x (by simp)).1
      exact hc _ (by omega)
    · exact hc i hi)
theorem labs_cnt {s n : Nat} : ∀ (xs : List Pt) (c : Nat → Nat), cntB (use c s n) n ≤ cntB (use (labs xs c) s n) n + xs.length
  | [], c => Nat.le_refl _
  | x :: xs, c => by
    have h1 := labs_cnt (s := s) (n := n) xs (mrg c x)
    have h2 := cntB_merge (e := use c s n) (e' := use (mrg c x) s n) (q0 := c x.2.1.toNat) (fun q hq hu => by
      obtain ⟨i, a, d, e⟩ := use_iff.1 hu
      refine use_iff.2 ⟨i, a, d, ?_⟩
      unfold mrg
      rw [if_neg (by rw [e]; exact hq), e]) (Q := n)
    unfold labs
    rw [List.length_cons]
    split at h2 <;> omega
theorem lS_dl {n : Nat} {c : Nat → Nat} {q : Nat} {x : Pt} (hx : okP n x) (hc : c x.1.toNat = c x.2.1.toNat) : lS (fun i => dl x i) c q n = 0 := by
  obtain ⟨⟨a1, a2⟩, ⟨a3, a4⟩, _⟩ := hx
  have e : ∀ i : Nat, (if x.2.1 = (i : Int) then x.2.2 else 0) = (if i = x.2.1.toNat then x.2.2 else 0) := fun i => by
    by_cases h : x.2.1 = (i : Int)
    · rw [if_pos h, if_pos (show i = x.2.1.toNat by omega)]
    · rw [if_neg h, if_neg (show ¬ i = x.2.1.toNat by omega)]
  have e' : ∀ i : Nat, -(if x.1 = (i : Int) then x.2.2 else 0) = (if i = x.1.toNat then -x.2.2 else 0) := fun i => by
    by_cases h : x.1 = (i : Int)
    · rw [if_pos h, if_pos (show i = x.1.toNat by omega)]
    · rw [if_neg h, if_neg (show ¬ i = x.1.toNat by omega)]; rfl
  rw [lS_add (f := fun i => if i = x.2.1.toNat then x.2.2 else 0) (g := fun i => if i = x.1.toNat then -x.2.2 else 0) (fun i _ => by
    show dl x i = _
    rw [← e, ← e']
    unfold dl
    omega), lS_one, lS_one, hc]
  by_cases h : c x.2.1.toNat = q
  · rw [if_pos ⟨by omega, h⟩, if_pos ⟨by omega, h⟩]; omega
  · rw [if_neg (fun h2 => h h2.2), if_neg (fun h2 => h h2.2)]; rfl
theorem lS_bl {n : Nat} {c : Nat → Nat} {q : Nat} : ∀ {xs : List Pt}, (∀ x, x ∈ xs → okP n x) → (∀ x, x ∈ xs → c x.1.toNat = c x.2.1.toNat) → lS (fun i => bl xs i) c q n = 0
  | [], _, _ => lS_zero fun i _ => rfl
  | x :: xs, hx, hc => by
    rw [lS_add (f := fun i => dl x i) (g := fun i => bl xs i) (h := fun i => bl (x :: xs) i) (fun i _ => rfl), lS_dl (hx x (by simp)) (hc x (by simp)), lS_bl (fun y hy => hx y (by simp [hy])) (fun y hy => hc y (by simp [hy]))]
    rfl
/-- Those whose balance is not 0. -/
def Nz (b : Row) (s : Nat) : Prop := ∀ i, s.testBit i = (decide (i < b.n) && decide (b.I i 0 ≠ 0))
/-- No fewer payments than parties, less the most groups. -/
theorem fewest {b : Row} (hf : Fit b) {s : Nat} (hs : Nz b s) {xs : List Pt} (hx : ∀ x, x ∈ xs → okP b.n x) (h0 : ∀ i : Nat, i < b.n → b.I i 0 + bl xs i = 0) : ((cntB (fun i => s.testBit i) b.n : Nat) : Int) ≤ mN b s + xs.length := by
  have hl : s < 2 ^ b.n := Nat.lt_pow_two_of_testBit s fun i hi => by rw [hs, decide_eq_false (show ¬ i < b.n by omega)]; rfl
  have hcl := labs_lt xs (fun i => i) hx (fun i hi => hi)
  have hzero : ∀ q, Sg b (clM (labs xs fun i => i) s q b.n) = 0 := fun q => by
    unfold Sg
    have hc := sM_class (f := fun i => if i < b.n then b.I i 0 else 0) (c := labs xs fun i => i) (s := s) (q := q) (fun i hi => by
      rw [hs] at hi
      by_cases hin : i < b.n
      · rw [decide_eq_true hin, Bool.true_and] at hi
        show (if i < b.n then b.I i 0 else 0) = 0
        rw [if_pos hin]
        exact Classical.not_not.1 (of_decide_eq_false hi)
      · exact if_neg hin) (n := b.n) (k := b.n) (Nat.le_refl _)
    have hcongr : ∀ (m k : Nat), k ≤ b.n → sM (bF b) m k = sM (fun i => if i < b.n then b.I i 0 else 0) m k := fun m k => by
      induction k with
      | zero => intro _; rfl
      | succ k ih =>
        intro hk
        unfold sM
        rw [ih (by omega)]
        dsimp only [bF]
        rw [if_pos (show k < b.n by omega)]
    rw [hcongr _ _ (Nat.le_refl _), hc]
    have h1 := lS_add (f := fun i => if i < b.n then b.I i 0 else 0) (g := fun i => bl xs i) (h := fun _ => 0) (c := labs xs fun i => i) (q := q) (n := b.n) (fun i hi => by
      show (0 : Int) = (if i < b.n then b.I i 0 else 0) + bl xs i
      rw [if_pos hi]; exact (h0 i hi).symm)
    rw [lS_zero (fun _ _ => rfl), lS_bl hx (labs_in xs _)] at h1
    omega
  have h1 := (lab_le hf hcl s s (Nat.le_refl _) hl hzero).2
  have h2 := labs_cnt (s := s) (n := b.n) xs (fun i => i)
  have h3 : cntB (fun i => s.testBit i) b.n ≤ cntB (use (fun i => i) s b.n) b.n := cntB_le fun q hq hb => use_iff.2 ⟨q, hq, hb, rfl⟩
  omega
end Go.Proofs.YtpblmkephkhlkaaDoor.Mk
namespace Go.Proofs.YtpblmkephkhlkaaDoor.Mk
open Go.Ev
set_option linter.all false
theorem cntB_lt {e e' : Nat → Bool} {q0 : Nat} : ∀ {Q}, (∀ q, q < Q → e q = true → e' q = true) → q0 < Q → e q0 = false → e' q0 = true → cntB e Q + 1 ≤ cntB e' Q
  | Q + 1, h, hq, h1, h2 => by
    unfold cntB
    by_cases hc : q0 = Q
    · subst hc
      have := cntB_le (Q := q0) (fun q hq => h q (by omega))
      rw [h1, h2, if_neg (by decide), if_pos rfl]
      omega
    · have := cntB_lt (Q := Q) (fun q hq => h q (by omega)) (by omega) h1 h2
      have h3 := h Q (by omega)
      by_cases hc : e Q = true
      · rw [if_pos hc, if_pos (h3 hc)]; omega
      · rw [if_neg hc]; omega
theorem cntB_bound {e : Nat → Bool} : ∀ {Q}, cntB e Q ≤ Q
  | 0 => Nat.le_refl _
  | Q + 1 => by unfold cntB; have := cntB_bound (e := e) (Q := Q); split <;> omega
def pc (t n : Nat) : Nat := cntB (fun i => t.testBit i) n
theorem bit_lt {t n i : Nat} (ht : t < 2 ^ n) (hi : t.testBit i = true) : i < n := by
  by_cases h : i < n
  · exact h
  · rw [Nat.testBit_lt_two_pow (Nat.lt_of_lt_of_le ht (Nat.pow_le_pow_right (by decide) (by omega)))] at hi; cases hi
theorem pc_xor {t h n : Nat} (ht : t < 2 ^ n) (hs : h &&& t = h) (h0 : h ≠ 0) : pc (t ^^^ h) n + 1 ≤ pc t n := by
  obtain ⟨i, hi⟩ := Nat.exists_testBit_of_ne_zero h0
  have hti := sub_bit hs hi
  refine cntB_lt (q0 := i) (fun q _ hq => ?_) (bit_lt ht hti) (by rw [Nat.testBit_xor, hi, hti]; rfl) hti
  rw [Nat.testBit_xor] at hq
  cases h1 : h.testBit q
  · rw [h1, Bool.xor_false] at hq; exact hq
  · exact sub_bit hs h1
theorem mN_pc {b : Row} (hf : Fit b) : ∀ N t, t ≤ N → t < 2 ^ b.n → mN b t ≤ (pc t b.n : Nat) := by
  intro N
  induction N with
  | zero =>
    intro t hN ht
    have := (most_good hf ht).zero (by omega)
    omega
  | succ N ih =>
    intro t hN ht
    have hg := most_good hf ht
    by_cases h0 : t = 0
    · have := hg.zero h0; omega
    · by_cases h1 : Sg b t = 0
      · obtain ⟨i, hi⟩ := Nat.exists_testBit_of_ne_zero h0
        have h2 : 1 ≤ pc t b.n := by
          have := pc_xor ht (Nat.and_self t) h0
          omega
        rcases hg.att h0 h1 with h | ⟨h, a, c, d, e, f, k⟩
        · omega
        · have h3 := xor_lt c a
          have h4 := ih (t ^^^ h) (by omega) (by omega)
          have h5 := pc_xor ht c a
          omega
      · have := hg.neg h0 h1; omega
/-- A group that may be taken. -/
def Cand (m : Row) (rest low h : Nat) : Prop := h ≠ 0 ∧ h &&& rest = h ∧ h &&& low ≠ 0 ∧ 1 ≤ m.I h 0 ∧ m.I (rest ^^^ h) 0 = wi (m.I rest 0 - 1)
theorem bst_cand {m : Row} {rest low : Nat} : ∀ (n g best : Nat), g &&& rest = g → g < n → (best = 0 ∨ Cand m rest low best) →
    (bst m rest low n g best = 0 ∨ Cand m rest low (bst m rest low n g best)) ∧ (best ≠ 0 → bst m rest low n g best ≠ 0) ∧ ∀ h, Cand m rest low h → h ≤ g → bst m rest low n g best ≠ 0
  | n + 1, g, best, hg, hn, hb => by
    unfold bst
    by_cases h0 : g = 0
    · rw [if_pos h0]
      exact ⟨hb, id, fun h hc hl => by have := hc.1; omega⟩
    · rw [if_neg h0]
      have hle : (g - 1) &&& rest ≤ g - 1 := Nat.and_le_left
      have hsub : ((g - 1) &&& rest) &&& rest = (g - 1) &&& rest := by rw [Nat.and_assoc, Nat.and_self]
      have hu : (bstU m rest low g best = 0 ∨ Cand m rest low (bstU m rest low g best)) ∧ (best ≠ 0 → bstU m rest low g best ≠ 0) ∧ (Cand m rest low g → bstU m rest low g best ≠ 0) := by
        unfold bstU
        split
        · rename_i hc
          refine ⟨hb, id, fun hcg => ?_⟩
          obtain ⟨_, _, c3, c4, c5⟩ := hcg
          rcases hc with h | h | h
          · exact absurd h c3
          · omega
          · exact absurd c5 h
        · rename_i hc
          split
          · refine ⟨.inr ⟨h0, hg, fun h => hc (.inl h), ?_, Classical.not_not.1 fun h => hc (.inr (.inr h))⟩, fun _ => h0, fun _ => h0⟩
            have : ¬ m.I g 0 < 1 := fun h => hc (.inr (.inl h))
            omega
          · rename_i hbn
            exact ⟨hb, id, fun _ h => hbn (.inl h)⟩
      obtain ⟨u1, u2, u3⟩ := hu
      obtain ⟨i1, i2, i3⟩ := bst_cand n ((g - 1) &&& rest) (bstU m rest low g best) hsub (by omega) u1
      refine ⟨i1, fun h => i2 (u2 h), fun h hc hl => ?_⟩
      by_cases hgh : h = g
      · subst hgh
        exact i2 (u3 hc)
      · exact i3 h hc (pred_and g rest g h (Nat.le_refl _) hg hc.2.1 (by omega))
theorem sI_I {r : Row} {e j : Nat} {x : Int} : (r.setI j 0 x).I e 0 = if e = j then x else r.I e 0 := by
  by_cases h : e = j
  · subst h; rw [sI_same, if_pos rfl]
  · rw [sI_ne h, if_neg h]
theorem asR_I (best : Nat) (group : Int) : ∀ (m j : Nat) (o : Row), (asR best group m j o).n = o.n ∧ ∀ p, (asR best group m j o).I p 0 = if j ≤ p ∧ p < j + m ∧ best.testBit p = true then group else o.I p 0
  | 0, j, o => ⟨rfl, fun p => by rw [if_neg (by omega)]; rfl⟩
  | m + 1, j, o => by
    unfold asR
    obtain ⟨i1, i2⟩ := asR_I best group m (j + 1) (if best.testBit j = true then o.setI j 0 group else o)
    refine ⟨i1.trans (by split <;> rfl), fun p => ?_⟩
    rw [i2 p]
    by_cases hp : p = j
    · subst hp
      rw [if_neg (by omega)]
      by_cases hb : best.testBit p = true
      · rw [if_pos hb, if_pos ⟨by omega, by omega, hb⟩, sI_same]
      · rw [if_neg hb, if_neg (fun h => hb h.2.2)]
    · have e1 : (if best.testBit j = true then o.setI j 0 group else o).I p 0 = o.I p 0 := by
        split
        · exact sI_ne hp
        · rfl
      rw [e1]
      by_cases hc : j + 1 ≤ p ∧ p < j + 1 + m ∧ best.testBit p = true
      · rw [if_pos hc, if_pos ⟨by omega, by omega, hc.2.2⟩]
      · rw [if_neg hc, if_neg (fun h => hc ⟨by omega, by omega, h.2.2⟩)]
theorem rsR_I (b : Row) : ∀ (m j : Nat) (x : Nat × Row), (rsR b m j x).2.n = x.2.n ∧ (∀ i, (rsR b m j x).1.testBit i = (x.1.testBit i || (decide (j ≤ i ∧ i < j + m) && decide (b.I i 0 ≠ 0)))) ∧ ∀ p, (rsR b m j x).2.I p 0 = if j ≤ p ∧ p < j + m then -1 else x.2.I p 0
  | 0, j, x => ⟨rfl, fun i => by rw [decide_eq_false (show ¬ (j ≤ i ∧ i < j + 0) by omega)]; simp [rsR], fun p => by rw [if_neg (by omega)]; rfl⟩
  | m + 1, j, x => by
    unfold rsR
    obtain ⟨i1, i2, i3⟩ := rsR_I b m (j + 1) (rsU b j x)
    refine ⟨i1.trans rfl, fun i => ?_, fun p => ?_⟩
    · rw [i2 i]
      have hu : (rsU b j x).1.testBit i = (x.1.testBit i || (decide (i = j) && decide (b.I i 0 ≠ 0))) := by
        unfold rsU
        dsimp only
        split
        · rename_i h
          rw [Nat.testBit_or, Nat.testBit_two_pow]
          by_cases hij : i = j
          · subst hij; rw [decide_eq_true h, decide_eq_true rfl]; rfl
          · rw [decide_eq_false hij, decide_eq_false (fun h => hij h.symm)]; rfl
        · rename_i h
          by_cases hij : i = j
          · subst hij; rw [decide_eq_false h, Bool.and_false, Bool.or_false]
          · rw [decide_eq_false hij]; simp
      rw [hu, Bool.or_assoc]
      congr 1
      by_cases hij : i = j
      · subst hij
        rw [decide_eq_true rfl, decide_eq_false (show ¬ (i + 1 ≤ i ∧ i < i + 1 + m) by omega), decide_eq_true (show i ≤ i ∧ i < i + (m + 1) by omega)]
        simp
      · rw [decide_eq_false hij]
        by_cases hc : j + 1 ≤ i ∧ i < j + 1 + m
        · rw [decide_eq_true hc, decide_eq_true (show j ≤ i ∧ i < j + (m + 1) by omega)]; simp
        · rw [decide_eq_false hc, decide_eq_false (show ¬ (j ≤ i ∧ i < j + (m + 1)) by omega)]; simp
    · rw [i3 p]
      show _ = _
      have : (rsU b j x).2.I p 0 = if p = j then -1 else x.2.I p 0 := sI_I
      rw [this]
      by_cases hc : j + 1 ≤ p ∧ p < j + 1 + m
      · rw [if_pos hc, if_pos (by omega)]
      · rw [if_neg hc]
        by_cases hp : p = j
        · rw [if_pos hp, if_pos (by omega)]
        · rw [if_neg hp, if_neg (by omega)]
theorem wi_m {b : Row} (hf : Fit b) {t : Nat} (ht : t < 2 ^ b.n) : wi ((mostR b).I t 0 - 1) = mN b t - 1 := by
  have hp : 2 ^ b.n ≤ 2 ^ 10 := Nat.pow_le_pow_right (by decide) hf.1
  have := (most_good hf ht).bound
  exact wiN (by unfold mN at this; omega) (by unfold mN at this; omega)
theorem low_and {s : Nat} (h0 : s ≠ 0) (h1 : s < 2 ^ 62) {h : Nat} (hb : h.testBit (ctzN s) = true) : h &&& lowN s ≠ 0 := by
  have hl : lowN s = 2 ^ ctzN s := (Lib.lowest_bit 64 s h0 (by omega)).1
  intro he
  have := congrArg (fun x => x.testBit (ctzN s)) he
  simp only [hl, Nat.testBit_and, hb, Nat.testBit_two_pow, Nat.zero_testBit, decide_true, Bool.true_and] at this
  cases this
/-- There is a group that may be taken. -/
theorem cand_ex {b : Row} (hf : Fit b) {rest : Nat} (ht : rest < 2 ^ b.n) (h0 : rest ≠ 0) (hz : Sg b rest = 0) : ∃ h, Cand (mostR b) rest (lowN rest) h := by
  have hp : 2 ^ b.n ≤ 2 ^ 10 := Nat.pow_le_pow_right (by decide) hf.1
  have hg := most_good hf ht
  rcases hg.att h0 hz with h | ⟨h, a, c, d, e, f, k⟩
  · refine ⟨rest, h0, Nat.and_self _, low_and h0 (by omega) (low_bits h0 (by omega)).1, ?_, ?_⟩
    · show 1 ≤ mN b rest; omega
    · rw [Nat.xor_self, wi_m hf ht]
      have : mN b 0 = 0 := (most_good hf (t := 0) (by omega)).zero rfl
      show mN b 0 = _
      omega
  · refine ⟨h, a, c, low_and h0 (by omega) e, ?_, ?_⟩
    · exact ((most_good hf (Nat.lt_of_le_of_lt (sub_le c) ht)).pos a f).1
    · rw [wi_m hf ht]
      show mN b (rest ^^^ h) = _
      omega
/-- The label of a party. -/
def lab (o : Row) : Nat → Nat := fun p => (o.I p 0).toNat
/-- What the search comes to. -/
structure Grp (b : Row) (rest g0 : Nat) (o o' : Row) : Prop where
  n : o'.n = o.n
  out : ∀ p, rest.testBit p = false → o'.I p 0 = o.I p 0
  lo : ∀ p, rest.testBit p = true → (g0 : Int) ≤ o'.I p 0
  hi : ∀ p, rest.testBit p = true → o'.I p 0 < g0 + mN b rest
  sum : ∀ q, Sg b (clM (lab o') rest q b.n) = 0
  all : ∀ q, g0 ≤ q → (q : Int) < g0 + mN b rest → use (lab o') rest b.n q = true
theorem grp0 {b : Row} (hf : Fit b) (g0 : Nat) (o : Row) : Grp b 0 g0 o o := by
  have h00 : mN b 0 = 0 := (most_good hf (Nat.two_pow_pos _)).zero rfl
  refine ⟨rfl, fun _ _ => rfl, fun p hp => ?_, fun p hp => ?_, fun q => ?_, fun q _ _ => by omega⟩
  · rw [Nat.zero_testBit] at hp; cases hp
  · rw [Nat.zero_testBit] at hp; cases hp
  · rw [show clM (lab o) 0 q b.n = 0 from Nat.eq_of_testBit_eq fun i => by rw [clM_bit, Nat.zero_testBit]; simp]
    exact sM_zero
theorem grS_spec {b : Row} (hf : Fit b) : ∀ (f rest g0 : Nat) (o : Row), rest < 2 ^ b.n → Sg b rest = 0 → mN b rest ≤ f → ∃ o', grS (mostR b) b.n f rest g0 o = some o' ∧ Grp b rest g0 o o' := by
  intro f
  induction f with
  | zero =>
    intro rest g0 o ht hz hm
    have h0 : rest = 0 := by
      by_cases h : rest = 0
      · exact h
      · have := ((most_good hf ht).pos h hz).1; omega
    subst h0
    exact ⟨o, (by unfold grS; rw [if_pos rfl]), grp0 hf g0 o⟩
  | succ f ih =>
    intro rest g0 o ht hz hm
    unfold grS
    by_cases h0 : rest = 0
    · subst h0
      rw [if_pos rfl]
      exact ⟨o, rfl, grp0 hf g0 o⟩
    · rw [if_neg h0]
      obtain ⟨k1, k2, k3⟩ := bst_cand (m := mostR b) (rest := rest) (low := lowN rest) (rest + 1) rest 0 (Nat.and_self _) (by omega) (.inl rfl)
      obtain ⟨h, hc⟩ := cand_ex hf ht h0 hz
      have hr := k1.resolve_left (k3 h hc (sub_le hc.2.1))
      show ∃ o', grS (mostR b) b.n f (rest ^^^ bst (mostR b) rest (lowN rest) (rest + 1) rest 0) (g0 + 1) (asR (bst (mostR b) rest (lowN rest) (rest + 1) rest 0) g0 b.n 0 o) = some o' ∧ _
      generalize bst (mostR b) rest (lowN rest) (rest + 1) rest 0 = r at hr ⊢
      obtain ⟨r0, rs, rl, rm, rx⟩ := hr
      have hrl : r < 2 ^ b.n := Nat.lt_of_le_of_lt (sub_le rs) ht
      have hrz : Sg b r = 0 := Classical.not_not.1 fun hne => by
        have := (most_good hf hrl).neg r0 hne
        unfold mN at this
        omega
      have hx : mN b (rest ^^^ r) = mN b rest - 1 := by rw [wi_m hf ht] at rx; exact rx
      have hxs : Sg b (rest ^^^ r) = 0 := by
        have : Sg b (rest ^^^ r) = Sg b rest - Sg b r := sM_xor rs
        omega
      obtain ⟨a1, a2⟩ := asR_I r (g0 : Int) b.n 0 o
      obtain ⟨o', e1, e2⟩ := ih (rest ^^^ r) (g0 + 1) (asR r g0 b.n 0 o) (Nat.lt_of_le_of_lt (xor_le rs) ht) hxs (by omega)
      have hin : ∀ p, r.testBit p = true → o'.I p 0 = g0 := fun p hp => by
        rw [e2.out p (by rw [Nat.testBit_xor, hp, sub_bit rs hp]; rfl), a2, if_pos ⟨by omega, by have := bit_lt hrl hp; omega, hp⟩]
      have hcls : ∀ q, clM (lab o') rest q b.n = if q = g0 then r else clM (lab o') (rest ^^^ r) q b.n := fun q => by
        apply Nat.eq_of_testBit_eq
        intro i
        rw [clM_bit]
        split
        · rename_i hq
          subst hq
          cases hri : r.testBit i
          · cases hsi : rest.testBit i
            · simp
            · have := e2.lo i (by rw [Nat.testBit_xor, hri, hsi]; rfl)
              rw [decide_eq_false (show ¬ lab o' i = q by unfold lab; omega)]; simp
          · rw [decide_eq_true (bit_lt hrl hri), sub_bit rs hri, decide_eq_true (show lab o' i = q by unfold lab; rw [hin i hri]; omega)]; rfl
        · rename_i hq
          rw [clM_bit, Nat.testBit_xor]
          cases hri : r.testBit i
          · rw [Bool.xor_false]
          · rw [sub_bit rs hri, decide_eq_false (show ¬ lab o' i = q by unfold lab; rw [hin i hri]; omega)]; simp
      refine ⟨o', e1, e2.n.trans a1, fun p hp => ?_, fun p hp => ?_, fun p hp => ?_, fun q => ?_, fun q h1 h2 => ?_⟩
      · have hrp : r.testBit p = false := by
          cases h : r.testBit p
          · rfl
          · rw [sub_bit rs h] at hp; cases hp
        rw [e2.out p (by rw [Nat.testBit_xor, hp, hrp]; rfl), a2, if_neg (fun h => by rw [hrp] at h; cases h.2.2)]
      · cases hri : r.testBit p
        · have := e2.lo p (by rw [Nat.testBit_xor, hri, hp]; rfl)
          omega
        · rw [hin p hri]; exact Int.le_refl _
      · cases hri : r.testBit p
        · have := e2.hi p (by rw [Nat.testBit_xor, hri, hp]; rfl)
          omega
        · rw [hin p hri]
          have := ((most_good hf ht).pos h0 hz).1
          omega
      · rw [hcls]
        split
        · exact hrz
        · exact e2.sum q
      · unfold use
        rw [hcls]
        by_cases hq : q = g0
        · rw [if_pos hq]; exact decide_eq_true r0
        · rw [if_neg hq]
          exact e2.all q (by omega) (by omega)
end Go.Proofs.YtpblmkephkhlkaaDoor.Mk
namespace Go.Proofs.YtpblmkephkhlkaaDoor.Mk
open Go.Ev
set_option linter.all false
def tot (f : Nat → Int) : Nat → Int
  | 0 => 0
  | n + 1 => tot f n + f n
theorem ckL_spec (b : Row) : ∀ (m j : Nat) (s : Int), (ckL b m j s).1 = false → -1000000000 * (j : Int) ≤ s → s ≤ 1000000000 * (j : Int) → j + m ≤ 10 →
    (∀ i, j ≤ i → i < j + m → -1000000000 ≤ b.I i 0 ∧ b.I i 0 ≤ 1000000000) ∧ (ckL b m j s).2 = s + (tot (bF b) (j + m) - tot (bF b) j)
  | 0, j, s, _, _, _, _ => ⟨fun i h1 h2 => by omega, by show s = _; rw [Nat.add_zero]; omega⟩
  | m + 1, j, s, h, h1, h2, h3 => by
    unfold ckL at h ⊢
    split at h
    · cases h
    · rename_i hb
      rw [if_neg hb]
      have hw : wi (s + b.I j 0) = s + b.I j 0 := wiN (by omega) (by omega)
      rw [hw] at h ⊢
      obtain ⟨i1, i2⟩ := ckL_spec b m (j + 1) (s + b.I j 0) h (by omega) (by omega) (by omega)
      refine ⟨fun i a c => ?_, ?_⟩
      · by_cases hij : i = j
        · subst hij; omega
        · exact i1 i (by omega) (by omega)
      · rw [i2, show j + 1 + m = j + (m + 1) by omega]
        have : tot (bF b) (j + 1) = tot (bF b) j + b.I j 0 := rfl
        omega
theorem ck_fit {b : Row} (h : ckE b = 0) : Fit b ∧ 1 ≤ b.n ∧ tot (bF b) b.n = 0 := by
  unfold ckE at h
  split at h
  · cases h
  · rename_i hn
    split at h
    · cases h
    · rename_i hc
      have h1 : ckB b = false := by
        cases hb : ckB b
        · rfl
        · exact absurd (.inl hb) hc
      have h2 : ckS b = 0 := Classical.not_not.1 fun hs => hc (.inr hs)
      obtain ⟨i1, i2⟩ := ckL_spec b b.n 0 0 h1 (by omega) (by omega) (by omega)
      unfold ckS at h2
      rw [Nat.zero_add] at i2
      refine ⟨⟨by omega, fun i hi => i1 i (by omega) (by omega)⟩, by omega, ?_⟩
      have : tot (bF b) 0 = 0 := rfl
      omega
theorem sM_tot {f : Nat → Int} {s : Nat} : ∀ {n}, (∀ i, i < n → s.testBit i = false → f i = 0) → sM f s n = tot f n
  | 0, _ => rfl
  | n + 1, h => by
    unfold sM tot
    rw [sM_tot (n := n) fun i hi => h i (by omega)]
    cases hs : s.testBit n
    · rw [h n (by omega) hs]; rfl
    · rfl
/-- A grouping of as many groups as there can be. -/
structure GOk (b g : Row) (rest : Nat) : Prop where
  n : g.n = b.n
  nz : Nz b rest
  out : ∀ p, p < b.n → b.I p 0 = 0 → g.I p 0 = -1
  lo : ∀ p, rest.testBit p = true → 0 ≤ g.I p 0
  hi : ∀ p, rest.testBit p = true → g.I p 0 < mN b rest
  sum : ∀ q, Sg b (clM (lab g) rest q b.n) = 0
  all : ∀ q : Nat, (q : Int) < mN b rest → use (lab g) rest b.n q = true
  le : mN b rest ≤ (pc rest b.n : Nat)
theorem groups_ok {b : Row} (h : ckE b = 0) : gpC b = true ∧ ∃ rest, GOk b (gpR b) rest := by
  obtain ⟨hf, hn, ht⟩ := ck_fit h
  obtain ⟨r1, r2, r3⟩ := rsR_I b b.n 0 (0, Row.zeros b.n)
  have hnz : Nz b (rsR b b.n 0 (0, Row.zeros b.n)).1 := fun i => by
    rw [r2 i, Nat.zero_testBit, Bool.false_or]
    congr 1
    by_cases hi : i < b.n
    · rw [decide_eq_true hi, decide_eq_true (by omega)]
    · rw [decide_eq_false hi, decide_eq_false (by omega)]
  have hl : (rsR b b.n 0 (0, Row.zeros b.n)).1 < 2 ^ b.n := by
    have := rsR_lt b b.n 0 (0, Row.zeros b.n) (show 0 < 2 ^ 0 by decide)
    rwa [Nat.zero_add] at this
  have hz : Sg b (rsR b b.n 0 (0, Row.zeros b.n)).1 = 0 := by
    unfold Sg
    rw [sM_tot fun i hi hb => ?_]
    · exact ht
    · rw [hnz, decide_eq_true hi, Bool.true_and] at hb
      exact Classical.not_not.1 (of_decide_eq_false hb)
  have hpc := mN_pc hf _ _ (Nat.le_refl _) hl
  have hpb : pc (rsR b b.n 0 (0, Row.zeros b.n)).1 b.n ≤ b.n := cntB_bound
  have hn1 := hf.1
  obtain ⟨o, e1, e2⟩ := grS_spec hf 64 _ 0 (rsR b b.n 0 (0, Row.zeros b.n)).2 hl hz (by omega)
  have hgo : gpO b = some o := e1
  have hgr : gpR b = winOf o 0 b.n := by unfold gpR; rw [if_neg (fun h' => h' h), hgo]
  have hI : ∀ p, (winOf o 0 b.n).I p 0 = o.I p 0 := fun _ => rfl
  have hlab : lab (winOf o 0 b.n) = lab o := rfl
  refine ⟨?_, (rsR b b.n 0 (0, Row.zeros b.n)).1, ?_⟩
  · unfold gpC
    rw [hgo]
    simp
  · rw [hgr]
    exact {
      n := rfl
      nz := hnz
      out := fun p hp hb => by
        rw [hI, e2.out p (by rw [hnz, hb]; simp), r3, if_pos (by omega)]
      lo := fun p hp => by have := e2.lo p hp; rw [hI]; omega
      hi := fun p hp => by have := e2.hi p hp; rw [hI]; omega
      sum := fun q => by rw [hlab]; exact e2.sum q
      all := fun q hq => by rw [hlab]; exact e2.all q (by omega) (by omega)
      le := hpc }
end Go.Proofs.YtpblmkephkhlkaaDoor.Mk
/- Settle brings all balances to nothing; the law LedgerFewest. No conditions. -/
namespace Go.Proofs.YtpblmkephkhlkaaDoor.Mk
open Go.Ev Se
set_option linter.all false
theorem ffF_win (l g : Row) (a c : Nat) (gr sg : Int) : ∀ m j, ffF (winOf l 0 a) (winOf g 0 c) gr sg m j = ffF l g gr sg m j
  | 0, _ => rfl
  | m + 1, j => by
    unfold ffF
    rw [ffF_win l g a c gr sg m (j + 1)]
    rfl
theorem ffF_spec (l g : Row) (gr sg : Int) : ∀ m j, (ffF l g gr sg m j = -1 ∧ ∀ i, j ≤ i → i < j + m → ¬ (g.I i 0 = gr ∧ wi (l.I i 0 * sg) > 0)) ∨ ∃ i : Nat, j ≤ i ∧ i < j + m ∧ ffF l g gr sg m j = (i : Int) ∧ g.I i 0 = gr ∧ wi (l.I i 0 * sg) > 0
  | 0, j => .inl ⟨rfl, fun i h1 h2 => by omega⟩
  | m + 1, j => by
    unfold ffF
    by_cases hc : g.I j 0 = gr ∧ wi (l.I j 0 * sg) > 0
    · rw [if_pos hc]
      exact .inr ⟨j, by omega, by omega, rfl, hc⟩
    · rw [if_neg hc]
      rcases ffF_spec l g gr sg m (j + 1) with ⟨h1, h2⟩ | ⟨i, h1, h2, h3, h4⟩
      · refine .inl ⟨h1, fun i a b => ?_⟩
        by_cases hij : i = j
        · subst hij; exact hc
        · exact h2 i (by omega) (by omega)
      · exact .inr ⟨i, by omega, by omega, h3, h4⟩
def Bd (l : Row) (n : Nat) : Prop := ∀ i, i < n → -1000000000 ≤ l.I i 0 ∧ l.I i 0 ≤ 1000000000
def gl (g : Row) (gr : Int) : Nat → Nat := fun i => if g.I i 0 = gr then 1 else 0
theorem gl_one {g : Row} {gr : Int} {i : Nat} : gl g gr i = 1 ↔ g.I i 0 = gr := by
  unfold gl
  split <;> simp_all
def gS (l g : Row) (gr : Int) (n : Nat) : Int := lS (bF l) (gl g gr) 1 n
def nzc (l g : Row) (gr : Int) (n : Nat) : Nat := cntB (fun i => decide (g.I i 0 = gr) && decide (l.I i 0 ≠ 0)) n
theorem lS_nonneg {f : Nat → Int} {c : Nat → Nat} {q : Nat} : ∀ {n}, (∀ i, i < n → c i = q → 0 ≤ f i) → 0 ≤ lS f c q n ∧ ∀ i, i < n → c i = q → f i ≤ lS f c q n
  | 0, _ => ⟨Int.le_refl _, fun i h => by omega⟩
  | n + 1, h => by
    obtain ⟨h1, h2⟩ := lS_nonneg (n := n) (f := f) (c := c) (q := q) (fun i hi => h i (by omega))
    have h3 := h n (by omega)
    unfold lS
    refine ⟨by split <;> omega, fun i hi hc => ?_⟩
    by_cases hin : i = n
    · subst hin; rw [if_pos hc]; omega
    · have := h2 i (by omega) hc
      split <;> omega
theorem lS_neg {f : Nat → Int} {c : Nat → Nat} {q n : Nat} : lS (fun i => - f i) c q n = - lS f c q n := by
  have := lS_add (f := f) (g := fun i => - f i) (h := fun _ => 0) (c := c) (q := q) (n := n) (fun i _ => by omega)
  rw [lS_zero (fun _ _ => rfl)] at this
  omega
theorem all_zero {l g : Row} {gr : Int} {n : Nat} (h0 : gS l g gr n = 0) (hp : ∀ i, i < n → g.I i 0 = gr → l.I i 0 ≤ 0) : ∀ i, i < n → g.I i 0 = gr → l.I i 0 = 0 := fun i hi hg => by
  obtain ⟨_, h2⟩ := lS_nonneg (f := fun i => - bF l i) (c := gl g gr) (q := 1) (n := n) (fun j hj hc => by have := hp j hj (gl_one.1 hc); show 0 ≤ - l.I j 0; omega)
  have h3 := h2 i hi (gl_one.2 hg)
  rw [lS_neg] at h3
  have h4 := hp i hi hg
  unfold gS at h0
  have : - bF l i = - l.I i 0 := rfl
  omega
theorem all_zero' {l g : Row} {gr : Int} {n : Nat} (h0 : gS l g gr n = 0) (hp : ∀ i, i < n → g.I i 0 = gr → 0 ≤ l.I i 0) : ∀ i, i < n → g.I i 0 = gr → l.I i 0 = 0 := fun i hi hg => by
  obtain ⟨_, h2⟩ := lS_nonneg (f := bF l) (c := gl g gr) (q := 1) (n := n) (fun j hj hc => hp j hj (gl_one.1 hc))
  have h3 := h2 i hi (gl_one.2 hg)
  have h4 := hp i hi hg
  unfold gS at h0
  have : bF l i = l.I i 0 := rfl
  omega
def pk (o : Row) (k : Nat) : List Pt := (List.range k).map (ptAt o)
theorem pk_oU (o : Row) (k : Nat) (fr to c : Int) : pk (oU o k (pyR fr to c)) (k + 1) = pk o k ++ [(fr, to, c)] := by
  cases k with
  | zero =>
    have := pl_app .nil (pyR fr to c)
    exact this
  | succ k =>
    have := pl_app (winOf o 0 (k + 1)) (pyR fr to c)
    exact this
theorem l2_I {l : Row} {i t : Nat} {c : Int} (hit : i ≠ t) (h1 : -1000000000 ≤ l.I i 0 ∧ l.I i 0 ≤ 1000000000) (h2 : -1000000000 ≤ l.I t 0 ∧ l.I t 0 ≤ 1000000000) (hc : 0 ≤ c ∧ c ≤ 1000000000) (p : Nat) :
    (l2U l i t c).I p 0 = l.I p 0 + dl ((i : Int), (t : Int), c) p := by
  unfold l2U l1U
  rw [Int.toNat_natCast, Int.toNat_natCast, Nat.zero_add, Nat.zero_add, sI_I, sI_I, sI_I, if_neg (show ¬ t = i from fun h => hit h.symm), wiN (n := l.I t 0 + c) (by omega) (by omega), wiN (n := l.I i 0 - c) (by omega) (by omega)]
  unfold dl
  dsimp only
  by_cases hpt : p = t
  · subst hpt
    rw [if_pos rfl, if_pos rfl, if_neg (show ¬ (i : Int) = (p : Int) by omega)]
    omega
  · rw [if_neg hpt, if_neg (show ¬ (t : Int) = (p : Int) by omega)]
    by_cases hpi : p = i
    · subst hpi
      rw [if_pos rfl, if_pos rfl]; omega
    · rw [if_neg hpi, if_neg (show ¬ (i : Int) = (p : Int) by omega)]; omega
theorem inG_spec {g : Row} {n : Nat} {gr : Int} (hn : n ≤ 10) : ∀ (f : Nat) (l : Row) (k : Nat) (o : Row), Bd l n → gS l g gr n = 0 → nzc l g gr n ≤ f →
    ∃ k' l' o' xs, inG g n n gr f (fw l g n n gr 1) k l o = some (k', l', o') ∧ Bd l' n ∧ (∀ p, p < n → g.I p 0 = gr → l'.I p 0 = 0) ∧ (∀ p, g.I p 0 ≠ gr → l'.I p 0 = l.I p 0) ∧ k' = k + xs.length ∧ xs.length ≤ nzc l g gr n - 1 ∧
      pk o' k' = pk o k ++ xs ∧ (∀ x, x ∈ xs → okP n x) ∧ ∀ p : Nat, l'.I p 0 = l.I p 0 + bl xs p := by
  intro f
  induction f with
  | zero =>
    intro l k o hb hs hz
    have hfw : fw l g n n gr 1 = ffF l g gr 1 n 0 := ffF_win _ _ _ _ _ _ _ _
    rcases ffF_spec l g gr 1 n 0 with ⟨h1, h2⟩ | ⟨i, h1, h2, h3, h4, h5⟩
    · have hle : ∀ i, i < n → g.I i 0 = gr → l.I i 0 ≤ 0 := fun i hi hg => by
        have h3 := h2 i (by omega) (by omega)
        have h4 := hb i hi
        rw [Int.mul_one, wiN (by omega) (by omega)] at h3
        by_cases h5 : l.I i 0 > 0
        · exact absurd ⟨hg, h5⟩ h3
        · omega
      refine ⟨k, l, o, [], ?_, hb, all_zero hs hle, fun _ _ => rfl, rfl, by simp, by simp, (fun x h => by cases h), fun p => by show _ = _ + 0; omega⟩
      unfold inG
      rw [hfw, h1, if_pos (by decide)]
    · exfalso
      have h6 := hb i (by omega)
      rw [Int.mul_one, wiN (by omega) (by omega)] at h5
      have h7 : 1 ≤ nzc l g gr n := by
        have := cntB_lt (e := fun _ => false) (e' := fun i => decide (g.I i 0 = gr) && decide (l.I i 0 ≠ 0)) (q0 := i) (Q := n) (fun q _ h => by cases h) (by omega) rfl (by simp; omega)
        unfold nzc
        omega
      omega
  | succ f ih =>
    intro l k o hb hs hz
    have hfw : fw l g n n gr 1 = ffF l g gr 1 n 0 := ffF_win _ _ _ _ _ _ _ _
    have hfw2 : fw l g n n gr (-1) = ffF l g gr (-1) n 0 := ffF_win _ _ _ _ _ _ _ _
    rcases ffF_spec l g gr 1 n 0 with ⟨h1, h2⟩ | ⟨i, h1, h2, h3, h4, h5⟩
    · have hle : ∀ i, i < n → g.I i 0 = gr → l.I i 0 ≤ 0 := fun i hi hg => by
        have h3 := h2 i (by omega) (by omega)
        have h4 := hb i hi
        rw [Int.mul_one, wiN (by omega) (by omega)] at h3
        by_cases h5 : l.I i 0 > 0
        · exact absurd ⟨hg, h5⟩ h3
        · omega
      refine ⟨k, l, o, [], ?_, hb, all_zero hs hle, fun _ _ => rfl, rfl, by simp, by simp, (fun x h => by cases h), fun p => by show _ = _ + 0; omega⟩
      unfold inG
      rw [hfw, h1, if_pos (by decide)]
    · have hbi := hb i (by omega)
      rw [Int.mul_one, wiN (by omega) (by omega)] at h5
      rcases ffF_spec l g gr (-1) n 0 with ⟨t1, t2⟩ | ⟨t, t1, t2, t3, t4, t5⟩
      · exfalso
        have := all_zero' hs (fun j hj hg => by
          have h6 := t2 j (by omega) (by omega)
          have h7 := hb j hj
          rw [wiN (by omega) (by omega)] at h6
          by_cases h8 : l.I j 0 < 0
          · exact absurd ⟨hg, by omega⟩ h6
          · omega) i (by omega) h4
        omega
      · have hbt := hb t (by omega)
        rw [wiN (by omega) (by omega)] at t5
        have hit : i ≠ t := fun h => by subst h; omega
        have hce : ceI l i t = if - l.I t 0 < l.I i 0 then - l.I t 0 else l.I i 0 := by
          unfold ceI mnI
          rw [Int.toNat_natCast, Int.toNat_natCast, Nat.zero_add, Nat.zero_add, wiN (by omega) (by omega), Int.zero_sub]
        generalize hc : ceI l i t = c at hce
        have hcr : 1 ≤ c ∧ c ≤ l.I i 0 ∧ c ≤ - l.I t 0 ∧ (c = l.I i 0 ∨ c = - l.I t 0) := by
          rw [hce]
          split <;> omega
        have hl2 := l2_I hit hbi hbt (c := c) (by omega)
        have hok : okP n ((i : Int), (t : Int), c) := by unfold okP; dsimp only; omega
        have hdi : (l2U l i t c).I i 0 = l.I i 0 - c := by rw [hl2]; unfold dl; dsimp only; rw [if_neg (by omega), if_pos rfl]; omega
        have hdt : (l2U l i t c).I t 0 = l.I t 0 + c := by rw [hl2]; unfold dl; dsimp only; rw [if_pos rfl, if_neg (by omega)]; omega
        have hdp : ∀ p, p ≠ i → p ≠ t → (l2U l i t c).I p 0 = l.I p 0 := fun p h1 h2 => by rw [hl2]; unfold dl; dsimp only; rw [if_neg (by omega), if_neg (by omega)]; omega
        have hb2 : Bd (l2U l i t c) n := fun p hp => by
          by_cases e1 : p = i
          · subst e1; rw [hdi]; omega
          · by_cases e2 : p = t
            · subst e2; rw [hdt]; omega
            · rw [hdp p e1 e2]; exact hb p hp
        have hs2 : gS (l2U l i t c) g gr n = 0 := by
          unfold gS at hs ⊢
          rw [lS_add (f := bF l) (g := fun p => dl ((i : Int), (t : Int), c) p) (h := bF (l2U l i t c)) (fun p _ => hl2 p), hs, lS_dl hok (by
            show gl g gr (i : Int).toNat = gl g gr (t : Int).toNat
            rw [Int.toNat_natCast, Int.toNat_natCast, gl_one.2 h4, gl_one.2 t4])]
          rfl
        have hmono : ∀ q, q < n → (decide (g.I q 0 = gr) && decide ((l2U l i t c).I q 0 ≠ 0)) = true → (decide (g.I q 0 = gr) && decide (l.I q 0 ≠ 0)) = true := fun q _ h => by
          simp only [Bool.and_eq_true, decide_eq_true_eq] at h ⊢
          refine ⟨h.1, ?_⟩
          by_cases e1 : q = i
          · subst e1; omega
          · by_cases e2 : q = t
            · subst e2; omega
            · rw [hdp q e1 e2] at h; exact h.2
        have hz2 : nzc (l2U l i t c) g gr n + 1 ≤ nzc l g gr n := by
          rcases hcr.2.2.2 with h | h
          · exact cntB_lt (q0 := i) hmono (by omega) (by simp only [Bool.and_eq_false_iff, decide_eq_false_iff_not]; right; rw [hdi]; omega) (by simp only [Bool.and_eq_true, decide_eq_true_eq]; exact ⟨h4, by omega⟩)
          · exact cntB_lt (q0 := t) hmono (by omega) (by simp only [Bool.and_eq_false_iff, decide_eq_false_iff_not]; right; rw [hdt]; omega) (by simp only [Bool.and_eq_true, decide_eq_true_eq]; exact ⟨t4, by omega⟩)
        have h2n : 2 ≤ nzc l g gr n := by
          have a1 := cntB_lt (e := fun _ => false) (e' := fun q => decide (q = i)) (q0 := i) (Q := n) (fun q _ h => by cases h) (by omega) rfl (by simp)
          have a2 := cntB_lt (e := fun q => decide (q = i)) (e' := fun q => decide (g.I q 0 = gr) && decide (l.I q 0 ≠ 0)) (q0 := t) (Q := n) (fun q _ h => by
            have := of_decide_eq_true h
            subst this
            simp only [Bool.and_eq_true, decide_eq_true_eq]; exact ⟨h4, by omega⟩) (by omega) (by simp; omega) (by simp only [Bool.and_eq_true, decide_eq_true_eq]; exact ⟨t4, by omega⟩)
          unfold nzc
          omega
        obtain ⟨k', l', o', xs, e1, e2, e3, e4, e5, e6, e7, e8, e9⟩ := ih (l2U l i t c) (k + 1) (oU o k (pyR i t c)) hb2 hs2 (by omega)
        refine ⟨k', l', o', ((i : Int), (t : Int), c) :: xs, ?_, e2, e3, fun p hp => ?_, by rw [List.length_cons]; omega, by rw [List.length_cons]; omega, ?_, ?_, fun p => ?_⟩
        · unfold inG
          rw [hfw, h3, if_neg (by omega), hfw2, t3, if_neg (by omega), hc]
          exact e1
        · rw [e4 p hp]
          exact hdp p (fun h => by subst h; exact hp h4) (fun h => by subst h; exact hp t4)
        · rw [e7, pk_oU, List.append_assoc]; rfl
        · intro x hx
          rcases List.mem_cons.1 hx with rfl | hx
          · exact hok
          · exact e8 x hx
        · rw [e9 p, hl2 p]
          show _ = l.I p 0 + (dl ((i : Int), (t : Int), c) p + bl xs p)
          omega
end Go.Proofs.YtpblmkephkhlkaaDoor.Mk
namespace Go.Proofs.YtpblmkephkhlkaaDoor.Mk
open Go.Ev Se
set_option linter.all false
theorem cntB_split {e e1 e2 : Nat → Bool} : ∀ {Q}, (∀ q, q < Q → (if e q = true then 1 else 0 : Nat) = (if e1 q = true then 1 else 0) + (if e2 q = true then 1 else 0)) → cntB e Q = cntB e1 Q + cntB e2 Q
  | 0, _ => rfl
  | Q + 1, h => by
    unfold cntB
    rw [cntB_split (Q := Q) (fun q hq => h q (by omega)), h Q (by omega)]
    omega
theorem GOk.rest {b g : Row} {rest : Nat} (h : GOk b g rest) {p : Nat} (hp : p < b.n) : (rest.testBit p = true ∧ 0 ≤ g.I p 0 ∧ b.I p 0 ≠ 0) ∨ (rest.testBit p = false ∧ g.I p 0 = -1 ∧ b.I p 0 = 0) := by
  have hz := h.nz p
  rw [decide_eq_true hp, Bool.true_and] at hz
  cases hr : rest.testBit p
  · rw [hr] at hz
    have h0 : b.I p 0 = 0 := Classical.not_not.1 (of_decide_eq_false hz.symm)
    exact .inr ⟨rfl, h.out p hp h0, h0⟩
  · rw [hr] at hz
    exact .inl ⟨rfl, h.lo p hr, of_decide_eq_true hz.symm⟩
theorem grp_sum {b g l : Row} {rest j : Nat} (h : GOk b g rest) (hl : ∀ p, p < b.n → g.I p 0 = (j : Int) → l.I p 0 = b.I p 0) : ∀ k, k ≤ b.n → lS (bF l) (gl g j) 1 k = sM (bF b) (clM (lab g) rest j b.n) k
  | 0, _ => rfl
  | k + 1, hk => by
    unfold lS sM
    rw [grp_sum h hl k (by omega), clM_bit, decide_eq_true (show k < b.n by omega), Bool.true_and]
    by_cases hg : g.I k 0 = (j : Int)
    · rw [if_pos (gl_one.2 hg)]
      rcases h.rest (p := k) (by omega) with ⟨h1, h2, h3⟩ | ⟨h1, h2, h3⟩
      · rw [h1, decide_eq_true (show lab g k = j by unfold lab; omega), if_pos (show (true && true) = true from rfl)]
        show _ + l.I k 0 = _ + b.I k 0
        rw [hl k (by omega) hg]
      · omega
    · rw [if_neg (fun h => hg (gl_one.1 h))]
      rcases h.rest (p := k) (by omega) with ⟨h1, h2, h3⟩ | ⟨h1, h2, h3⟩
      · rw [h1, decide_eq_false (show ¬ lab g k = j by unfold lab; omega)]; rfl
      · rw [h1]; rfl
def Rr (g : Row) (j n : Nat) : Nat := cntB (fun i => decide ((j : Int) ≤ g.I i 0)) n
structure Iv (b g : Row) (rest j k : Nat) (l o : Row) (xs : List Pt) : Prop where
  bd : Bd l b.n
  zero : ∀ p, p < b.n → g.I p 0 < (j : Int) → l.I p 0 = 0
  keep : ∀ p, p < b.n → (j : Int) ≤ g.I p 0 → l.I p 0 = b.I p 0
  len : k = xs.length
  pk : pk o k = xs
  ok : ∀ x, x ∈ xs → okP b.n x
  sum : ∀ p, p < b.n → l.I p 0 = b.I p 0 + bl xs p
  cnt : k + Rr g j b.n + min j (mN b rest).toNat ≤ pc rest b.n
theorem iv_step {b g : Row} {rest j k : Nat} {l o : Row} {xs : List Pt} (hn : b.n ≤ 10) (h : GOk b g rest) (hi : Iv b g rest j k l o xs) :
    ∃ k' l' o' ys, gsG b.n b.n k j (fw l g b.n b.n j 1) l g o = some (k', l', o') ∧ Iv b g rest (j + 1) k' l' o' ys := by
  have hs : gS l g j b.n = 0 := by
    have := grp_sum (l := l) (j := j) h (fun p hp hg => hi.keep p hp (by omega)) b.n (Nat.le_refl _)
    unfold gS
    rw [this]
    exact h.sum j
  have hnz : nzc l g j b.n ≤ b.n := cntB_bound
  have hpc : pc rest b.n ≤ b.n := cntB_bound
  have hcnt := hi.cnt
  obtain ⟨k', l', o', ys, e1, e2, e3, e4, e5, e6, e7, e8, e9⟩ := inG_spec (g := g) (gr := (j : Int)) hn 1000 l k o hi.bd hs (by omega)
  refine ⟨k', l', o', xs ++ ys, ?_, ?_⟩
  · unfold gsG
    rw [if_pos ⟨by omega, Nat.le_refl _, fw_lt _ _ _ _ _ _, by omega⟩]
    exact e1
  · have hsp : Rr g j b.n = nzc l g j b.n + Rr g (j + 1) b.n := cntB_split fun q hq => by
      by_cases h1 : g.I q 0 = (j : Int)
      · have h2 := hi.keep q hq (by omega)
        rcases h.rest hq with ⟨_, _, h3⟩ | ⟨_, h4, _⟩
        · rw [decide_eq_true (show (j : Int) ≤ g.I q 0 by omega), decide_eq_true h1, decide_eq_true (show l.I q 0 ≠ 0 by omega), decide_eq_false (show ¬ ((j + 1 : Nat) : Int) ≤ g.I q 0 by omega)]; rfl
        · omega
      · rw [decide_eq_false h1, Bool.false_and]
        by_cases h2 : (j : Int) ≤ g.I q 0
        · rw [decide_eq_true h2, decide_eq_true (show ((j + 1 : Nat) : Int) ≤ g.I q 0 by omega)]; rfl
        · rw [decide_eq_false h2, decide_eq_false (show ¬ ((j + 1 : Nat) : Int) ≤ g.I q 0 by omega)]; rfl
    have hne : j < (mN b rest).toNat → 1 ≤ nzc l g j b.n := fun hj => by
      obtain ⟨i, u1, u2, u3⟩ := use_iff.1 (h.all j (by omega))
      rcases h.rest u1 with ⟨_, h2, h3⟩ | ⟨h4, _, _⟩
      · have hgi : g.I i 0 = (j : Int) := by unfold lab at u3; omega
        have := cntB_lt (e := fun _ => false) (e' := fun i => decide (g.I i 0 = (j : Int)) && decide (l.I i 0 ≠ 0)) (q0 := i) (Q := b.n) (fun q _ h => by cases h) u1 rfl (by
          rw [hi.keep i u1 (by omega), decide_eq_true hgi, decide_eq_true h3]; rfl)
        unfold nzc
        omega
      · rw [u2] at h4; cases h4
    exact {
      bd := e2
      zero := fun p hp hg => by
        by_cases h1 : g.I p 0 = (j : Int)
        · exact e3 p hp h1
        · rw [e4 p h1]; exact hi.zero p hp (by omega)
      keep := fun p hp hg => by rw [e4 p (by omega)]; exact hi.keep p hp (by omega)
      len := by rw [List.length_append, e5, hi.len]
      pk := by rw [e7, hi.pk]
      ok := fun x hx => (List.mem_append.1 hx).elim (hi.ok x) (e8 x)
      sum := fun p hp => by rw [e9 p, hi.sum p hp, bl_app]; omega
      cnt := by
        by_cases hj : j < (mN b rest).toNat
        · have := hne hj; omega
        · omega }
theorem out_spec {b g : Row} {rest : Nat} (hn : b.n ≤ 10) (h : GOk b g rest) : ∀ (c j k : Nat) (l o : Row) (xs : List Pt), j + c = b.n → Iv b g rest j k l o xs →
    ∃ k' l' o' ys, outG g b.n b.n c j k l o = some (k', l', o') ∧ Iv b g rest b.n k' l' o' ys
  | 0, j, k, l, o, xs, hj, hi => by
    obtain rfl : j = b.n := by omega
    exact ⟨k, l, o, xs, rfl, hi⟩
  | c + 1, j, k, l, o, xs, hj, hi => by
    obtain ⟨k', l', o', ys, e1, e2⟩ := iv_step hn h hi
    unfold outG
    rw [e1]
    exact out_spec hn h c (j + 1) k' l' o' ys (by omega) e2
theorem settle_ok {b : Row} (h : ckE b = 0) : stC b = true ∧ ∃ rest, Nz b rest ∧ (∀ x, x ∈ pl (stR b) → okP b.n x) ∧ (∀ p : Nat, p < b.n → b.I p 0 + bl (pl (stR b)) p = 0) ∧ ((stR b).n : Int) + mN b rest ≤ (pc rest b.n : Nat) ∧ (pl (stR b)).length = (stR b).n := by
  obtain ⟨hf, hn1, _⟩ := ck_fit h
  obtain ⟨hc, rest, hg⟩ := groups_ok h
  have hle := hg.le
  have hpc : pc rest b.n ≤ b.n := cntB_bound
  have h0 : Iv b (gpR b) rest 0 0 (Row.app (.zeros 0) b) .nil [] := {
    bd := hf.2
    zero := fun p hp hgp => by
      rcases hg.rest hp with ⟨_, h2, _⟩ | ⟨_, _, h3⟩
      · omega
      · exact h3
    keep := fun _ _ _ => rfl
    len := rfl
    pk := rfl
    ok := fun x hx => by cases hx
    sum := fun p _ => by show b.I p 0 = b.I p 0 + 0; omega
    cnt := by
      have : Rr (gpR b) 0 b.n = pc rest b.n := cntB_ext fun q hq => by
        rcases hg.rest hq with ⟨h1, h2, _⟩ | ⟨h1, h2, _⟩
        · rw [h1]; exact decide_eq_true (by omega)
        · rw [h1]; exact decide_eq_false (by omega)
      omega }
  obtain ⟨k', l', o', ys, e1, e2⟩ := out_spec hf.1 hg b.n 0 0 _ _ _ (by omega) h0
  have hst : stO b = some (k', l', o') := by
    unfold stO
    rw [hg.n]
    exact e1
  have hz : ∀ p, p < b.n → l'.I p 0 = 0 := fun p hp => e2.zero p hp (by
    rcases hg.rest hp with ⟨h1, _, _⟩ | ⟨_, h2, _⟩
    · have := hg.hi p h1; omega
    · omega)
  have hpl : pl (stR b) = ys ∧ (stR b).n = k' := by
    unfold stR
    rw [if_neg (fun h' => h' h), hst]
    cases k' with
    | zero => exact ⟨e2.pk, rfl⟩
    | succ k' => exact ⟨e2.pk, rfl⟩
  refine ⟨?_, rest, hg.nz, fun x hx => ?_, fun p hp => ?_, ?_, ?_⟩
  · unfold stC
    rw [hc, hst, decide_eq_true (show b.n ≤ (gpR b).n by rw [hg.n]; exact Nat.le_refl _)]
    simp
  · rw [hpl.1] at hx; exact e2.ok x hx
  · rw [hpl.1, ← e2.sum p hp]; exact hz p hp
  · rw [hpl.2]
    have := e2.cnt
    omega
  · rw [hpl.1, hpl.2]; exact e2.len.symm
end Go.Proofs.YtpblmkephkhlkaaDoor.Mk
namespace Go.Proofs.YtpblmkephkhlkaaDoor.Fw
open Go.Ev Mk
set_option linter.all false
def Sa (nl no : Nat) (j : Int) (l o : Row) : St := ⟨us 1 ++ [sl 0 nl] ++ us 3 ++ [sl 1 no, i64 j] ++ us 40, [[]], [some (.row Lg.ks3 false l), Rb true o]⟩
def Sax (no : Nat) (o : Row) : St := ⟨us 5 ++ [sl 0 no] ++ us 41, [[]], [Rb true o]⟩
def Ga (cd : Nat → Nat → Row → Bool) : List It → (X → St → Option (List D)) → Option (List D)
  | [.n nl, .n no, .r l, .r o], k => br (cd nl no l) (k (.exit 0) (Sax no (Lg.books l nl 0 o))) none
  | _, _ => none
def la (cd : Nat → Nat → Row → Bool) : LoopC where
  f := 19
  id := 3
  lv := [1, 5, 6]
  lx := [4, 5]
  p := { τ := pu 1 ++ [.v (.sl 0)] ++ pu 3 ++ [.v (.sl 1), .v (.c (i64 0))] ++ pu 40, saved := [[]], mem := [.row Lg.ks3 false, .row ks1 true] }
  G := Ga cd
noncomputable def Cag (cd : Nat → Nat → Row → Bool) : Cx := mkCx Tryd.prog fns [] [la cd]
theorem rounda (cd : Nat → Nat → Row → Bool) (R : St → Option (List D)) (K : X → St → Option (List D)) (p : Nat) (nl no : Nat) (j : Nat) (l o : Row) : evCode (Cag cd) 19 true (inl (Cag cd) (p + 4)) (lbody (Cag cd).P 19 3) (Sa nl no j l o) (rnd [1, 5, 6] (some [4, 5]) R K) =
    br (decide ((j : Int) < (nl : Int))) (br (decide (0 ≤ (j : Int)) && decide ((j : Int) < (nl : Int))) (br (Lg.inR no (l.I (0 + j) 0)) (br (decide (0 ≤ (j : Int)) && decide ((j : Int) < (nl : Int))) (br (Lg.inR no (l.I (0 + j) 0)) (br (decide (0 ≤ (j : Int)) && decide ((j : Int) < (nl : Int))) (br (Lg.inR no (l.I (0 + j) 1)) (br (decide (0 ≤ (j : Int)) && decide ((j : Int) < (nl : Int))) (br (Lg.inR no (l.I (0 + j) 1))
      (R (Sa nl no (wi (j + 1)) l (Lg.book l j o))) none) none) none) none) none) none) none) none) (K (.exit 0) (Sax no o)) := by kernel_rfl
def ina (nl no : Nat) (l : Row) : Bool := decide (nl ≤ 1000) && !anyF (Lg.bad (no : Int) l) nl 0
noncomputable def Ca : Cx := Cag ina
theorem goa {f : St → (X → St → Option (List D)) → Option (List D)} {lv : List Tmp} {lx : Option (List Tmp)} {nl no : Nat} {l : Row} (hn : nl ≤ 1000) (hb : ∀ i, i < nl → Lg.bad (no : Int) l i = false)
    (hr : ∀ (j : Nat) (o : Row) R K, f (Sa nl no j l o) (rnd lv lx R K) = br (decide ((j : Int) < (nl : Int))) (br (decide (0 ≤ (j : Int)) && decide ((j : Int) < (nl : Int))) (br (Lg.inR no (l.I (0 + j) 0)) (br (decide (0 ≤ (j : Int)) && decide ((j : Int) < (nl : Int))) (br (Lg.inR no (l.I (0 + j) 0)) (br (decide (0 ≤ (j : Int)) && decide ((j : Int) < (nl : Int))) (br (Lg.inR no (l.I (0 + j) 1)) (br (decide (0 ≤ (j : Int)) && decide ((j : Int) < (nl : Int))) (br (Lg.inR no (l.I (0 + j) 1))
      (R (Sa nl no (wi (j + 1)) l (Lg.book l j o))) none) none) none) none) none) none) none) none) (K (.exit 0) (Sax no o))) (K : X → St → Option (List D)) :
    ∀ (m fu j : Nat) (o : Row), j + m = nl → m < fu → rounds lv lx f fu (Sa nl no j l o) K = K (.exit 0) (Sax no (Lg.books l m j o))
  | 0, fu + 1, j, o, h0, h1 => by
    rw [rnds1, hr, decide_eq_false (show ¬ (j : Int) < (nl : Int) by omega), br_false]
    rfl
  | m + 1, fu + 1, j, o, h0, h1 => by
    have hg := Lg.good_in (hb j (by omega))
    rw [rnds1, hr, show (decide (0 ≤ (j : Int)) && decide ((j : Int) < (nl : Int))) = true by simp only [Bool.and_eq_true, decide_eq_true_eq]; omega, decide_eq_true (show (j : Int) < (nl : Int) by omega), hg.1, hg.2, br_true, br_true, br_true, br_true, br_true, br_true, br_true, br_true, br_true,
      wiN (n := (j : Int) + 1) (by omega) (by omega), show (j : Int) + 1 = ((j + 1 : Nat) : Int) by omega]
    exact goa hn hb hr K m fu (j + 1) _ (by omega) (by omega)
set_option maxRecDepth 100000 in
theorem loopa : LoopOk Ca (la ina) := ⟨by kernel_rfl, fun q its k rr h => by
  show rounds [1, 5, 6] (some [4, 5]) (evCode Ca 19 true (inl Ca (q + 4)) (lbody Ca.P 19 3)) 18446744073709551616 (Go.Ev.bst (la ina).p its) k = some rr
  change Ga ina its k = some rr at h
  unfold Ga at h
  split at h
  · rename_i nl no l o
    rcases br_some h with ⟨h1, h2⟩ | ⟨_, h2⟩
    · unfold ina at h1
      simp only [Bool.and_eq_true, decide_eq_true_eq, Bool.not_eq_true'] at h1
      rw [← h2]
      exact goa h1.1 (fun i hi => anyF_false.1 h1.2 i (by omega) (by omega)) (fun j o R K => rounda ina R K q nl no j l o) k nl _ 0 o (by omega) (by omega)
    · cases h2
  · cases h⟩
theorem Ca_ok : CxOk Ca := mkCx_ok enter mixed (fun p h => by cases h) (fun l h => by
  simp only [List.mem_cons, List.not_mem_nil, or_false] at h
  rcases h with rfl
  exact loopa)
def cpR (b : Row) : Row := (winOf (Row.zeros 0) 0 0).app (winOf b 0 b.n)
def afR (b l : Row) : Row := winOf (Lg.books l l.n 0 (cpR b)) 0 (0 + b.n)
theorem tafter (cd : Nat → Nat → Row → Bool) (b l : Row) : evF (Cag cd) 6 19 [.slice ks1 b, .slice Lg.ks3 l] = br (decide (0 + b.n ≤ 10000000000)) (br (cd l.n (0 + b.n) l) (some [.slice ks1 (afR b l)]) none) none := by kernel_rfl
def Fafter : List D → Option (Bool × List D)
  | [.slice [.int .i64] b, .slice [.int .i64, .int .i64, .int .i64] l] => some (decide (b.n ≤ 1000) && ina l.n b.n l, [.slice ks1 (afR b l)])
  | _ => none
theorem den_after : Den Tryd.prog 19 Fafter := evF_den Ca_ok fun ds rs h => by
  unfold Fafter at h
  split at h
  · rename_i b l
    simp only [Option.some.injEq, Prod.mk.injEq, Bool.and_eq_true, decide_eq_true_eq] at h
    obtain ⟨⟨h0, h1⟩, rfl⟩ := h
    refine (tafter ina b l).trans ?_
    rw [Nat.zero_add, decide_eq_true (show b.n ≤ 10000000000 by omega), br_true, h1, br_true]
  · cases h
theorem l2_I2 {l : Row} {i t : Nat} {c : Int} (hit : i ≠ t) (h1 : -1000000000000000 ≤ l.I i 0 ∧ l.I i 0 ≤ 1000000000000000) (h2 : -1000000000000000 ≤ l.I t 0 ∧ l.I t 0 ≤ 1000000000000000) (hc : 0 ≤ c ∧ c ≤ 1000000000) (p : Nat) :
    (Se.l2U l i t c).I p 0 = l.I p 0 + dl ((i : Int), (t : Int), c) p := by
  unfold Se.l2U Se.l1U
  rw [Int.toNat_natCast, Int.toNat_natCast, Nat.zero_add, Nat.zero_add, sI_I, sI_I, sI_I, if_neg (show ¬ t = i from fun h => hit h.symm), wiN (n := l.I t 0 + c) (by omega) (by omega), wiN (n := l.I i 0 - c) (by omega) (by omega)]
  unfold dl
  dsimp only
  by_cases hpt : p = t
  · subst hpt
    rw [if_pos rfl, if_pos rfl, if_neg (show ¬ (i : Int) = (p : Int) by omega)]
    omega
  · rw [if_neg hpt, if_neg (show ¬ (t : Int) = (p : Int) by omega)]
    by_cases hpi : p = i
    · subst hpi
      rw [if_pos rfl, if_pos rfl]; omega
    · rw [if_neg hpi, if_neg (show ¬ (i : Int) = (p : Int) by omega)]; omega
theorem book_I2 {n : Nat} {r o : Row} {j : Nat} (h : okP n (ptAt r j)) (ho : ∀ p, p < n → -1000000000000000 ≤ o.I p 0 ∧ o.I p 0 ≤ 1000000000000000) (p : Nat) : (Lg.book r j o).I p 0 = o.I p 0 + dl (ptAt r j) p := by
  obtain ⟨⟨a1, a2⟩, ⟨a3, a4⟩, a5, a6, a7⟩ := h
  have e : Lg.book r j o = Se.l2U o (r.I (0 + j) 0) (r.I (0 + j) 1) (r.I (0 + j) 2) := rfl
  rw [e, Nat.zero_add]
  unfold ptAt at a1 a2 a3 a4 a5 a6 a7 ⊢
  dsimp only at a1 a2 a3 a4 a5 a6 a7
  generalize r.I j 0 = x at *
  generalize r.I j 1 = y at *
  generalize r.I j 2 = c at *
  obtain ⟨x, rfl⟩ := Int.eq_ofNat_of_zero_le a1
  obtain ⟨y, rfl⟩ := Int.eq_ofNat_of_zero_le a3
  exact l2_I2 (by omega) (ho x (by omega)) (ho y (by omega)) (by omega) p
theorem books_I2 {n : Nat} {r : Row} : ∀ (m j : Nat) (o : Row) (B : Int), (∀ i, j ≤ i → i < j + m → okP n (ptAt r i)) → B + m * 1000000000 ≤ 1000000000000000 → (∀ p, p < n → -B ≤ o.I p 0 ∧ o.I p 0 ≤ B) → ∀ p : Nat, (Lg.books r m j o).I p 0 = o.I p 0 + bl ((List.range' j m).map (ptAt r)) p
  | 0, j, o, B, _, _, _, p => by show o.I p 0 = o.I p 0 + 0; omega
  | m + 1, j, o, B, h, hB, ho, p => by
    have hj := h j (by omega) (by omega)
    have hb := book_I2 (o := o) hj (fun p hp => by have := ho p hp; omega)
    show (Lg.books r m (j + 1) (Lg.book r j o)).I p 0 = _
    rw [books_I2 m (j + 1) (Lg.book r j o) (B + 1000000000) (fun i a b => h i (by omega) (by omega)) (by omega) (fun p hp => by
      have := ho p hp
      have := dl_range hj p
      rw [hb p]; omega) p, hb p]
    show _ = o.I p 0 + (dl (ptAt r j) p + bl ((List.range' (j + 1) m).map (ptAt r)) p)
    omega
theorem af_I {b l : Row} (hf : Fit b) (hl : l.n ≤ 200) (hx : ∀ x, x ∈ pl l → okP b.n x) (p : Nat) : (afR b l).I p 0 = b.I p 0 + bl (pl l) p := by
  have := books_I2 (n := b.n) (r := l) l.n 0 (cpR b) 1000000000 (fun i _ hi => hx _ (List.mem_map.2 ⟨i, List.mem_range.2 (by omega), rfl⟩)) (by omega) (fun p hp => hf.2 p hp) p
  rw [← List.range_eq_range'] at this
  exact this
theorem zr_iff {r : Row} : zrB r = true ↔ ∀ p, p < r.n → r.I p 0 = 0 := by
  unfold zrB
  rw [Bool.not_eq_true', anyF_false]
  unfold nzB
  constructor
  · intro h p hp
    have := h p (by omega) (by omega)
    simpa using this
  · intro h p _ hp
    have := h p (by omega)
    simpa using this
end Go.Proofs.YtpblmkephkhlkaaDoor.Fw
namespace Go.Proofs.YtpblmkephkhlkaaDoor.Fw
open Go.Ev Mk
set_option linter.all false
noncomputable def C20 : Cx := mkCx Tryd.prog fns [(15, Falive), (17, Lg.F7), (11, Se.Fsettle), (18, Fzero), (16, Fck), (19, Fafter)] []
theorem C20_ok : CxW C20 Wt := mkCx_okW enter mixed (fun p h => by
    simp only [List.mem_cons, List.not_mem_nil, or_false] at h
    rcases h with rfl | rfl | rfl | rfl | rfl | rfl
    · exact den_alive
    · exact Lg.den8.at _
    · exact Se.den_settle
    · exact den_zero.at _
    · exact den_start.at _
    · exact den_after.at _) (fun l h => by cases h)
/-- The settlement, of balances as they are seen. -/
def sR (b : Row) : Row := winOf (Se.stR b) 0 (Se.stR b).n
def af (b l : Row) : Row := winOf (afR b l) 0 (0 + b.n)
theorem tfewest (b l : Row) : evF C20 6 4 [.slice ks1 b, .slice Lg.ks3 l] =
    br (ckE (winOf b 0 b.n) != 0) (some [.v (.bool true)]) (br (decide ((l.n : Int) > 200)) (some [.v (.bool true)]) (br (Se.stC (winOf b 0 b.n)) (br (ckE (winOf b 0 b.n) != 0) (some [.v (.bool false)])
      (br (Lg.chk b.n (sR (winOf b 0 b.n)) != 0) (some [.v (.bool false)]) (br (decide (b.n ≤ 1000) && ina (sR (winOf b 0 b.n)).n b.n (sR (winOf b 0 b.n))) (br (decide (0 + b.n ≤ 1000)) (br (!zrB (af (winOf b 0 b.n) (sR (winOf b 0 b.n)))) (some [.v (.bool false)]) (br (decide (((Se.stR (winOf b 0 b.n)).n : Int) ≥ b.n)) (some [.v (.bool false)])
        (br (Lg.chk b.n (winOf l 0 l.n) != 0) (some [.v (.bool true)]) (br (decide (b.n ≤ 1000) && ina l.n b.n (winOf l 0 l.n)) (br (decide (0 + b.n ≤ 1000)) (br (!zrB (af (winOf b 0 b.n) (winOf l 0 l.n))) (some [.v (.bool true)]) (some [.v (.bool (decide (((Se.stR (winOf b 0 b.n)).n : Int) ≤ l.n)))])) none) none)))) none) none))) none)) := by kernel_rfl
theorem Nz.sum {b : Row} (h : ckE b = 0) {rest : Nat} (hz : Nz b rest) : rest < 2 ^ b.n ∧ Sg b rest = 0 := by
  obtain ⟨hf, hn, ht⟩ := ck_fit h
  refine ⟨Nat.lt_pow_two_of_testBit rest fun i hi => by rw [hz, decide_eq_false (show ¬ i < b.n by omega)]; rfl, ?_⟩
  unfold Sg
  rw [sM_tot fun i hi hb => ?_]
  · exact ht
  · rw [hz, decide_eq_true hi, Bool.true_and] at hb
    exact Classical.not_not.1 (of_decide_eq_false hb)
theorem mN_pos {b : Row} (h : ckE b = 0) {rest : Nat} (hz : Nz b rest) : (rest = 0 ∧ mN b rest = 0) ∨ 1 ≤ mN b rest := by
  obtain ⟨hl, hs⟩ := Nz.sum h hz
  have hg := most_good (ck_fit h).1 hl
  by_cases h0 : rest = 0
  · exact .inl ⟨h0, hg.zero h0⟩
  · exact .inr (hg.pos h0 hs).1
theorem pc_zero {n : Nat} : pc 0 n = 0 := cntB_none fun q _ => Nat.zero_testBit q
theorem law_fewest' (b l : Row) (hbn : (winOf b 0 b.n).n = b.n) : evF C20 6 4 [.slice ks1 b, .slice Lg.ks3 l] = some [.v (.bool true)] := by
  refine (tfewest b l).trans ?_
  generalize winOf b 0 b.n = w at *
  rw [← hbn]
  by_cases hk : ckE w = 0
  · obtain ⟨hf, hn, _⟩ := ck_fit hk
    have hf1 := hf.1
    rw [show (ckE w != 0) = false by simpa using hk, br_false]
    by_cases hl : (l.n : Int) > 200
    · rw [decide_eq_true hl, br_true]
    · obtain ⟨s1, rest, s2, s3, s4, s5, s6⟩ := settle_ok hk
      have hm := mN_pos hk s2
      have hpc : pc rest w.n ≤ w.n := cntB_bound
      have hps : pl (sR w) = pl (Se.stR w) := rfl
      have hsn : (sR w).n = (Se.stR w).n := winOf_n
      have hlen : (Se.stR w).n < w.n ∧ (Se.stR w).n ≤ 200 := by
        rcases hm with ⟨h1, h2⟩ | h2
        · subst h1
          rw [pc_zero] at s5
          omega
        · omega
      have hc1 : Lg.chk w.n (sR w) = 0 := (chk_iff _ _).2 ⟨⟨by omega, by omega⟩, by rw [hsn]; omega, fun x hx => by rw [hps] at hx; exact s3 x hx⟩
      have hin : ∀ r : Row, Lg.chk w.n r = 0 → (decide (w.n ≤ 1000) && ina r.n w.n r) = true := fun r hr => by
        obtain ⟨_, _, h3, h4⟩ := Lg.chk_zero (n := (w.n : Int)) (r := r) (by rw [hr]; rfl)
        unfold ina
        rw [decide_eq_true (show w.n ≤ 1000 by omega), decide_eq_true (show r.n ≤ 1000 by omega), h4]
        rfl
      have haf : ∀ r : Row, Lg.chk w.n r = 0 → ∀ p, (af w r).I p 0 = w.I p 0 + bl (pl r) p := fun r hr p => by
        obtain ⟨_, h2, h3⟩ := (chk_iff _ _).1 hr
        exact af_I hf h2 h3 p
      have hafn : ∀ r, (af w r).n = w.n := fun r => by
        have : (af w r).n = 0 + w.n := winOf_n
        omega
      have hz1 : zrB (af w (sR w)) = true := zr_iff.2 fun p hp => by
        rw [hafn] at hp
        rw [haf _ hc1, hps]
        exact s4 p hp
      rw [decide_eq_false hl, br_false, s1, br_true, br_false, show (Lg.chk w.n (sR w) != 0) = false by rw [hc1]; rfl, br_false, hin _ hc1, br_true, Nat.zero_add, decide_eq_true (show w.n ≤ 1000 by omega), br_true, hz1,
        show (!true) = false from rfl, br_false, decide_eq_false (show ¬ ((Se.stR w).n : Int) ≥ (w.n : Int) by omega), br_false]
      by_cases hc : Lg.chk w.n (winOf l 0 l.n) = 0
      · have hi := hin _ hc
        rw [show (winOf l 0 l.n).n = l.n from winOf_n] at hi
        rw [show (Lg.chk w.n (winOf l 0 l.n) != 0) = false by rw [hc]; rfl, br_false]
        rw [decide_eq_true (show w.n ≤ 1000 by omega)] at hi
        rw [hi, br_true, br_true]
        cases hz : zrB (af w (winOf l 0 l.n))
        · rw [show (!false) = true from rfl, br_true]
        · have hz' := zr_iff.1 hz
          obtain ⟨_, h2, h3⟩ := (chk_iff _ _).1 hc
          have hfew := fewest hf s2 h3 (fun p hp => by
            rw [← haf _ hc]
            exact hz' p (by rw [hafn]; exact hp))
          have hll : (pl (winOf l 0 l.n)).length = l.n := by
            rw [pl_win, List.length_map, List.length_range]
          rw [hll] at hfew
          rw [show (!true) = false from rfl, br_false, decide_eq_true (show ((Se.stR w).n : Int) ≤ l.n by unfold pc at s5; omega)]
      · rw [show (Lg.chk w.n (winOf l 0 l.n) != 0) = true by simpa using hc, br_true]
  · rw [show (ckE w != 0) = true by simpa using hk, br_true]
theorem law_fewest (b l : Row) : evF C20 6 4 [.slice ks1 b, .slice Lg.ks3 l] = some [.v (.bool true)] := law_fewest' b l winOf_n
end Go.Proofs.YtpblmkephkhlkaaDoor.Fw

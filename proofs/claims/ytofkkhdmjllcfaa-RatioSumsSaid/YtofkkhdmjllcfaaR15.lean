/- Division of 128 bits by 64: what Div64 and Rem64 give. No conditions. -/
import Derived.Test.YtofkkhdmjllcfaaR14
namespace Go.Proofs.Ytofkkhdmjllcfaa
open Go.Ev
set_option linter.all false
theorem dv_init {Y a b u c : Int} (hb : 0 ≤ b ∧ b < 4294967296) (ha : 2147483648 ≤ a ∧ a < 4294967296) (hy : Y = a * 4294967296 + b) (hu : 0 ≤ u ∧ u < Y) (hc : 0 ≤ c ∧ c < 4294967296) :
    wu (u.tdiv a) = u / a ∧ wu (u - wu (u / a * a)) = u - u / a * a ∧ dvP Y a b u c (u / a) (u - u / a * a) := by
  obtain ⟨b0, b1⟩ := hb
  obtain ⟨a0, a1⟩ := ha
  obtain ⟨u0, u1⟩ := hu
  obtain ⟨c0, c1⟩ := hc
  have e1 := Int.emod_nonneg u (show a ≠ 0 by omega)
  have e2 := Int.emod_lt_of_pos u (show 0 < a by omega)
  have e3 : u / a * a = u - u % a := by have := Int.mul_ediv_add_emod u a; rw [Int.mul_comm] at this; omega
  have q0 : 0 ≤ u / a := Int.ediv_nonneg u0 (by omega)
  have q2 : 0 ≤ u / a * a := Int.mul_nonneg q0 (by omega)
  have q1 : u / a < 4294967298 := by rw [Int.ediv_lt_iff_lt_mul (by omega)]; omega
  obtain ⟨s0, s1⟩ := qs_lt u0 u1 c0 c1
  have hL : ∀ t T Z : Int, 0 < Z → (t ≤ T / Z ↔ t * Z ≤ T) := fun _ _ _ h => Int.le_ediv_iff_mul_le h
  have hle := hL ((u * 4294967296 + c) / Y) (u * 4294967296 + c) Y (by omega)
  have h1 := hle.mp (Int.le_refl _)
  have h2 := hL ((u * 4294967296 + c) / Y) u a (by omega)
  have h3 : (u * 4294967296 + c) / Y * Y = (u * 4294967296 + c) / Y * a * 4294967296 + (u * 4294967296 + c) / Y * b := by
    generalize (u * 4294967296 + c) / Y = t
    rw [hy, q_mul]
  have h4 : 0 ≤ (u * 4294967296 + c) / Y * b := Int.mul_nonneg s0 b0
  rw [h3] at h1
  refine ⟨?_, ?_, ⟨b0, b1⟩, ⟨a0, a1⟩, hy, ⟨u0, u1⟩, ⟨c0, c1⟩, by omega, ⟨by omega, by omega⟩, h2.mpr (by omega), by omega⟩
  · rw [Int.tdiv_eq_ediv_of_nonneg u0]
    exact wrapU_id q0 (by omega)
  · unfold wu
    rw [wrapU_id (n := u / a * a) (by omega) (by omega), wrapU_id (by omega) (by omega)]
theorem dv_rest {Y u c : Int} (hY : 0 < Y ∧ Y < 18446744073709551616) : wu (wu (wu (u * 4294967296) + c) - wu ((u * 4294967296 + c) / Y * Y)) = (u * 4294967296 + c) % Y := by
  have e1 := Int.emod_nonneg (u * 4294967296 + c) (show Y ≠ 0 by omega)
  have e2 := Int.emod_lt_of_pos (u * 4294967296 + c) hY.1
  have e3 : (u * 4294967296 + c) / Y * Y = u * 4294967296 + c - (u * 4294967296 + c) % Y := by have := Int.mul_ediv_add_emod (u * 4294967296 + c) Y; rw [Int.mul_comm] at this; omega
  generalize (u * 4294967296 + c) / Y * Y = Z at *
  generalize (u * 4294967296 + c) % Y = R at *
  simp only [wu, wrapU]
  omega
theorem orS (a b : Int) (s : Nat) (hs : s ≤ 64) (k : Int) (hk : 0 ≤ k) (ha : a = k * 2 ^ s) (h1 : a < 18446744073709551616) (h3 : 0 ≤ b) (h4 : b < 2 ^ s) (h5 : a + b < 18446744073709551616) : wu ((BitVec.ofInt 64 a ||| BitVec.ofInt 64 b).toNat : Int) = a + b := by
  obtain ⟨k, rfl⟩ := Int.eq_ofNat_of_zero_le hk
  obtain ⟨m, rfl⟩ := Int.eq_ofNat_of_zero_le h3
  have hm : m < 2 ^ s := by
    have : ((2 : Int) ^ s) = ((2 ^ s : Nat) : Int) := by rw [Int.natCast_pow]; rfl
    rw [this] at h4
    omega
  have ha' : a = ((k * 2 ^ s : Nat) : Int) := by rw [ha, Int.natCast_mul, Int.natCast_pow]; rfl
  rw [ha'] at h1 h5 ⊢
  have ea : (BitVec.ofInt 64 ((k * 2 ^ s : Nat) : Int)).toNat = k * 2 ^ s := by
    rw [BitVec.ofInt_natCast, BitVec.toNat_ofNat]
    exact Nat.mod_eq_of_lt (by omega)
  have eb : (BitVec.ofInt 64 (m : Int)).toNat = m := by
    rw [BitVec.ofInt_natCast, BitVec.toNat_ofNat]
    exact Nat.mod_eq_of_lt (by omega)
  rw [BitVec.toNat_or, ea, eb]
  have e : k * 2 ^ s ||| m = k * 2 ^ s + m := by rw [← Nat.shiftLeft_eq, ← Nat.shiftLeft_add_eq_or_of_lt hm]
  rw [e]
  clear ea eb e
  generalize k * 2 ^ s = w at *
  unfold wu
  rw [wrapU_id (n := ((w + m : Nat) : Int)) (Int.natCast_nonneg _) (by omega)]
  exact Int.natCast_add _ _
def Fdv : List D → Option (Bool × List D)
  | [.v (.int .u64 h), .v (.int .u64 l), .v (.int .u64 y)] => some (uR h && uR l && uR y && decide (h < y), [.v (u64 (wd h l / y)), .v (u64 (wd h l % y))])
  | _ => none
/-- Two digits: quotient and rest. -/
theorem dv_join {Y y p N u c d q1 v q0 r : Int} (hp : 0 < p) (hY : Y = y * p) (hN : N * p = u * 18446744073709551616 + (c * 4294967296 + d)) (h1 : u * 4294967296 + c = q1 * Y + v) (h2 : v * 4294967296 + d = q0 * Y + r) (hr0 : 0 ≤ r) (hr1 : r < Y) (hy : 0 < y) :
    N / y = q1 * 4294967296 + q0 ∧ N % y = r / p := by
  have h3 : N * p = (q1 * 4294967296 + q0) * y * p + r := by
    rw [Int.mul_assoc, ← hY, Int.add_mul, Int.mul_assoc q1, Int.mul_comm 4294967296 Y, ← Int.mul_assoc]
    omega
  generalize q1 * 4294967296 + q0 = Q at *
  have h4 : r = (N - Q * y) * p := by rw [Int.sub_mul]; omega
  have h5 : 0 ≤ N - Q * y := by
    rcases Int.lt_or_le (N - Q * y) 0 with h | h
    · have := Int.mul_neg_of_neg_of_pos h hp
      omega
    · exact h
  have h6 : N - Q * y < y := by
    rw [h4, hY] at hr1
    exact Int.lt_of_mul_lt_mul_right hr1 (Int.le_of_lt hp)
  have h7 : N / y = Q := by
    rw [show N = (N - Q * y) + Q * y by omega, Int.add_mul_ediv_right _ _ (by omega), Int.ediv_eq_zero_of_lt h5 h6, Int.zero_add]
  refine ⟨h7, ?_⟩
  have h8 := Int.mul_ediv_add_emod N y
  rw [h7, Int.mul_comm] at h8
  rw [h4, Int.mul_ediv_cancel _ (by omega)]
  omega
theorem den_div64 : Den Try.prog 34 Fdv := evF_den C8_ok fun ds rs hh => by
  unfold Fdv at hh
  split at hh
  · rename_i h l y
    simp only [Option.some.injEq, Prod.mk.injEq, Bool.and_eq_true, uR_iff, decide_eq_true_eq] at hh
    obtain ⟨⟨⟨⟨⟨h0, h1⟩, l0, l1⟩, y0, y1⟩, hy⟩, rfl⟩ := hh
    refine (tdv dvB h l y).trans ?_
    unfold dvT
    rw [show (y == 0) = false from beq_eq_false_iff_ne.mpr (by omega), br_false, decide_eq_false (show ¬ y ≤ h by omega), br_false, decide_eq_false (show ¬ y = 0 by omega)]
    by_cases hz : h = 0
    · subst hz
      rw [show ((0 : Int) == 0) = true from rfl, br_true, br_false, br_false, Int.tdiv_eq_ediv_of_nonneg l0, Int.tmod_eq_emod_of_nonneg l0, show wd 0 l = l by unfold wd; omega]
      have := Int.ediv_nonneg l0 (show 0 ≤ y by omega)
      have h9 := Int.ediv_le_self y l0
      unfold wu
      rw [wrapU_id (n := l / y) (by omega) (by omega)]
      rfl
    · rw [show (h == 0) = false by simpa using hz, br_false, show (uR y && decide (0 < y)) = true by simp only [Bool.and_eq_true, uR_iff, decide_eq_true_eq]; omega, br_true]
      obtain ⟨s, hs, s63, n0, n1⟩ := lz_spec y (by omega) y1
      have hp : (0 : Int) < 2 ^ s := Int.pow_pos (by decide)
      have hm : (0 : Int) < 2 ^ (64 - s) := Int.pow_pos (by decide)
      have hpm : (2 : Int) ^ (64 - s) * 2 ^ s = 18446744073709551616 := by rw [← Int.pow_add, show 64 - s + s = 64 by omega]; rfl
      unfold dv0
      rw [hs, show wu (s : Int) = s from wrapU_id (by omega) (by omega), decide_eq_false (show ¬ (s : Int) < 0 by omega), show wu (64 - (s : Int)) = 64 - s from wrapU_id (by omega) (by omega), decide_eq_false (show ¬ (64 - (s : Int)) < 0 by omega)]
      rw [br_false, br_false, br_false, br_false]
      have k1 : sh y s = y * 2 ^ s := by
        unfold sh
        rw [Int.toNat_natCast, Nat.min_eq_left (by omega)]
        exact wrapU_id (by omega) n1
      have hhY : h * 2 ^ s + 2 ^ s ≤ y * 2 ^ s := by
        have := Int.mul_le_mul_of_nonneg_right (show h + 1 ≤ y by omega) (Int.le_of_lt hp)
        rw [Int.add_mul, Int.one_mul] at this
        exact this
      have hh0 : 0 ≤ h * 2 ^ s := Int.mul_nonneg h0 (Int.le_of_lt hp)
      have k2 : sh h s = h * 2 ^ s := by
        unfold sh
        rw [Int.toNat_natCast, Nat.min_eq_left (by omega)]
        exact wrapU_id hh0 (by omega)
      have k3 : sr l (64 - (s : Int)) = l / 2 ^ (64 - s) := by
        unfold sr
        rw [show (64 - (s : Int)).toNat = 64 - s by omega, Nat.min_eq_left (by omega), Int.fdiv_eq_ediv_of_nonneg _ (Int.le_of_lt hm)]
      have d0 := Int.ediv_nonneg l0 (Int.le_of_lt hm)
      have d1 : l / 2 ^ (64 - s) < 2 ^ s := by
        rw [Int.ediv_lt_iff_lt_mul hm, Int.mul_comm, hpm]
        exact l1
      have d2 := Int.mul_ediv_add_emod l (2 ^ (64 - s))
      have d3 := Int.emod_nonneg l (Int.ne_of_gt hm)
      have d4 := Int.emod_lt_of_pos l hm
      have k4 : l * 2 ^ s = (l / 2 ^ (64 - s)) * 18446744073709551616 + l % 2 ^ (64 - s) * 2 ^ s := by
        rw [← hpm, ← Int.mul_assoc, ← Int.add_mul, Int.mul_comm (l / 2 ^ (64 - s)), d2]
      have k5 : 0 ≤ l % 2 ^ (64 - s) * 2 ^ s := Int.mul_nonneg d3 (Int.le_of_lt hp)
      have k6 : l % 2 ^ (64 - s) * 2 ^ s < 18446744073709551616 := by rw [← hpm]; exact Int.mul_lt_mul_of_pos_right d4 hp
      have k7 : sh l s = l % 2 ^ (64 - s) * 2 ^ s := by
        unfold sh wu
        rw [Int.toNat_natCast, Nat.min_eq_left (by omega), wrapU, k4]
        omega
      rw [k1, k2, k3, k7]
      rw [orS (h * 2 ^ s) (l / 2 ^ (64 - s)) s (by omega) h h0 rfl (by omega) d0 d1 (by omega)]
      have hN : wd h l * 2 ^ s = (h * 2 ^ s + l / 2 ^ (64 - s)) * 18446744073709551616 + l % 2 ^ (64 - s) * 2 ^ s := by
        unfold wd
        rw [Int.add_mul, Int.mul_assoc h, Int.mul_comm 18446744073709551616, ← Int.mul_assoc, k4]
        omega
      generalize hY : y * 2 ^ s = Y at *
      generalize hU : h * 2 ^ s + l / 2 ^ (64 - s) = u at *
      generalize hW : l % 2 ^ (64 - s) * 2 ^ s = w at *
      have u0 : 0 ≤ u ∧ u < Y := by omega
      clear hhY hh0 k1 k2 k3 d0 d1 d2 d3 d4 k4 k7 hU hW hm hpm
      have a1 : hiW Y = Y / 4294967296 := shrM Y (by omega)
      have a2 : loW Y = Y % 4294967296 := andM Y (by omega) (by omega)
      have a3 : hiW w = w / 4294967296 := shrM w (by omega)
      have a4 : loW w = w % 4294967296 := andM w (by omega) (by omega)
      rw [a1, a2, a3, a4]
      have hw : w = w / 4294967296 * 4294967296 + w % 4294967296 := by omega
      have c0 : 0 ≤ w / 4294967296 ∧ w / 4294967296 < 4294967296 := by omega
      have c1 : 0 ≤ w % 4294967296 ∧ w % 4294967296 < 4294967296 := by omega
      generalize w / 4294967296 = c at *
      generalize w % 4294967296 = d at *
      have ha : 2147483648 ≤ Y / 4294967296 ∧ Y / 4294967296 < 4294967296 := by omega
      have hb : 0 ≤ Y % 4294967296 ∧ Y % 4294967296 < 4294967296 := by omega
      have hab : Y = Y / 4294967296 * 4294967296 + Y % 4294967296 := by omega
      generalize Y / 4294967296 = a at *
      generalize Y % 4294967296 = b at *
      obtain ⟨f1, f2, f3⟩ := dv_init hb ha hab u0 c0
      have Y0 : 0 < Y ∧ Y < 18446744073709551616 := by omega
      have v0 : 0 ≤ (u * 4294967296 + c) % Y ∧ (u * 4294967296 + c) % Y < Y := ⟨Int.emod_nonneg _ (by omega), Int.emod_lt_of_pos _ Y0.1⟩
      obtain ⟨g1, g2, g3⟩ := dv_init hb ha hab v0 c1
      obtain ⟨s1, s2⟩ := qs_lt u0.1 u0.2 c0.1 c0.2
      obtain ⟨t1, t2⟩ := qs_lt v0.1 v0.2 c1.1 c1.2
      unfold dv1
      rw [f1, f2, show dvB Y a b u c (u / a) (u - u / a * a) = true from decide_eq_true f3, decide_eq_false (show ¬ a = 0 by omega), br_false, br_true]
      unfold dv2
      rw [dv_rest Y0, g1, g2, show dvB Y a b ((u * 4294967296 + c) % Y) d ((u * 4294967296 + c) % Y / a) ((u * 4294967296 + c) % Y - (u * 4294967296 + c) % Y / a * a) = true from decide_eq_true g3, decide_eq_false (show ¬ a = 0 by omega), br_false, br_true]
      unfold dv3
      rw [dv_rest Y0, decide_eq_false (show ¬ (s : Int) < 0 by omega), br_false, Int.toNat_natCast, Nat.min_eq_left (by omega), Int.fdiv_eq_ediv_of_nonneg _ (Int.le_of_lt hp)]
      have e1 := Int.mul_ediv_add_emod (u * 4294967296 + c) Y
      have e2 := Int.mul_ediv_add_emod ((u * 4294967296 + c) % Y * 4294967296 + d) Y
      rw [Int.mul_comm] at e1 e2
      obtain ⟨j1, j2⟩ := dv_join (N := wd h l) (u := u) (c := c) (d := d) hp hY.symm (by rw [hN]; omega) e1.symm e2.symm (Int.emod_nonneg _ (by omega)) (Int.emod_lt_of_pos _ Y0.1) (by omega)
      rw [← j2, j1]
      generalize (u * 4294967296 + c) / Y = q1 at *
      generalize ((u * 4294967296 + c) % Y * 4294967296 + d) / Y = q0 at *
      unfold wu
      rw [wrapU_id (n := q1 * 4294967296) (by omega) (by omega), wrapU_id (n := q1 * 4294967296 + q0) (by omega) (by omega)]
      rfl
  · cases hh
end Go.Proofs.Ytofkkhdmjllcfaa

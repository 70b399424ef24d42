/- Package ledger: Groups: contract. No conditions. -/
import Derived.Test.YtpblmkephkhlkaaDoorE7
namespace Go.Proofs.YtpblmkephkhlkaaDoor
open Go.Ev
set_option linter.all false
theorem win_self {b : Row} (h : 0 < b.n) : winOf b 0 b.n = b := by
  cases b with
  | nil => cases h
  | mk n I B S R => rfl
theorem ckE_win (b : Row) : ckE (winOf b 0 b.n) = ckE b := by
  by_cases h : 0 < b.n
  · rw [win_self h]
  · have h0 : b.n = 0 := by omega
    have h1 : (winOf b 0 b.n).n = 0 := h0
    unfold ckE
    rw [if_pos (by omega), if_pos (by omega)]
theorem rsR_lt (b : Row) : ∀ (m j : Nat) (x : Nat × Row), x.1 < 2 ^ j → (rsR b m j x).1 < 2 ^ (j + m)
  | 0, j, x, h => h
  | m + 1, j, x, h => by
    unfold rsR
    rw [show j + (m + 1) = (j + 1) + m by omega]
    refine rsR_lt b m (j + 1) _ ?_
    have hp2 : 2 ^ (j + 1) = 2 * 2 ^ j := by rw [Nat.pow_succ, Nat.mul_comm]
    unfold rsU
    dsimp only
    split
    · exact Nat.or_lt_two_pow (by omega) (by omega)
    · omega
/-- The best grouping, where the search comes to an end. -/
def gpO (b : Row) : Option Row := grS (mostR b) b.n 64 (rsR b b.n 0 (0, Row.zeros b.n)).1 0 (rsR b b.n 0 (0, Row.zeros b.n)).2
def gpC (b : Row) : Bool := ckE b != 0 || (gpO b).isSome
def gpR (b : Row) : Row := if ckE b ≠ 0 then .nil else match gpO b with | some o => winOf o 0 b.n | none => .nil
def Fgroups : List D → Option (Bool × List D)
  | [.slice [.int .i64] b] => some (gpC b, [.slice ks1 (gpR b), .v (i64 (ckE b))])
  | _ => none
theorem den_groups : DenW Tryd.prog Wt 9 Fgroups := evF_denW C3_ok fun ds rs h => by
  unfold Fgroups at h
  split at h
  · rename_i b
    simp only [Option.some.injEq, Prod.mk.injEq] at h
    obtain ⟨hc, rfl⟩ := h
    refine (tgroups in7 in20 in26 gs15 b).trans ?_
    rw [ckE_win]
    unfold gpR
    by_cases hk : ckE b = 0
    · have hn : 1 ≤ b.n ∧ b.n ≤ 10 := by
        unfold ckE at hk
        split at hk
        · cases hk
        · omega
      have hp : 2 ^ b.n ≤ 2 ^ 10 := Nat.pow_le_pow_right (by decide) hn.2
      have hlt := rsR_lt b b.n 0 (0, Row.zeros b.n) (show 0 < 2 ^ 0 by decide)
      rw [Nat.zero_add] at hlt
      unfold gpC at hc
      rw [show (ckE b != 0) = false by simpa using hk, Bool.false_or] at hc
      rw [show (ckE b != 0) = false by simpa using hk, br_false, win_self (by omega), Int.toNat_natCast, show (decide (0 ≤ (b.n : Int)) && decide ((b.n : Int) ≤ (b.n : Int)) && decide ((b.n : Int) ≤ 100000000000)) = true by simp only [Bool.and_eq_true, decide_eq_true_eq]; omega, br_true,
        show in7 b.n b.n b.n b.n = true from decide_eq_true ⟨rfl, rfl, by omega⟩, br_true, decide_eq_true (show b.n ≤ 20 by omega), br_true, if_neg (fun h => h hk)]
      have hm : (mostR b).n = 2 ^ b.n := rfl
      have hg : gs15 b.n b.n (mostR b).n (rsR b b.n 0 (0, Row.zeros b.n)).1 (rsR b b.n 0 (0, Row.zeros b.n)).2 (mostR b) = gpO b := by
        unfold gs15 gpO
        rw [hm, if_pos ⟨by omega, by omega, by omega, rfl, by omega⟩, Int.toNat_natCast]
      rw [hg]
      cases ho : gpO b with
      | none => rw [ho] at hc; cases hc
      | some o => rw [hk]
    · rw [show (ckE b != 0) = true by simpa using hk, br_true, if_pos hk]; rfl
  · cases h
end Go.Proofs.YtpblmkephkhlkaaDoor

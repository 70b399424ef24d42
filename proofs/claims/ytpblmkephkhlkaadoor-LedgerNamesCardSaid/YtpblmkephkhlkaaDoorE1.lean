/- Package ledger, tied cards: the table of math/bits, the number of zeros at a number's end. No conditions. -/
import Derived.Test.YtpblmkephkhlkaaDoorEvZ
import Derived.Test.YtpblmkephkhlkaaDoorRows
import Derived.Shelf.Spec.TrailingZeros
import Derived.WalkKit
namespace Go.Proofs.YtpblmkephkhlkaaDoor
open Go.Ev Go.RowKit
set_option linter.all false
/-- The table lies as its text lays it. -/
def Wt (w : World) : Prop := TabAt 1 Lib.deBruijn64tab w ∧ 1 < w.heap.size
theorem Wt.later {w w' : World} (h : Wt w) (hb : Below w.heap.size w w') : Wt w' := ⟨fun j hj => by rw [hb.cell (p := ⟨1, j, none⟩) h.2]; exact h.1 j hj, Nat.lt_of_lt_of_le h.2 hb.size⟩
set_option maxHeartbeats 1000000 in
theorem tz_core (x k idx : Nat) (w : World) (hx0 : ((x : Int) == 0) = false)
    (key : IntKind.u64.wrap (bits BinOp.and IntKind.u64 (x : Int) (IntKind.u64.wrap (-(x : Int))) * 285870213051353865) / 288230376151711744 = (idx : Int))
    (hi : idx < 64) (hk : k < 64) (hcell : w.cell? ⟨1, idx, none⟩ = some (.int .u8 k)) :
    Calls Tryd.prog 43 #[.int .u64 x] w fun e w' => e = .returned (.int .i64 k) ∧ w' = w := by
  go_enter Tryd.func43, Tryd.ntmps43
  go_wp2_with (simp only [key])
  go_ret
  exact ⟨rfl, rfl⟩
def u64 (n : Int) : Value := .int .u64 n
/-- How many zeros stand at a number's end. -/
def ctzI (x : Int) : Int := (Lib.ctz 64 x.toNat : Int)
def Ftz : List D → Option (Bool × List D)
  | [.v (.int .u64 x)] => some (decide (0 < x) && decide (x < 18446744073709551616), [.v (i64 (ctzI x))])
  | _ => none
theorem den_tz : DenW Tryd.prog Wt 43 Ftz := denW_of_calls (fun _ _ h hb => h.later hb) fun ds rs h => by
  unfold Ftz at h
  split at h
  · rename_i x
    simp only [Option.some.injEq, Prod.mk.injEq, Bool.and_eq_true, decide_eq_true_eq] at h
    obtain ⟨⟨h0, h1⟩, rfl⟩ := h
    refine ⟨[.int .u64 x], [i64 (ctzI x)], rfl, rfl, fun y hy => ?_, fun y hy => ?_, fun w hw => ?_⟩
    · rw [List.mem_singleton.1 hy]; rfl
    · rw [List.mem_singleton.1 hy]; rfl
    · obtain ⟨x, rfl⟩ := Int.eq_ofNat_of_zero_le (Int.le_of_lt h0)
      obtain ⟨hlow, hk⟩ := Lib.lowest_bit 64 x (by omega) (by omega)
      obtain ⟨hi, htab⟩ := Lib.deBruijn64_at _ hk
      have hcell := hw.1 _ hi
      rw [htab] at hcell
      have := tz_core x _ _ w (by simp; omega) (tz64_key x _ (by omega) (by omega) hlow) hi hk hcell
      exact this
  · cases h
end Go.Proofs.YtpblmkephkhlkaaDoor

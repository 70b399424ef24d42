/- The law AppealBound: whatever comes in, its function gives true. No conditions. -/
import Derived.Test.YtlejhkmkdajneaaA14
namespace Go.Proofs.Ytlejhkmkdajneaa
open Go.Ev Go.ChangeShapes Go.WideShapes Go.ChangeAt Go.RowKit
set_option linter.all false
def boundT (oe : Int) (c : Ms) (A : Ms × Nat × Int) (T : Ct) (s : Row) (l r : Int) : Option (List D) :=
  br (oe != 0) (some [.v (.bool (true))]) (br (decide ((↑s.n : Int) > 100)) (some [.v (.bool (true))]) (br (chkE c != 0) (some [.v (.bool (false))]) (br (decide ((↑A.2.1 : Int) > (↑s.n : Int))) (some [.v (.bool (false))]) (br (chkE A.1 != 0) (some [.v (.bool (false))]) (br (decide (0 ≤ (↑A.2.1 : Int)) && decide ((↑A.2.1 : Int) ≤ (↑s.n : Int)) && decide (s.n ≤ 1000)) (br (decide (T.dn ≤ bdN c)) (br (bdN c == IntKind.i64.wrap (l + r)) (br (A.1.lev == T.lv) (br (A.1.rd == T.bk) (some [.v (.bool (A.1.aw == T.aw))]) (some [.v (.bool (false))])) (some [.v (.bool (false))])) (some [.v (.bool (false))])) (some [.v (.bool (false))])) (none))))))
theorem tbound' (l d r cl : Int) (s : Row) : evF C12 6 5 [.v (i64 l), .v (i64 d), .v (i64 r), .v (i64 cl), .slice ksV s] =
  boundT (opE l d r cl 0) (opC l d r cl 0) (rpR (opC l d r cl 0) (winOf s 0 s.n)) (ctR s (rpR (opC l d r cl 0) (winOf s 0 s.n)).2.1 0 ⟨0, 0, 0, 0⟩) s l r := tbound l d r cl s
theorem law_bound (l d r cl : Int) (s : Row) : evF C12 6 5 [.v (i64 l), .v (i64 d), .v (i64 r), .v (i64 cl), .slice ksV s] = some [.v (.bool true)] := by
  rw [tbound']
  by_cases hg : goodM (newM l d r cl 0)
  · have e1 : opE l d r cl 0 = 0 := if_pos hg
    have e2 : opC l d r cl 0 = newM l d r cl 0 := if_pos hg
    rw [e1, e2]
    by_cases hn : s.n ≤ 100
    · have hr : rpR (newM l d r cl 0) (winOf s 0 s.n) = runG (rE s) (rN s) s.n 0 (newM l d r cl 0) := rp_run (r := winOf s 0 s.n) hg hn
      rw [hr]
      have hJ0 : Jn l r (newM l d r cl 0) ⟨0, 0, 0, 0⟩ := ⟨hg, rfl, rfl, rfl, rfl, rfl, fun _ => rfl, fun h => absurd rfl h⟩
      have hJ := jn_run s s.n 0 _ _ hJ0
      have lA := runG_le (e := rE s) (nx := rN s) (m := s.n) (j := 0) (c := newM l d r cl 0)
      rw [Nat.sub_zero] at hJ
      have hb : bdN (newM l d r cl 0) = l + r := if_pos hg
      have hg' := hg
      simp only [goodM, newM] at hg'
      generalize runG (rE s) (rN s) s.n 0 (newM l d r cl 0) = A at *
      obtain ⟨A1, A2, A3⟩ := A
      dsimp only at *
      generalize ctR s A2 0 ⟨0, 0, 0, 0⟩ = T at *
      obtain ⟨j0, j1, j2, j3, j4, j5, j6, j7⟩ := hJ
      have j0' := j0
      simp only [goodM] at j0'
      unfold boundT
      dsimp only
      rw [chk0 hg, chk0 j0, hb, wrap64 (by omega) (by omega), j3, j4, j5, show decide (T.dn ≤ l + r) = true from decide_eq_true (by
        by_cases h1 : A1.st = 1
        · have := j6 h1; omega
        · have := j7 h1; omega), show decide ((s.n : Int) > 100) = false from decide_eq_false (by omega), show decide ((A2 : Int) > (s.n : Int)) = false from decide_eq_false (by omega),
        show (decide (0 ≤ (A2 : Int)) && decide ((A2 : Int) ≤ (s.n : Int)) && decide (s.n ≤ 1000)) = true by simp only [Bool.and_eq_true, decide_eq_true_eq]; omega]
      simp only [beq_self_eq_true]
      rfl
    · unfold boundT
      rw [show decide ((s.n : Int) > 100) = true from decide_eq_true (by omega)]
      rfl
  · have e1 : opE l d r cl 0 = 2 := if_neg hg
    rw [e1]
    rfl

set_option maxRecDepth 100000 in
theorem appealBound_lifted (os : Os) (started : os.Started) (H : Type) (enc : TypeId × Value → H) :
    ReturnsInHanded {} Try.checked os 5 .any (Rows.appealBoundSpec.pre6 enc Try.prog Try.f5 Rows.appealBoundRow.domain false) (Rows.appealBoundSpec.post enc Try.prog Try.f5 false true false false) :=
  lifted_true (C := C12) C12_ok (K := Try.checked) rfl (f := 5) (d := 5) (e := 6) (fn := Try.f5) (t4 := 4) (sh := [(false, [.int .i64]), (false, [.int .i64]), (false, [.int .i64]), (false, [.int .i64]), (false, [.slice ksV])]) own (by kernel_rfl) Try.func5 laidOut (by kernel_rfl) (by kernel_rfl) Try.underlying4 rfl
    (fun H ds h => by
      have h : ds.length = 5 := h
      match ds, h with
      | [d1, d2, d3, d4, d5], _ => rfl)
    (by kernel_rfl)
    (fun Ds h => by
      cases h with
      | one c h =>
      cases c with
      | int w0_0 =>
      cases h with
      | one c h =>
      cases c with
      | int w1_0 =>
      cases h with
      | one c h =>
      cases c with
      | int w2_0 =>
      cases h with
      | one c h =>
      cases c with
      | int w3_0 =>
      cases h with
      | one c h =>
      cases c with
      | slice w4_0 =>
      cases h
      exact law_bound _ _ _ _ _)
    started (ChangeSpec.witness6 (enc := enc) (C := Try.checked) false ⟨#[], #[.int .i64 0, .int .i64 0, .int .i64 0, .int .i64 0, .slice none 0 0], []⟩ 8 (by kernel_rfl) (by kernel_rfl) (by kernel_rfl) (by kernel_rfl))

theorem appealBound_over : Rows.appealBoundRow.holds Try.pinned (OpenSpec.ofChange Rows.appealBoundSpec) :=
  OpenClaim.holds_of_wide 5 Try.f5 rfl rfl rfl rfl rfl rfl rfl ⟨rfl, rfl, rfl, rfl, rfl⟩ rfl rfl rfl rfl rfl (by kernel_rfl) Try.func5 (by kernel_rfl)
    (of_decide_eq_true (by kernel_rfl)) (by unfold Func.isWrapper; first | (rw [if_pos (by decide +kernel)]; kernel_rfl) | (rw [if_neg (by decide +kernel)]; exact ⟨rfl, rfl⟩))
    (fun os started H enc _ => appealBound_lifted os started H enc)

theorem appealBound_said : Rows.AppealBoundSaid := appealBound_over
#print axioms appealBound_said
end Go.Proofs.Ytlejhkmkdajneaa

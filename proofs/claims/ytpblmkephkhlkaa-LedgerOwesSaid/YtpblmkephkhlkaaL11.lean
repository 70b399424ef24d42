/- LedgerOwes: whatever number, expense and expenses come in, the law's function gives true. No conditions. -/
import Derived.Test.YtpblmkephkhlkaaL10
namespace Go.Proofs.Ytpblmkephkhlkaa
open Go.Ev Go.ChangeShapes Go.WideShapes Go.ChangeAt Go.RowKit

noncomputable def C4 : Cx := mkCx Try.prog fns [(9, F9), (10, F10), (11, F11), (12, F11), (13, F13), (14, F13)] []
theorem C4_ok : CxOk C4 := mkCx_ok enter mixed (fun p h => by
  simp only [List.mem_cons, List.not_mem_nil, or_false] at h
  rcases h with rfl | rfl | rfl | rfl | rfl | rfl
  · exact den9
  · exact den10
  · exact den11
  · exact den12
  · exact den13
  · exact den14) (fun l h => by cases h)

theorem t4 (n b c : Int) (x r : Row) : evF C4 6 4 [.v (i64 n), ex b c x, .slice ksE r] =
    br (decide ((winOf r 0 r.n).n ≤ big)) (br (anyF (lng (winOf r 0 r.n)) (winOf r 0 r.n).n 0 || decide ((↑(winOf r 0 r.n).n : Int) > 210)) (some [.v (.bool (true))]) (br (decide ((↑x.n : Int) > 20)) (some [.v (.bool (true))]) (br (decide ((winOf x 0 x.n).n ≤ 1000)) (br (decide ((winOf x 0 x.n).n ≤ 1000)) (br (!anyF (wide (winOf r 0 r.n)) (winOf r 0 r.n).n 0) (br (!anyF (wide (winOf r 0 r.n)) (winOf r 0 r.n).n 0) (br (decide ((winOf (shR n b c (winOf x 0 x.n)) 0 (shR n b c (winOf x 0 x.n)).n).n ≤ big)) (br (same (winOf (shR n b c (winOf x 0 x.n)) 0 (shR n b c (winOf x 0 x.n)).n) (winOf (shR n b c (winOf x 0 x.n)) 0 (shR n b c (winOf x 0 x.n)).n)) (br (shE n b c (winOf x 0 x.n) == shE n b c (winOf x 0 x.n)) (br (decide ((winOf (owR n (winOf r 0 r.n)) 0 (owR n (winOf r 0 r.n)).n).n ≤ big)) (br (same (winOf (owR n (winOf r 0 r.n)) 0 (owR n (winOf r 0 r.n)).n) (winOf (owR n (winOf r 0 r.n)) 0 (owR n (winOf r 0 r.n)).n)) (some [.v (.bool (owE n (winOf r 0 r.n) == owE n (winOf r 0 r.n)))]) (some [.v (.bool (false))])) (none)) (some [.v (.bool (false))])) (some [.v (.bool (false))])) (none)) (none)) (none)) (none)) (none)))) (none) := by kernel_rfl

theorem shR_n (n b c : Int) (r : Row) : (shR n b c r).n ≤ 10 := by
  unfold shR
  cases hc : (shE n b c r != 0)
  · simp only [bne_eq_false_iff_eq] at hc
    unfold shE partiesB at hc
    cases h1 : decide (n ≥ 1) <;> cases h2 : decide (n ≤ 10) <;> simp [h1, h2] at hc
    simp only [decide_eq_true_eq] at h1 h2
    show n.toNat ≤ 10
    omega
  · exact Nat.zero_le _
theorem owR_n (n : Int) (r : Row) : (owR n r).n ≤ 10 := by
  unfold owR
  cases hc : (owE n r != 0)
  · simp only [bne_eq_false_iff_eq] at hc
    unfold owE partiesB at hc
    cases h1 : decide (n ≥ 1) <;> cases h2 : decide (n ≤ 10) <;> simp [h1, h2] at hc
    simp only [decide_eq_true_eq] at h1 h2
    show n.toNat ≤ 10
    omega
  · exact Nat.zero_le _
theorem law4 (n b c : Int) (x r : Row) (hr : r.n ≤ maxLen) : evF C4 6 4 [.v (i64 n), ex b c x, .slice ksE r] = some [.v (.bool true)] := by
  rw [t4]
  have h1 : decide ((winOf r 0 r.n).n ≤ big) = true := decide_eq_true hr
  rw [h1]
  cases h2 : anyF (lng (winOf r 0 r.n)) (winOf r 0 r.n).n 0
  · have h3 : anyF (wide (winOf r 0 r.n)) (winOf r 0 r.n).n 0 = false := by
      rw [anyF_false] at h2 ⊢
      intro i hi1 hi2
      have := h2 i hi1 hi2
      simp only [lng, wide, decide_eq_false_iff_not] at this ⊢
      omega
    rw [h3]
    have h4 : decide ((winOf (shR n b c (winOf x 0 x.n)) 0 (shR n b c (winOf x 0 x.n)).n).n ≤ big) = true := by
      have := shR_n n b c (winOf x 0 x.n)
      exact decide_eq_true (show (shR n b c (winOf x 0 x.n)).n ≤ 9223372036854775807 by omega)
    have h5 : decide ((winOf (owR n (winOf r 0 r.n)) 0 (owR n (winOf r 0 r.n)).n).n ≤ big) = true := by
      have := owR_n n (winOf r 0 r.n)
      exact decide_eq_true (show (owR n (winOf r 0 r.n)).n ≤ 9223372036854775807 by omega)
    rw [h4, h5, same_self, same_self, beq_self_eq_true, beq_self_eq_true]
    cases h6 : decide ((↑(winOf r 0 r.n).n : Int) > 210)
    · cases h7 : decide ((↑x.n : Int) > 20)
      · have h8 : decide ((winOf x 0 x.n).n ≤ 1000) = true := by
          simp only [decide_eq_false_iff_not] at h7
          exact decide_eq_true (show x.n ≤ 1000 by omega)
        rw [h8]
        rfl
      · rfl
    · rfl
  · rfl

theorem own : ownKnob Try.prog.godebug = none := by kernel_rfl
theorem laidOut : laidOutB Try.prog = true := by kernel_rfl

set_option maxRecDepth 100000 in
theorem owes_lifted (os : Os) (started : os.Started) (H : Type) (enc : TypeId × Value → H) :
    ReturnsInHanded {} Try.checked os 4 .any (Rows.ledgerOwesSpec.pre6 enc Try.prog Try.f4 Rows.ledgerOwesRow.domain false) (Rows.ledgerOwesSpec.post enc Try.prog Try.f4 false true false false) :=
  lifted_true (C := C4) C4_ok (K := Try.checked) rfl (f := 4) (d := 5) (e := 6) (fn := Try.f4) (t4 := 4) (sh := [(false, [.int .i64]), (true, [.int .i64, .int .i64, .slice [.int .i64]]), (false, [.slice ksE])]) own (by kernel_rfl) Try.func4 laidOut (by kernel_rfl) (by kernel_rfl) Try.underlying4 rfl
    (fun H ds h => by
      have h : ds.length = 3 := h
      match ds, h with
      | [d1, d2, d3], _ => rfl)
    (by kernel_rfl)
    (fun Ds h => by
      cases h with
      | one h1 h2 =>
        cases h1
        cases h2 with
        | agg h3 h4 =>
          cases h3 with
          | cons a1 h3 =>
          cases h3 with
          | cons a2 h3 =>
          cases h3 with
          | cons a3 h3 =>
          cases h3
          cases a1
          cases a2
          cases a3
          cases h4 with
          | one h5 h6 =>
            cases h5 with
            | slice hw =>
              cases h6
              cases hw with
              | mk hn _ => exact law4 _ _ _ _ _ hn)
    started (ChangeSpec.witness6 (enc := enc) (C := Try.checked) false ⟨#[], #[.int .i64 0, .agg #[.int .i64 0, .int .i64 0, .slice none 0 0], .slice none 0 0], []⟩ 8 (by kernel_rfl) (by kernel_rfl) (by kernel_rfl) (by kernel_rfl))

theorem owes_over : Rows.ledgerOwesRow.holds Try.pinned (OpenSpec.ofChange Rows.ledgerOwesSpec) :=
  OpenClaim.holds_of_wide 4 Try.f4 rfl rfl rfl rfl rfl rfl rfl ⟨rfl, rfl, rfl, rfl, rfl⟩ rfl rfl rfl rfl rfl (by kernel_rfl) Try.func4 (by kernel_rfl)
    (of_decide_eq_true (by kernel_rfl)) (by unfold Func.isWrapper; first | (rw [if_pos (by decide +kernel)]; kernel_rfl) | (rw [if_neg (by decide +kernel)]; exact ⟨rfl, rfl⟩))
    (fun os started H enc _ => owes_lifted os started H enc)

theorem owes_said : Rows.LedgerOwesSaid := owes_over
#print axioms owes_said
end Go.Proofs.Ytpblmkephkhlkaa

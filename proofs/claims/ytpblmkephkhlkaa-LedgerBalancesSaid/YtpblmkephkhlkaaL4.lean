/- LedgerBalances: whatever number and payments come in, the law's function gives true. No conditions. -/
import Derived.Test.YtpblmkephkhlkaaL3
namespace Go.Proofs.Ytpblmkephkhlkaa
open Go.Ev Go.ChangeShapes Go.WideShapes Go.ChangeAt Go.RowKit

noncomputable def C3 : Cx := mkCx Try.prog fns [(5, F5), (6, F5), (7, F7), (8, F7), (9, F9)] []
theorem C3_ok : CxOk C3 := mkCx_ok enter mixed (fun p h => by
  simp only [List.mem_cons, List.not_mem_nil, or_false] at h
  rcases h with rfl | rfl | rfl | rfl | rfl
  · exact den5
  · exact den6
  · exact den7
  · exact den8
  · exact den9) (fun l h => by cases h)

/-- The row that is handed to a callee. -/
def wr (r : Row) : Row := winOf r 0 r.n

theorem t3 (n : Int) (r : Row) : evF C3 6 3 (pay n r) =
    br (decide ((r.n : Int) > 210)) (some [.v (.bool true)]) (br (chk n (wr r) == chk n (wr r))
      (br (decide ((wr (bal n (wr r))).n ≤ big)) (br (same (wr (bal n (wr r))) (wr (bal n (wr r)))) (some [.v (.bool (chk n (wr r) == chk n (wr r)))]) (some [.v (.bool false)])) none) (some [.v (.bool false)])) := by kernel_rfl

theorem bal_n (n : Int) (r : Row) : (bal n r).n ≤ 10 := by
  unfold bal
  cases hc : (chk n r != 0)
  · obtain ⟨h1, h2, _⟩ := chk_zero hc
    show n.toNat ≤ 10
    omega
  · exact Nat.zero_le _

theorem law3 (n : Int) (r : Row) : evF C3 6 3 (pay n r) = some [.v (.bool true)] := by
  rw [t3]
  have h1 : decide ((wr (bal n (wr r))).n ≤ big) = true := by
    have h2 := bal_n n (wr r)
    exact decide_eq_true (show (bal n (wr r)).n ≤ 1000000000000 by omega)
  rw [h1, same_self, show (chk n (wr r) == chk n (wr r)) = true by simp]
  cases decide ((r.n : Int) > 210) <;> rfl

theorem own : ownKnob Try.prog.godebug = none := by kernel_rfl
theorem laidOut : laidOutB Try.prog = true := by kernel_rfl

set_option maxRecDepth 100000 in
theorem balances_lifted (os : Os) (started : os.Started) (H : Type) (enc : TypeId × Value → H) :
    ReturnsInHanded {} Try.checked os 3 .any (Rows.ledgerBalancesSpec.pre6 enc Try.prog Try.f3 Rows.ledgerBalancesRow.domain false) (Rows.ledgerBalancesSpec.post enc Try.prog Try.f3 false true false false) :=
  lifted_true (C := C3) C3_ok (K := Try.checked) rfl (f := 3) (d := 5) (e := 6) (fn := Try.f3) (t4 := 4) (sh := [(false, [.int .i64]), (false, [.slice ks3])]) own (by kernel_rfl) Try.func3 laidOut (by kernel_rfl) (by kernel_rfl) Try.underlying4 rfl
    (fun H ds h => by
      have h : ds.length = 2 := h
      match ds, h with
      | [d1, d2], _ => rfl)
    (by kernel_rfl)
    (fun Ds h => by
      cases h with
      | one h1 h2 =>
        cases h1
        cases h2 with
        | one h3 h4 =>
          cases h3
          cases h4
          exact law3 _ _)
    started (ChangeSpec.witness6 (enc := enc) (C := Try.checked) false ⟨#[], #[.int .i64 0, .slice none 0 0], []⟩ 8 (by kernel_rfl) (by kernel_rfl) (by kernel_rfl) (by kernel_rfl))

theorem balances_over : Rows.ledgerBalancesRow.holds Try.pinned (OpenSpec.ofChange Rows.ledgerBalancesSpec) :=
  OpenClaim.holds_of_wide 3 Try.f3 rfl rfl rfl rfl rfl rfl rfl ⟨rfl, rfl, rfl, rfl, rfl⟩ rfl rfl rfl rfl rfl (by kernel_rfl) Try.func3 (by kernel_rfl)
    (of_decide_eq_true (by kernel_rfl)) (by unfold Func.isWrapper; first | (rw [if_pos (by decide +kernel)]; kernel_rfl) | (rw [if_neg (by decide +kernel)]; exact ⟨rfl, rfl⟩))
    (fun os started H enc _ => balances_lifted os started H enc)

theorem balances_said : Rows.LedgerBalancesSaid := balances_over
#print axioms balances_said
end Go.Proofs.Ytpblmkephkhlkaa

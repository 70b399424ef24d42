/- Lists of kinds are compared; DocketCases. No conditions. -/
import Derived.Test.YtiiaimghkmlhlaaD5
namespace Go.Proofs.Ytiiaimghkmlhlaa
open Go.Ev Go.ChangeShapes Go.WideShapes Go.ChangeAt Go.RowKit
set_option linter.all false
def Fsame : List D → Option (Bool × List D)
  | [.slice [.int .u8] r, .slice [.int .u8] s] => some (decide (r.n ≤ big), [.v (.bool (sameR r s))])
  | _ => none
def S18 (len len2 : Nat) (j : Int) (r s : Row) : St := { τ := [.slice (some ⟨0, 0, some 0⟩) len 0, .slice (some ⟨1, 0, some 0⟩) len2 0] ++ us 3 ++ [i64 j] ++ us 20, saved := [[]], mem := [some (.row [.int .u8] false r), some (.row [.int .u8] false s)] }
def S18r : St := { τ := us 4 ++ [.bool false] ++ us 21, saved := [[]], mem := [] }
def S18x : St := { τ := us 26, saved := [[]], mem := [] }
def G18 : List It → (X → St → Option (List D)) → Option (List D)
  | [.n len, .n len2, .r r, .r s], k => br (decide (len ≤ big) && decide ((len : Int) = (len2 : Int))) (br (anyF (neI r s) len 0) (k .ret S18r) (k (.exit 0) S18x)) none
  | _, _ => none
def l18 : LoopC where
  f := 18
  id := 4
  lv := [0, 1, 5]
  lx := [4]
  p := { τ := [.v (.sl 0), .v (.sl 1)] ++ pu 3 ++ [.v (.c (i64 0))] ++ pu 20, saved := [[]], mem := [.row [.int .u8] false, .row [.int .u8] false] }
  G := G18
noncomputable def C18 : Cx := mkCx Try.prog fns [] [l18]
theorem round18 (d : Nat) (R : St → Option (List D)) (K : X → St → Option (List D)) (len len2 : Nat) (j : Nat) (r s : Row) :
    evCode C18 18 true (inl C18 (d + 4)) (lbody C18.P 18 4) (S18 len len2 j r s) (rnd [0, 1, 5] (some [4]) R K) =
    br (decide ((j : Int) < len)) (br (decide (0 ≤ (j : Int)) && decide ((j : Int) < len)) (br (decide (0 ≤ (j : Int)) && decide ((j : Int) < len2))
      (br (r.I (0 + j) 0 != s.I (0 + j) 0) (K .ret S18r) (R (S18 len len2 (IntKind.i64.wrap (j + 1)) r s))) none) none) (K (.exit 0) S18x) := by kernel_rfl
theorem loop18 : LoopOk C18 l18 := ⟨by kernel_rfl, fun d its k rr h => by
  show rounds [0, 1, 5] (some [4]) (evCode C18 18 true (inl C18 (d + 4)) (lbody C18.P 18 4)) 18446744073709551616 (bst l18.p its) k = some rr
  change G18 its k = some rr at h
  unfold G18 at h
  split at h
  · rename_i len len2 r s
    rcases br_some h with ⟨h1, h2⟩ | ⟨_, h2⟩
    · simp only [Bool.and_eq_true, decide_eq_true_eq] at h1
      obtain ⟨h4, h3⟩ := h1
      have h1 : len ≤ 9223372036854775807 := h4
      obtain rfl : len = len2 := by omega
      rw [← h2]
      exact rounds_scan (S := fun j => S18 len len j r s) (len := len) (bad := neI r s) (Kb := fun K => K .ret S18r) (Ke := fun K => K (.exit 0) S18x)
        (fun j hj R K => by
          rw [round18, wrap64 (by omega) (by omega), show decide ((j : Int) < (len : Int)) = true by simpa using hj, show (decide (0 ≤ (j : Int))) = true by simp, Nat.zero_add]
          rfl)
        (fun R K => by
          rw [round18, show decide ((len : Int) < (len : Int)) = false by simp]
          rfl) k len 0 (by omega) _ (by omega)
    · cases h2
  · cases h⟩
theorem C18_ok : CxOk C18 := mkCx_ok enter mixed (fun p h => by cases h) (fun l h => by
  simp only [List.mem_singleton] at h
  subst h
  exact loop18)
theorem t18 (r s : Row) : evF C18 6 18 [.slice [.int .u8] r, .slice [.int .u8] s] =
    br ((r.n : Int) != (s.n : Int)) (some [.v (.bool false)]) (br (decide (r.n ≤ big) && decide ((r.n : Int) = (s.n : Int))) (br (anyF (neI r s) r.n 0) (some [.v (.bool false)]) (some [.v (.bool true)])) none) := by kernel_rfl
theorem den_same : Den Try.prog 18 Fsame := evF_den C18_ok fun ds rs h => by
  unfold Fsame at h
  split at h
  · rename_i r s
    simp only [Option.some.injEq, Prod.mk.injEq] at h
    obtain ⟨h, rfl⟩ := h
    refine (t18 r s).trans ?_
    rw [h]
    unfold sameR
    cases hn : ((r.n : Int) != (s.n : Int))
    · have : decide ((r.n : Int) = (s.n : Int)) = true := by simpa using hn
      rw [this]
      cases anyF (neI r s) r.n 0 <;> rfl
    · rfl
  · cases h

noncomputable def C7 : Cx := mkCx Try.prog fns [(10, Fop), (11, Fop), (12, Fat), (13, Fat), (14, Falp), (15, Falr), (16, Fchk), (17, Fchk), (18, Fsame)] []
theorem C7_ok : CxOk C7 := mkCx_ok enter mixed (fun p h => by
  simp only [List.mem_cons, List.not_mem_nil, or_false] at h
  rcases h with rfl | rfl | rfl | rfl | rfl | rfl | rfl | rfl | rfl
  · exact den_op
  · exact den_opr
  · exact den_at
  · exact den_atr
  · exact den_alp
  · exact den_alr
  · exact den_chk
  · exact den_chkr
  · exact den_same) (fun l h => by cases h)
theorem tcases (c : Cs) (a e d x cl day : Int) : evF C7 6 3 [csD c, .agg [.v (i64 a), .v (i64 e), .v (i64 d), .v (i64 x)], .v (i64 cl), .v (i64 day)] =
    br (u8B c.st) (br (u8B c.st) (br (u8B c.st) (br (u8B c.st) (br (u8B c.st) (br (u8B c.st) (br (chkE c == chkE c) (br ((opC a e d x cl day).an == (opC a e d x cl day).an && ((opC a e d x cl day).ev == (opC a e d x cl day).ev && ((opC a e d x cl day).de == (opC a e d x cl day).de && ((opC a e d x cl day).ex == (opC a e d x cl day).ex && true))) && ((opC a e d x cl day).cl == (opC a e d x cl day).cl && ((opC a e d x cl day).st == (opC a e d x cl day).st && ((opC a e d x cl day).day == (opC a e d x cl day).day && ((opC a e d x cl day).due == (opC a e d x cl day).due && ((opC a e d x cl day).xd == (opC a e d x cl day).xd && ((opC a e d x cl day).e0 == (opC a e d x cl day).e0 && ((opC a e d x cl day).e1 == (opC a e d x cl day).e1 && true) && ((opC a e d x cl day).aw == (opC a e d x cl day).aw && true)))))))) (br (opE a e d x cl day == opE a e d x cl day) (br ((atC c day).an == (atC c day).an && ((atC c day).ev == (atC c day).ev && ((atC c day).de == (atC c day).de && ((atC c day).ex == (atC c day).ex && true))) && ((atC c day).cl == (atC c day).cl && ((atC c day).st == (atC c day).st && ((atC c day).day == (atC c day).day && ((atC c day).due == (atC c day).due && ((atC c day).xd == (atC c day).xd && ((atC c day).e0 == (atC c day).e0 && ((atC c day).e1 == (atC c day).e1 && true) && ((atC c day).aw == (atC c day).aw && true)))))))) (br (atE c day == atE c day) (br (decide ((winOf (alR { an := c.an, ev := c.ev, de := c.de, ex := c.ex, cl := c.cl, st := c.st, day := c.day, due := c.due, xd := c.xd, e0 := c.e0, e1 := c.e1, aw := c.aw : Cs } day) 0 (alR { an := c.an, ev := c.ev, de := c.de, ex := c.ex, cl := c.cl, st := c.st, day := c.day, due := c.due, xd := c.xd, e0 := c.e0, e1 := c.e1, aw := c.aw : Cs } day).n).n ≤ big)) (br (sameR (winOf (alR c day) 0 (alR c day).n) (winOf (alS c day) 0 (alS c day).n)) (some [.v (.bool (atE c day == atE c day))]) (some [.v (.bool (false))])) (none)) (some [.v (.bool (false))])) (some [.v (.bool (false))])) (some [.v (.bool (false))])) (some [.v (.bool (false))])) (some [.v (.bool (false))])) (none)) (none)) (none)) (none)) (none)) (none) := by kernel_rfl
end Go.Proofs.Ytiiaimghkmlhlaa

/- LedgerNames: the limits, groupings, errors: the law. No conditions. -/
import Derived.Test.YtpblmkephkhlkaaDoorE31
import Derived.Test.YtpblmkephkhlkaaDoorE42
namespace Go.Proofs.YtpblmkephkhlkaaDoor.Nm
open Go.Ev Go.Proofs.YtpblmkephkhlkaaDoor.Mk
set_option linter.all false
def Fgv (gc : Row → Bool) (gr : Row → Row) : List D → Option (Bool × List D)
  | [.slice [.int .i64] b] => some (gc b, [.slice ks1 (gr b), .v (i64 (ckE b))])
  | _ => none
noncomputable def C40 (gc : Row → Bool) (gr : Row → Row) : Cx := mkCx Tryd.prog fns [(9, Fgv gc gr), (13, Lg.F9)] []
theorem tg (gc : Row → Bool) (gr : Row → Row) (b w : Row) : evF (C40 gc gr) 6 26 [.slice ks1 b, .slice ks1 w] =
    br (gc (winOf b 0 b.n)) (br (ckE (winOf b 0 b.n) == 0) (br (decide ((winOf (gr (winOf b 0 b.n)) 0 (gr (winOf b 0 b.n)).n).n ≤ Lg.big)) (some [.v (.bool (Lg.same (winOf (gr (winOf b 0 b.n)) 0 (gr (winOf b 0 b.n)).n) (winOf w 0 w.n)))]) (none)) (some [.v (.bool (false))])) (none) := by kernel_rfl
theorem C40_ok : CxW (C40 gpC gpR) Wt := mkCx_okW enter mixed (fun p h => by
  simp only [List.mem_cons, List.not_mem_nil, or_false] at h
  rcases h with rfl | rfl
  · exact den_groups
  · exact Lg.den9.at _) (fun l h => by cases h)
/-- The best grouping is the one that is written. -/
def grC (b w : Row) : Bool := gpC (winOf b 0 b.n) && ckE (winOf b 0 b.n) == 0 && decide ((winOf (gpR (winOf b 0 b.n)) 0 (gpR (winOf b 0 b.n)).n).n ≤ Lg.big) && Lg.same (winOf (gpR (winOf b 0 b.n)) 0 (gpR (winOf b 0 b.n)).n) (winOf w 0 w.n)
def Fgn (g : Row → Row → Bool) : List D → Option (Bool × List D)
  | [.slice [.int .i64] b, .slice [.int .i64] w] => some (g b w, [.v (.bool true)])
  | _ => none
theorem den_gr : DenW Tryd.prog Wt 26 (Fgn grC) := evF_denW C40_ok fun ds rs h => by
  unfold Fgn at h
  split at h
  · rename_i b w
    simp only [Option.some.injEq, Prod.mk.injEq] at h
    obtain ⟨hc, rfl⟩ := h
    unfold grC at hc
    simp only [Bool.and_eq_true] at hc
    refine (tg gpC gpR b w).trans ?_
    rw [hc.1.1.1, br_true, hc.1.1.2, br_true, hc.1.2, br_true, hc.2]
  · cases h
noncomputable def C41 (g : Row → Row → Bool) : Cx := mkCx Tryd.prog fns [(15, Falive), (26, Fgn g), (13, Lg.F9), (11, Se.Fsettle), (27, Lg.F5), (24, Lg.F11), (23, Lg.F13)] []
theorem tnames (g : Row → Row → Bool) : evF (C41 g) 6 7 [] =
    br (g (winOf ((Row.zeros 1).setI 0 0 0) 0 1) (winOf ((Row.zeros 1).setI 0 0 (-1)) 0 1)) (br (g (winOf ((((Row.zeros 3).setI 0 0 0).setI 1 0 0).setI 2 0 0) 0 3) (winOf ((((Row.zeros 3).setI 0 0 (-1)).setI 1 0 (-1)).setI 2 0 (-1)) 0 3)) (br (g (winOf ((((Row.zeros 3).setI 0 0 3).setI 1 0 0).setI 2 0 (-3)) 0 3) (winOf ((((Row.zeros 3).setI 0 0 0).setI 1 0 (-1)).setI 2 0 0) 0 3)) (br (g (winOf (((((Row.zeros 4).setI 0 0 1).setI 1 0 1).setI 2 0 (-1)).setI 3 0 (-1)) 0 4) (winOf (((((Row.zeros 4).setI 0 0 0).setI 1 0 1).setI 2 0 0).setI 3 0 1) 0 4)) (br (g (winOf (((((Row.zeros 4).setI 0 0 1).setI 1 0 2).setI 2 0 3).setI 3 0 (-6)) 0 4) (winOf (((((Row.zeros 4).setI 0 0 0).setI 1 0 0).setI 2 0 0).setI 3 0 0) 0 4)) (br (g (winOf ((((((Row.zeros 5).setI 0 0 4).setI 1 0 (-1)).setI 2 0 (-3)).setI 3 0 5).setI 4 0 (-5)) 0 5) (winOf ((((((Row.zeros 5).setI 0 0 0).setI 1 0 0).setI 2 0 0).setI 3 0 1).setI 4 0 1) 0 5)) (br (g (winOf (((((((((((Row.zeros 10).setI 0 0 1).setI 1 0 2).setI 2 0 3).setI 3 0 4).setI 4 0 5).setI 5 0 (-5)).setI 6 0 (-4)).setI 7 0 (-3)).setI 8 0 (-2)).setI 9 0 (-1)) 0 10) (winOf (((((((((((Row.zeros 10).setI 0 0 0).setI 1 0 1).setI 2 0 2).setI 3 0 3).setI 4 0 4).setI 5 0 4).setI 6 0 3).setI 7 0 2).setI 8 0 1).setI 9 0 0) 0 10)) (br (g (winOf (((Row.zeros 2).setI 0 0 1000000000).setI 1 0 (-1000000000)) 0 2) (winOf (((Row.zeros 2).setI 0 0 0).setI 1 0 0) 0 2)) (some [.v (.bool (true))]) (none)) (none)) (none)) (none)) (none)) (none)) (none)) (none) := by kernel_rfl
theorem C41_ok : CxW (C41 grC) Wt := mkCx_okW enter mixed (fun p h => by
  simp only [List.mem_cons, List.not_mem_nil, or_false] at h
  rcases h with rfl | rfl | rfl | rfl | rfl | rfl | rfl
  · exact den_alive
  · exact den_gr
  · exact Lg.den9.at _
  · exact Se.den_settle
  · exact Lg.den5.at _
  · exact Lg.den11.at _
  · exact Lg.den13.at _) (fun l h => by cases h)
theorem gr_ten {b w : Row} (hn : b.n = 10) (hb : ∀ i, i < 10 → b.I i 0 = tenL i) (hw : w.n = 10 ∧ ∀ i, i < 10 → w.I i 0 = tenG i) (hck : ckE (winOf b 0 10) = 0) : grC b w = true := by
  obtain ⟨t1, t2, t3⟩ := Ten.groups (b := winOf b 0 10) ⟨winOf_n, hb⟩
  have hs : Lg.same (winOf (gpR (winOf b 0 10)) 0 10) (winOf w 0 10) = true := by
    have h0 : anyF (Lg.neI (winOf (gpR (winOf b 0 10)) 0 10) (winOf w 0 10)) 10 0 = false := anyF_false.2 fun i _ hi => by
      show ((gpR (winOf b 0 10)).I i 0 != w.I i 0) = false
      rw [t3 i (by omega), hw.2 i (by omega)]
      simp
    unfold Lg.same
    rw [winOf_n, winOf_n, h0]
    rfl
  unfold grC
  rw [hn, hw.1, t1, hck, t2, hs, winOf_n]
  rfl
theorem law_names : evF (C41 grC) 6 7 [] = some [.v (.bool true)] := by
  refine (tnames grC).trans ?_
  rw [show grC (winOf ((Row.zeros 1).setI 0 0 0) 0 1) (winOf ((Row.zeros 1).setI 0 0 (-1)) 0 1) = true by kernel_rfl, br_true,
    show grC (winOf ((((Row.zeros 3).setI 0 0 0).setI 1 0 0).setI 2 0 0) 0 3) (winOf ((((Row.zeros 3).setI 0 0 (-1)).setI 1 0 (-1)).setI 2 0 (-1)) 0 3) = true by kernel_rfl, br_true,
    show grC (winOf ((((Row.zeros 3).setI 0 0 3).setI 1 0 0).setI 2 0 (-3)) 0 3) (winOf ((((Row.zeros 3).setI 0 0 0).setI 1 0 (-1)).setI 2 0 0) 0 3) = true by kernel_rfl, br_true,
    show grC (winOf (((((Row.zeros 4).setI 0 0 1).setI 1 0 1).setI 2 0 (-1)).setI 3 0 (-1)) 0 4) (winOf (((((Row.zeros 4).setI 0 0 0).setI 1 0 1).setI 2 0 0).setI 3 0 1) 0 4) = true by kernel_rfl, br_true,
    show grC (winOf (((((Row.zeros 4).setI 0 0 1).setI 1 0 2).setI 2 0 3).setI 3 0 (-6)) 0 4) (winOf (((((Row.zeros 4).setI 0 0 0).setI 1 0 0).setI 2 0 0).setI 3 0 0) 0 4) = true by kernel_rfl, br_true,
    show grC (winOf ((((((Row.zeros 5).setI 0 0 4).setI 1 0 (-1)).setI 2 0 (-3)).setI 3 0 5).setI 4 0 (-5)) 0 5) (winOf ((((((Row.zeros 5).setI 0 0 0).setI 1 0 0).setI 2 0 0).setI 3 0 1).setI 4 0 1) 0 5) = true by kernel_rfl, br_true,
    gr_ten rfl (fun i hi => by
      have : i = 0 ∨ i = 1 ∨ i = 2 ∨ i = 3 ∨ i = 4 ∨ i = 5 ∨ i = 6 ∨ i = 7 ∨ i = 8 ∨ i = 9 := by omega
      rcases this with rfl | rfl | rfl | rfl | rfl | rfl | rfl | rfl | rfl | rfl <;> rfl) ⟨rfl, fun i hi => by
      have : i = 0 ∨ i = 1 ∨ i = 2 ∨ i = 3 ∨ i = 4 ∨ i = 5 ∨ i = 6 ∨ i = 7 ∨ i = 8 ∨ i = 9 := by omega
      rcases this with rfl | rfl | rfl | rfl | rfl | rfl | rfl | rfl | rfl | rfl <;> rfl⟩ (by kernel_rfl), br_true,
    show grC (winOf (((Row.zeros 2).setI 0 0 1000000000).setI 1 0 (-1000000000)) 0 2) (winOf (((Row.zeros 2).setI 0 0 0).setI 1 0 0) 0 2) = true by kernel_rfl, br_true]
end Go.Proofs.YtpblmkephkhlkaaDoor.Nm

/- The program's Div: contract. No conditions. -/
import Derived.Test.YtofkkhdmjllcfaaR7
namespace Go.Proofs.Ytofkkhdmjllcfaa
open Go.Ev
set_option linter.all false
def diN (n d m e : Int) : Int := if chk2 n d m e = 0 then (if m = 0 then 0 else if m < 0 then prN n d (-e) (-m) else prN n d e m) else 0
def diD (n d m e : Int) : Int := if chk2 n d m e = 0 then (if m = 0 then 0 else if m < 0 then prD n d (-e) (-m) else prD n d e m) else 0
def diE (n d m e : Int) : Int := if chk2 n d m e = 0 then (if m = 0 then 18 else if m < 0 then prE n d (-e) (-m) else prE n d e m) else chk2 n d m e
def Fdi : List D → Option (Bool × List D)
  | [.agg [.v (.int .i64 n), .v (.int .i64 d)], .agg [.v (.int .i64 m), .v (.int .i64 e)]] => some (iR n && iR d && iR m && iR e, [.agg [.v (i64 (diN n d m e)), .v (i64 (diD n d m e))], .v (i64 (diE n d m e))])
  | _ => none
noncomputable def C4 : Cx := mkCx Try.prog fns [(27, Fboth), (29, Fboth), (7, Fpr), (5, Fmake), (6, Fmake), (11, Ffloor), (12, Ffloor)] []
theorem C4_ok : CxOk C4 := mkCx_ok enter mixed (fun p h => by
  simp only [List.mem_cons, List.not_mem_nil, or_false] at h
  rcases h with rfl | rfl | rfl | rfl | rfl | rfl | rfl
  · exact den_check
  · exact den_both
  · exact den_mulp
  · exact den_make
  · exact den_maker
  · exact den_floor
  · exact den_floorr) (fun l h => by cases h)
theorem tdiv (n d m e : Int) : evF C4 6 9 [.agg [.v (i64 n), .v (i64 d)], .agg [.v (i64 m), .v (i64 e)]] =
    br (iR n && iR d && iR m && iR e) (br (chk2 n d m e != 0) (some [.agg [.v (i64 (0)), .v (i64 (0))], .v (i64 (chk2 n d m e))]) (br (m == 0) (some [.agg [.v (i64 (0)), .v (i64 (0))], .v (i64 (18))]) (br (decide (m < 0)) (br (iR n && iR d && iR (IntKind.i64.wrap (0 - e)) && iR (IntKind.i64.wrap (0 - m))) (some [.agg [.v (i64 (prN n d (IntKind.i64.wrap (0 - e)) (IntKind.i64.wrap (0 - m)))), .v (i64 (prD n d (IntKind.i64.wrap (0 - e)) (IntKind.i64.wrap (0 - m))))], .v (i64 (prE n d (IntKind.i64.wrap (0 - e)) (IntKind.i64.wrap (0 - m))))]) (none)) (br (iR n && iR d && iR e && iR m) (some [.agg [.v (i64 (prN n d e m)), .v (i64 (prD n d e m))], .v (i64 (prE n d e m))]) (none))))) (none) := by kernel_rfl
theorem den_div : Den Try.prog 9 Fdi := evF_den C4_ok fun ds rs h => by
  unfold Fdi at h
  split at h
  · rename_i n d m e
    simp only [Option.some.injEq, Prod.mk.injEq] at h
    obtain ⟨h0, rfl⟩ := h
    refine (tdiv n d m e).trans ?_
    rw [h0, br_true]
    simp only [Bool.and_eq_true] at h0
    obtain ⟨⟨⟨h1, h2⟩, h3⟩, h4⟩ := h0
    unfold diN diD diE
    by_cases hc : chk2 n d m e = 0
    · obtain ⟨_, ⟨e1, e2⟩, ⟨m1, m2⟩, _⟩ := chk2_good hc
      rw [show (chk2 n d m e != 0) = false by simpa using hc, if_pos hc, if_pos hc, if_pos hc, wrapI_id (n := 0 - e) (by omega) (by omega), wrapI_id (n := 0 - m) (by omega) (by omega), Int.zero_sub, Int.zero_sub,
        show (iR n && iR d && iR (-e) && iR (-m)) = true by
          simp only [Bool.and_eq_true]
          exact ⟨⟨⟨h1, h2⟩, iR_iff.mpr (by omega)⟩, iR_iff.mpr (by omega)⟩,
        show (iR n && iR d && iR e && iR m) = true by
          simp only [Bool.and_eq_true]
          exact ⟨⟨⟨h1, h2⟩, h4⟩, h3⟩]
      by_cases hm : m = 0
      · rw [show (m == 0) = true by simpa using hm, if_pos hm, if_pos hm, if_pos hm]; rfl
      · rw [show (m == 0) = false by simpa using hm, if_neg hm, if_neg hm, if_neg hm]
        by_cases hn : m < 0
        · rw [decide_eq_true hn, if_pos hn, if_pos hn, if_pos hn]; rfl
        · rw [decide_eq_false hn, if_neg hn, if_neg hn, if_neg hn]; rfl
    · rw [show (chk2 n d m e != 0) = true by simpa using hc, if_neg hc, if_neg hc, if_neg hc]; rfl
  · cases h
end Go.Proofs.Ytofkkhdmjllcfaa

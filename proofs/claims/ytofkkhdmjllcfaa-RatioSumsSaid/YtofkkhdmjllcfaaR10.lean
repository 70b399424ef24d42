/- The reference's Div: contract; the law RatioProducts. No conditions. -/
import Derived.Test.YtofkkhdmjllcfaaR9
namespace Go.Proofs.Ytofkkhdmjllcfaa
open Go.Ev
set_option linter.all false
theorem den_divr : Den Try.prog 10 Fdi := evF_den C5_ok fun ds rs h => by
  unfold Fdi at h
  split at h
  · rename_i n d m e
    simp only [Option.some.injEq, Prod.mk.injEq] at h
    obtain ⟨h0, rfl⟩ := h
    refine (tdivr n d m e).trans ?_
    rw [h0, br_true]
    simp only [Bool.and_eq_true] at h0
    obtain ⟨⟨⟨h1, h2⟩, h3⟩, h4⟩ := h0
    unfold diN diD diE
    by_cases hc : chk2 n d m e = 0
    · obtain ⟨_, ⟨e1, e2⟩, ⟨m1, m2⟩, _⟩ := chk2_good hc
      rw [show (chk2 n d m e != 0) = false by simpa using hc, if_pos hc, if_pos hc, if_pos hc, wrapI_id (n := 0 - e) (by omega) (by omega), wrapI_id (n := 0 - m) (by omega) (by omega), Int.zero_sub, Int.zero_sub,
        show (iR n && iR d && iR (-e) && iR (-m)) = true by
          simp only [Bool.and_eq_true]
          exact ⟨⟨⟨h1, h2⟩, iR_iff.mpr (by omega)⟩, iR_iff.mpr (by omega)⟩,
        show (iR n && iR d && iR e && iR m) = true by
          simp only [Bool.and_eq_true]
          exact ⟨⟨⟨h1, h2⟩, h4⟩, h3⟩]
      by_cases hm : m = 0
      · rw [show (m == 0) = true by simpa using hm, if_pos hm, if_pos hm, if_pos hm]; rfl
      · rw [show (m == 0) = false by simpa using hm, if_neg hm, if_neg hm, if_neg hm]
        by_cases hn : m < 0
        · rw [decide_eq_true hn, if_pos hn, if_pos hn, if_pos hn]; rfl
        · rw [decide_eq_false hn, if_neg hn, if_neg hn, if_neg hn]; rfl
    · rw [show (chk2 n d m e != 0) = true by simpa using hc, if_neg hc, if_neg hc, if_neg hc]; rfl
  · cases h
noncomputable def C6 : Cx := mkCx Try.prog fns [(7, Fpr), (8, Fpr), (5, Fmake), (6, Fmake), (11, Ffloor), (12, Ffloor), (9, Fdi), (10, Fdi)] []
theorem C6_ok : CxOk C6 := mkCx_ok enter mixed (fun p h => by
  simp only [List.mem_cons, List.not_mem_nil, or_false] at h
  rcases h with rfl | rfl | rfl | rfl | rfl | rfl | rfl | rfl
  · exact den_mulp
  · exact den_mulr
  · exact den_make
  · exact den_maker
  · exact den_floor
  · exact den_floorr
  · exact den_div
  · exact den_divr) (fun l h => by cases h)
theorem tprod (a b n d m e : Int) : evF C6 6 3 [.v (i64 a), .v (i64 b), .agg [.v (i64 n), .v (i64 d)], .agg [.v (i64 m), .v (i64 e)]] =
    br (iR a && iR b) (br (iR a && iR b) (br (iR n && iR d && iR m && iR e) (br (iR n && iR d && iR m && iR e) (br (iR n && iR d && iR m && iR e) (br (iR n && iR d && iR m && iR e) (br (iR n && iR d) (br (iR n && iR d) (br (makeN a b == makeN a b && (makeD a b == makeD a b && true)) (br (makeE a b == makeE a b) (br (prN n d m e == prN n d m e && (prD n d m e == prD n d m e && true)) (br (prE n d m e == prE n d m e) (br (diN n d m e == diN n d m e && (diD n d m e == diD n d m e && true)) (br (diE n d m e == diE n d m e) (br (floN n d == floN n d) (some [.v (.bool (chkE n d == chkE n d))]) (some [.v (.bool (false))])) (some [.v (.bool (false))])) (some [.v (.bool (false))])) (some [.v (.bool (false))])) (some [.v (.bool (false))])) (some [.v (.bool (false))])) (some [.v (.bool (false))])) (none)) (none)) (none)) (none)) (none)) (none)) (none)) (none) := by kernel_rfl
end Go.Proofs.Ytofkkhdmjllcfaa

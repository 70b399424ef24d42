/- RatioField: the law's function gives true. No conditions. -/
import Derived.Test.YtofkkhdmjllcfaaDoorQ16
namespace Go.Proofs.YtofkkhdmjllcfaaDoor
open Go.Ev Go.RowKit Go.Dec
set_option linter.all false
theorem br_yes {b : Bool} {x y : Option (List D)} (h : b = true) : br b x y = x := by rw [h]; rfl
theorem br_no {b : Bool} {x y : Option (List D)} (h : b = false) : br b x y = y := by rw [h]; rfl
theorem iR4 {n d m e : Int} (h1 : goodR n d) (h2 : goodR m e) : (iR n && iR d && iR m && iR e) = true := by
  obtain ⟨a, b⟩ := Su.good_iR h1
  obtain ⟨a', b'⟩ := Su.good_iR h2
  rw [a, b, a', b']; rfl
theorem same2 {n d m e : Int} (h1 : n = m) (h2 : d = e) : (n == m && (d == e && true)) = true := by
  rw [h1, h2, beq_self_eq_true, beq_self_eq_true]; rfl
theorem fT3_yes {n d : Int} (h : goodR n d) : fT3 (fun n d => txt (txL n d)) chkE (fun s => rpN (by_ s)) (fun s => rpD (by_ s)) (fun s => rpE (by_ s)) n d = yes := by
  obtain ⟨i1, i2⟩ := Su.good_iR h
  obtain ⟨r1, r2, r3⟩ := rp_complete h
  have l1 := itoa_len i1
  have l2 := itoa_len i2
  have hl : (txL n d).length ≤ 50 := by
    unfold txL
    rw [if_pos (chk_of_good h)]
    split
    · rw [List.length_append, List.length_cons]; omega
    · omega
  unfold fT3
  dsimp only
  rw [i1, i2, chk_of_good h, by_txt, r1, r2, r3, txt_size]
  refine (br_yes rfl).trans ((br_yes (decide_eq_true (by omega))).trans ((br_yes rfl).trans ((br_yes rfl).trans (br_yes (same2 rfl rfl)))))
theorem fT1_yes {n d m e : Int} (h1 : goodR n d) (h2 : goodR m e) (t : Option (List D)) : fT1 adN adD adE sbN sbD sbE n d m e t = t := by
  unfold fT1
  refine (br_yes (iR4 h1 h2)).trans ?_
  by_cases h0 : sbE n d m e = 0
  · refine (br_yes (by rw [h0]; rfl)).trans ?_
    obtain ⟨_, _, _, g, hq⟩ := (Ra.sb_is h1 h2).zero h0
    have hi := Ra.ad_is g h2
    rw [hq, Rat.sub_add_cancel] at hi
    obtain ⟨z1, z2, z3⟩ := hi.ok (Ra.good_fit h1)
    obtain ⟨y1, y2⟩ := Ra.good_rat h1
    refine (br_yes (iR4 g h2)).trans ?_
    rw [z1, z2, z3, y1, y2]
    exact (br_no rfl).trans (br_no (by rw [same2 rfl rfl]; rfl))
  · exact br_no (by simpa using h0)
theorem fT2_yes {n d m e : Int} (h1 : goodR n d) (h2 : goodR m e) (t : Option (List D)) : fT2 prN prD prE diN diD diE n d m e t = t := by
  unfold fT2
  refine (br_yes (iR4 h1 h2)).trans ?_
  by_cases hm : m = 0
  · have h18 : diE n d m e = 18 := by
      unfold diE
      rw [if_pos (Ra.good2 h1 h2), if_pos hm]
    rw [h18, hm]
    exact (br_no rfl).trans (br_no rfl)
  · obtain ⟨q, hq, hi⟩ := Ra.di_is h1 h2 hm
    have h18 : diE n d m e ≠ 18 := by
      rcases hi.or with h | h <;> omega
    refine (br_no (by rw [show (diE n d m e == 18) = false by simpa using h18, show (m == 0) = false by simpa using hm]; rfl)).trans ?_
    by_cases h0 : diE n d m e = 0
    · refine (br_yes (by rw [h0]; rfl)).trans ?_
      obtain ⟨_, _, _, g, hg⟩ := hi.zero h0
      have hj := Ra.pr_is g h2
      rw [hg, hq] at hj
      obtain ⟨z1, z2, z3⟩ := hj.ok (Ra.good_fit h1)
      obtain ⟨y1, y2⟩ := Ra.good_rat h1
      refine (br_yes (iR4 g h2)).trans ?_
      rw [z1, z2, z3, y1, y2]
      exact (br_no rfl).trans (br_no (by rw [same2 rfl rfl]; rfl))
    · exact br_no (by simpa using h0)
theorem fT0_yes {n d m e : Int} (hr : iR n = true ∧ iR d = true ∧ iR m = true ∧ iR e = true) {t : Option (List D)} (ht : goodR n d → goodR m e → t = yes) : fT0 vaB adN adD adE prN prD prE n d m e t = yes := by
  obtain ⟨a1, a2, a3, a4⟩ := hr
  unfold fT0
  rw [a1, a2, a3, a4]
  refine (br_yes rfl).trans ?_
  by_cases hv : vaB n d m e n d = true
  · obtain ⟨h1, h2, _⟩ := va_iff.1 hv
    rw [ht h1 h2]
    obtain ⟨s1, s2, s3⟩ := (Ra.ad_is h1 h2).same (by rw [Rat.add_comm]; exact Ra.ad_is h2 h1)
    obtain ⟨p1, p2, p3⟩ := (Ra.pr_is h1 h2).same (by rw [Rat.mul_comm]; exact Ra.pr_is h2 h1)
    refine (br_no (by rw [hv]; rfl)).trans ((br_yes rfl).trans ((br_yes rfl).trans ((br_yes rfl).trans ((br_yes rfl).trans ?_))))
    refine (br_no (by rw [same2 s1 s2]; rfl)).trans ((br_no (by rw [s3]; simp)).trans ((br_no (by rw [same2 p1 p2]; rfl)).trans ((br_no (by rw [p3]; simp)).trans ?_)))
    rcases (Ra.ad_is h1 h2).or with ha | ha <;> rcases (Ra.pr_is h1 h2).or with hb | hb <;> rw [ha, hb] <;> rfl
  · rw [show vaB n d m e n d = false by simpa using hv]
    rfl
theorem law_field {n d m e : Int} (h1 : iR n = true) (h2 : iR d = true) (h3 : iR m = true) (h4 : iR e = true) :
    evF (CF vaB adN adD adE sbN sbD sbE prN prD prE diN diD diE (fun n d => txt (txL n d)) chkE (fun s => rpN (by_ s)) (fun s => rpD (by_ s)) (fun s => rpE (by_ s))) 6 4 [.agg [.v (i64 n), .v (i64 d)], .agg [.v (i64 m), .v (i64 e)]] = some [.v (.bool true)] :=
  (tfield _ _ _ _ _ _ _ _ _ _ _ _ _ _ _ _ _ _ n d m e).trans (fT0_yes ⟨h1, h2, h3, h4⟩ fun g1 g2 => by rw [fT1_yes g1 g2, fT2_yes g1 g2, fT3_yes g1])
end Go.Proofs.YtofkkhdmjllcfaaDoor

/- RatioLaws: the tree. No conditions. -/
import Derived.Test.YtofkkhdmjllcfaaDoorQ17
namespace Go.Proofs.YtofkkhdmjllcfaaDoor
open Go.Ev Go.RowKit Go.Dec
set_option linter.all false
noncomputable def CL (va : Int → Int → Int → Int → Int → Int → Bool) (an ad ae pn pd pe : Int → Int → Int → Int → Int) (cw : Row → Bool) (sn sd se : Row → Int) : Cx :=
  mkCx Tryd.prog fns [(14, Fvv va), (16, Fo an ad ae), (17, Fo pn pd pe), (12, Fsv cw sn sd se), (15, Falive)] []
theorem CL_ok : CxW (CL vaB adN adD adE prN prD prE (fun r => decide ((r.n : Int) > 100) || Su.wf2 r r.n) suN suD suE) Wt := mkCx_okW enter mixed (fun p h => by
  simp only [List.mem_cons, List.not_mem_nil, or_false] at h
  rcases h with rfl | rfl | rfl | rfl | rfl
  · exact den_valid.at _
  · exact den_addp.at _
  · exact den_mulp.at _
  · exact den_sum.at _
  · exact den_alive) (fun l h => by cases h)
def row3 (n d m e k f : Int) : Row := winOf (((((((Row.zeros 3).setI 0 0 n).setI 0 1 d).setI 1 0 m).setI 1 1 e).setI 2 0 k).setI 2 1 f) 0 3
/-- The operation put together in two ways. -/
def fAs (on od oe : Int → Int → Int → Int → Int) (n d m e k f : Int) (t : Option (List D)) : Option (List D) :=
  br (iR n && iR d && iR m && iR e) (br (iR m && iR e && iR k && iR f) (br (iR (on n d m e) && iR (od n d m e) && iR k && iR f) (br (iR n && iR d && iR (on m e k f) && iR (od m e k f)) (br (oe n d m e == 0) (br (oe m e k f == 0)
    (br (!(on (on n d m e) (od n d m e) k f == on n d (on m e k f) (od m e k f) && (od (on n d m e) (od n d m e) k f == od n d (on m e k f) (od m e k f) && true))) no (br (oe (on n d m e) (od n d m e) k f != oe n d (on m e k f) (od m e k f)) no t)) t) t) none) none) none) none
/-- The product with a sum. -/
def fDi (an ad ae pn pd pe : Int → Int → Int → Int → Int) (n d m e k f : Int) : Option (List D) :=
  br (iR n && iR d && iR k && iR f) (br (iR (pn n d k f) && iR (pd n d k f) && iR (pn m e k f) && iR (pd m e k f)) (br (iR (an n d m e) && iR (ad n d m e) && iR k && iR f) (br (ae n d m e == 0) (br (pe m e k f == 0) (br (pe n d k f == 0)
    (br (!(an (pn n d k f) (pd n d k f) (pn m e k f) (pd m e k f) == pn (an n d m e) (ad n d m e) k f && (ad (pn n d k f) (pd n d k f) (pn m e k f) (pd m e k f) == pd (an n d m e) (ad n d m e) k f && true))) no (br (ae (pn n d k f) (pd n d k f) (pn m e k f) (pd m e k f) != pe (an n d m e) (ad n d m e) k f) no yes)) yes) yes) yes) none) none) none
/-- The sum of three. -/
def fSu (an ad ae : Int → Int → Int → Int → Int) (cw : Row → Bool) (sn sd se : Row → Int) (n d m e k f : Int) (R : Row) (t : Option (List D)) : Option (List D) :=
  br (cw R) (br (ae n d m e == 0) (br (!(sn R == an (an n d m e) (ad n d m e) k f && (sd R == ad (an n d m e) (ad n d m e) k f && true))) no (br (se R != ae (an n d m e) (ad n d m e) k f) no (br (ae n d m e != 0) (br (se R != ae n d m e) no t) t))) (br (ae n d m e != 0) (br (se R != ae n d m e) no t) t)) none
def fLa (va : Int → Int → Int → Int → Int → Int → Bool) (n d m e k f : Int) (t : Option (List D)) : Option (List D) :=
  br (iR n && iR d && (iR m && iR e) && (iR k && iR f)) (br (!va n d m e k f) yes t) none
set_option maxRecDepth 100000 in
theorem tlaws (va : Int → Int → Int → Int → Int → Int → Bool) (an ad ae pn pd pe : Int → Int → Int → Int → Int) (cw : Row → Bool) (sn sd se : Row → Int) (n d m e k f : Int) :
    evF (CL va an ad ae pn pd pe cw sn sd se) 6 5 [.agg [.v (i64 n), .v (i64 d)], .agg [.v (i64 m), .v (i64 e)], .agg [.v (i64 k), .v (i64 f)]] =
    fLa va n d m e k f (fAs an ad ae n d m e k f (fSu an ad ae cw sn sd se n d m e k f (row3 n d m e k f) (fAs pn pd pe n d m e k f (fDi an ad ae pn pd pe n d m e k f)))) := by kernel_rfl
theorem Is_iR {q : Rat} {n d e : Int} (h : Ra.Is q n d e) : iR n = true ∧ iR d = true := by
  by_cases hf : Ra.Fit q
  · obtain ⟨_, rfl, rfl⟩ := h.ok hf
    exact Su.good_iR (Ra.fit_good hf).1
  · obtain ⟨_, rfl, rfl⟩ := h.no hf
    exact ⟨rfl, rfl⟩
theorem and4 {a b c d : Bool} (h1 : a = true ∧ b = true) (h2 : c = true ∧ d = true) : (a && b && c && d) = true := by
  rw [h1.1, h1.2, h2.1, h2.2]; rfl
theorem fAs_yes {op : Rat → Rat → Rat} {on od oe : Int → Int → Int → Int → Int} (H : ∀ {n d m e : Int}, goodR n d → goodR m e → Ra.Is (op (Ra.rat n d) (Ra.rat m e)) (on n d m e) (od n d m e) (oe n d m e)) (ha : ∀ a b c, op (op a b) c = op a (op b c))
    {n d m e k f : Int} (h1 : goodR n d) (h2 : goodR m e) (h3 : goodR k f) (t : Option (List D)) : fAs on od oe n d m e k f t = t := by
  have i12 := H h1 h2
  have i23 := H h2 h3
  unfold fAs
  refine (br_yes (iR4 h1 h2)).trans ((br_yes (iR4 h2 h3)).trans ((br_yes (and4 (Is_iR i12) (Su.good_iR h3))).trans ((br_yes (and4 (Su.good_iR h1) (Is_iR i23))).trans ?_)))
  by_cases e1 : oe n d m e = 0
  · refine (br_yes (by rw [e1]; rfl)).trans ?_
    by_cases e2 : oe m e k f = 0
    · refine (br_yes (by rw [e2]; rfl)).trans ?_
      obtain ⟨_, _, _, g, hq⟩ := i12.zero e1
      obtain ⟨_, _, _, g', hq'⟩ := i23.zero e2
      have j1 := H g h3
      have j2 := H h1 g'
      rw [hq, ha] at j1
      rw [hq'] at j2
      obtain ⟨s1, s2, s3⟩ := j1.same j2
      exact (br_no (by rw [same2 s1 s2]; rfl)).trans (br_no (by rw [s3]; simp))
    · exact br_no (by simpa using e2)
  · exact br_no (by simpa using e1)
theorem fDi_yes {n d m e k f : Int} (h1 : goodR n d) (h2 : goodR m e) (h3 : goodR k f) : fDi adN adD adE prN prD prE n d m e k f = yes := by
  have i12 := Ra.ad_is h1 h2
  have i13 := Ra.pr_is h1 h3
  have i23 := Ra.pr_is h2 h3
  unfold fDi
  refine (br_yes (iR4 h1 h3)).trans ((br_yes (and4 (Is_iR i13) (Is_iR i23))).trans ((br_yes (and4 (Is_iR i12) (Su.good_iR h3))).trans ?_))
  by_cases e1 : adE n d m e = 0
  · refine (br_yes (by rw [e1]; rfl)).trans ?_
    by_cases e2 : prE m e k f = 0
    · refine (br_yes (by rw [e2]; rfl)).trans ?_
      by_cases e3 : prE n d k f = 0
      · refine (br_yes (by rw [e3]; rfl)).trans ?_
        obtain ⟨_, _, _, g1, q1⟩ := i12.zero e1
        obtain ⟨_, _, _, g2, q2⟩ := i23.zero e2
        obtain ⟨_, _, _, g3, q3⟩ := i13.zero e3
        have j1 := Ra.ad_is g3 g2
        have j2 := Ra.pr_is g1 h3
        rw [q3, q2] at j1
        rw [q1, Rat.add_mul] at j2
        obtain ⟨s1, s2, s3⟩ := j1.same j2
        exact (br_no (by rw [same2 s1 s2]; rfl)).trans (br_no (by rw [s3]; simp))
      · exact br_no (by simpa using e3)
    · exact br_no (by simpa using e2)
  · exact br_no (by simpa using e1)
theorem row3_I (n d m e k f : Int) : (row3 n d m e k f).I 0 0 = n ∧ (row3 n d m e k f).I 0 1 = d ∧ (row3 n d m e k f).I 1 0 = m ∧ (row3 n d m e k f).I 1 1 = e ∧ (row3 n d m e k f).I 2 0 = k ∧ (row3 n d m e k f).I 2 1 = f ∧ (row3 n d m e k f).n = 3 := ⟨rfl, rfl, rfl, rfl, rfl, rfl, rfl⟩
theorem wf3 {n d m e k f : Int} (h1 : goodR n d) (h2 : goodR m e) (h3 : goodR k f) : Su.wf2 (row3 n d m e k f) 3 = true := by
  obtain ⟨r1, r2, r3, r4, r5, r6, _⟩ := row3_I n d m e k f
  obtain ⟨a1, a2⟩ := Su.good_iR h1
  obtain ⟨a3, a4⟩ := Su.good_iR h2
  obtain ⟨a5, a6⟩ := Su.good_iR h3
  unfold Su.wf2
  rw [Bool.not_eq_true']
  refine anyF_false.2 fun i _ hi => ?_
  match i, hi with
  | 0, _ => rw [r1, r2, a1, a2]; rfl
  | 1, _ => rw [r3, r4, a3, a4]; rfl
  | 2, _ => rw [r5, r6, a5, a6]; rfl
theorem bd3 {n d m e k f : Int} (h1 : goodR n d) (h2 : goodR m e) (h3 : goodR k f) : anyF (Su.bd (row3 n d m e k f)) 3 0 = false := by
  obtain ⟨r1, r2, r3, r4, r5, r6, _⟩ := row3_I n d m e k f
  refine anyF_false.2 fun i _ hi => ?_
  unfold Su.bd
  match i, hi with
  | 0, _ => rw [r1, r2, chk_of_good h1]; rfl
  | 1, _ => rw [r3, r4, chk_of_good h2]; rfl
  | 2, _ => rw [r5, r6, chk_of_good h3]; rfl
/-- The sum of three, in order. -/
theorem sm3 {n d m e k f : Int} (h1 : goodR n d) (h2 : goodR m e) (h3 : goodR k f) : Su.smF (row3 n d m e k f) 3 0 0 1 =
    if adE n d m e = 0 then (if adE (adN n d m e) (adD n d m e) k f = 0 then (false, adN (adN n d m e) (adD n d m e) k f, adD (adN n d m e) (adD n d m e) k f, 0) else (true, adN n d m e, adD n d m e, adE (adN n d m e) (adD n d m e) k f)) else (true, n, d, adE n d m e) := by
  obtain ⟨r1, r2, r3, r4, r5, r6, _⟩ := row3_I n d m e k f
  have z := Ra.ad_is Su.good01 h1
  rw [show Ra.rat 0 1 = 0 by rfl, Rat.zero_add] at z
  obtain ⟨z1, z2, z3⟩ := z.ok (Ra.good_fit h1)
  obtain ⟨y1, y2⟩ := Ra.good_rat h1
  rw [y1] at z2
  rw [y2] at z3
  unfold Su.smF
  rw [r1, r2, if_pos z1, z2, z3]
  unfold Su.smF
  rw [Nat.zero_add, r3, r4]
  split
  · unfold Su.smF
    rw [show 1 + 1 = 2 from rfl, r5, r6]
    split
    · rfl
    · rfl
  · rfl
theorem fSu_yes {n d m e k f : Int} (h1 : goodR n d) (h2 : goodR m e) (h3 : goodR k f) (t : Option (List D)) : fSu adN adD adE (fun r => decide ((r.n : Int) > 100) || Su.wf2 r r.n) suN suD suE n d m e k f (row3 n d m e k f) t = t := by
  obtain ⟨_, _, _, _, _, _, r7⟩ := row3_I n d m e k f
  unfold fSu
  dsimp only
  refine (br_yes (by rw [r7, wf3 h1 h2 h3, Bool.or_true])).trans ?_
  have i12 := Ra.ad_is h1 h2
  unfold suN suD suE suB
  rw [r7, bd3 h1 h2 h3, sm3 h1 h2 h3]
  by_cases e1 : adE n d m e = 0
  · rw [e1, if_pos (rfl : (0 : Int) = 0)]
    refine (br_yes rfl).trans ?_
    obtain ⟨_, _, _, g1, q1⟩ := i12.zero e1
    have j := Ra.ad_is g1 h3
    by_cases e2 : adE (adN n d m e) (adD n d m e) k f = 0
    · rw [e2, if_pos (rfl : (0 : Int) = 0)]
      exact (br_no (by simp)).trans ((br_no (by simp)).trans (br_no rfl))
    · rw [if_neg e2]
      obtain ⟨z1, z2, z3⟩ := j.no fun hf => e2 (j.ok hf).1
      rw [z1, z2, z3]
      exact (br_no (by simp)).trans ((br_no (by simp)).trans (br_no rfl))
  · rw [if_neg e1]
    exact (br_no (by simpa using e1)).trans ((br_yes (by simpa using e1)).trans (br_no (by simp)))
theorem law_laws {n d m e k f : Int} (h1 : iR n = true) (h2 : iR d = true) (h3 : iR m = true) (h4 : iR e = true) (h5 : iR k = true) (h6 : iR f = true) :
    evF (CL vaB adN adD adE prN prD prE (fun r => decide ((r.n : Int) > 100) || Su.wf2 r r.n) suN suD suE) 6 5 [.agg [.v (i64 n), .v (i64 d)], .agg [.v (i64 m), .v (i64 e)], .agg [.v (i64 k), .v (i64 f)]] = some [.v (.bool true)] := by
  refine (tlaws _ _ _ _ _ _ _ _ _ _ _ n d m e k f).trans ?_
  unfold fLa
  rw [h1, h2, h3, h4, h5, h6]
  refine (br_yes rfl).trans ?_
  by_cases hv : vaB n d m e k f = true
  · obtain ⟨g1, g2, g3⟩ := va_iff.1 hv
    refine (br_no (by rw [hv]; rfl)).trans ?_
    rw [fAs_yes Ra.ad_is Rat.add_assoc g1 g2 g3, fSu_yes g1 g2 g3, fAs_yes Ra.pr_is Rat.mul_assoc g1 g2 g3, fDi_yes g1 g2 g3]
    rfl
  · rw [show vaB n d m e k f = false by simpa using hv]
    rfl
end Go.Proofs.YtofkkhdmjllcfaaDoor

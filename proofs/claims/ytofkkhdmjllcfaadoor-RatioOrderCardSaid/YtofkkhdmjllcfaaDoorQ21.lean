/- RatioOrder: the tree, the law's function gives true. No conditions. -/
import Derived.Test.YtofkkhdmjllcfaaDoorQ17
namespace Go.Proofs.YtofkkhdmjllcfaaDoor
open Go.Ev Go.RowKit Go.Dec
set_option linter.all false
/-- A comparison of two ratios. -/
def Fcv (cp ce : Int → Int → Int → Int → Int) : List D → Option (Bool × List D)
  | [.agg [.v (.int .i64 n), .v (.int .i64 d)], .agg [.v (.int .i64 m), .v (.int .i64 e)]] => some (iR n && iR d && iR m && iR e, [.v (i64 (cp n d m e)), .v (i64 (ce n d m e))])
  | _ => none
/-- A floor. -/
def Ffv (fl fe : Int → Int → Int) : List D → Option (Bool × List D)
  | [.agg [.v (.int .i64 n), .v (.int .i64 d)]] => some (iR n && iR d, [.v (i64 (fl n d)), .v (i64 (fe n d))])
  | _ => none
noncomputable def CO (va : Int → Int → Int → Int → Int → Int → Bool) (an ad ae : Int → Int → Int → Int → Int) (cp ce : Int → Int → Int → Int → Int) (fn fe : Int → Int → Int) : Cx :=
  mkCx Tryd.prog fns [(14, Fvv va), (16, Fo an ad ae), (20, Fcv cp ce), (21, Ffv fn fe), (15, Falive)] []
theorem CO_ok : CxW (CO vaB adN adD adE cpC chk2 floN chkE) Wt := mkCx_okW enter mixed (fun p h => by
  simp only [List.mem_cons, List.not_mem_nil, or_false] at h
  rcases h with rfl | rfl | rfl | rfl | rfl
  · exact den_valid.at _
  · exact den_addp.at _
  · exact den_cmpp.at _
  · exact den_floor.at _
  · exact den_alive) (fun l h => by cases h)
def oEnd (cp ce : Int → Int → Int → Int → Int) (fl n d : Int) : Option (List D) :=
  br (fl == 1000000000000000000) (br (d == 1) yes no) (br (iR n && iR d && iR (IntKind.i64.wrap (fl + 1)) && iR 1) (br (ce n d (IntKind.i64.wrap (fl + 1)) 1 == 0) (br (decide (cp n d (IntKind.i64.wrap (fl + 1)) 1 < 0)) yes no) no) none)
def oFl (cp ce : Int → Int → Int → Int → Int) (fe fl n d : Int) : Option (List D) :=
  br (iR n && iR d) (br (fe != 0) no (br (decide (fl < -1000000000000000000)) no (br (decide (fl > 1000000000000000000)) no (br (iR fl && iR 1 && iR n && iR d) (br (ce fl 1 n d != 0) no (br (decide (cp fl 1 n d > 0)) no (br (cp fl 1 n d == 0) (br (d != 1) no (oEnd cp ce fl n d)) (oEnd cp ce fl n d)))) none)))) none
def oAd (an ad ae cp ce : Int → Int → Int → Int → Int) (n d m e k f : Int) (t : Option (List D)) : Option (List D) :=
  br (iR n && iR d && iR k && iR f) (br (iR m && iR e && iR k && iR f) (br (ae n d k f == 0) (br (ae m e k f == 0) (br (iR (an n d k f) && iR (ad n d k f) && iR (an m e k f) && iR (ad m e k f)) (br (ce (an n d k f) (ad n d k f) (an m e k f) (ad m e k f) != 0) no (br (cp (an n d k f) (ad n d k f) (an m e k f) (ad m e k f) != cp n d m e) no t)) none) t) t) none) none
def oCm (cp ce : Int → Int → Int → Int → Int) (n d m e k f : Int) (t : Option (List D)) : Option (List D) :=
  br (iR n && iR d && iR m && iR e) (br (iR m && iR e && iR n && iR d) (br (iR m && iR e && iR k && iR f) (br (iR n && iR d && iR k && iR f) (br (ce n d m e != 0) no (br (ce m e n d != 0) no (br (ce m e k f != 0) no (br (ce n d k f != 0) no (br (cp n d m e != IntKind.i64.wrap (0 - cp m e n d)) no (br (decide (cp n d m e < -1)) no (br (decide (cp n d m e > 1)) no (br (!(cp n d m e == 0) == (n == m && (d == e && true))) no
    (br (decide (cp n d m e ≤ 0)) (br (decide (cp m e k f ≤ 0)) (br (decide (cp n d k f > 0)) no t) t) t))))))))) none) none) none) none
def oLa (va : Int → Int → Int → Int → Int → Int → Bool) (n d m e k f : Int) (t : Option (List D)) : Option (List D) :=
  br (iR n && iR d && (iR m && iR e) && (iR k && iR f)) (br (!va n d m e k f) yes t) none
set_option maxRecDepth 100000 in
theorem torder (va : Int → Int → Int → Int → Int → Int → Bool) (an ad ae : Int → Int → Int → Int → Int) (cp ce : Int → Int → Int → Int → Int) (fn fe : Int → Int → Int) (n d m e k f : Int) :
    evF (CO va an ad ae cp ce fn fe) 6 6 [.agg [.v (i64 n), .v (i64 d)], .agg [.v (i64 m), .v (i64 e)], .agg [.v (i64 k), .v (i64 f)]] =
    oLa va n d m e k f (oCm cp ce n d m e k f (oAd an ad ae cp ce n d m e k f (oFl cp ce (fe n d) (fn n d) n d))) := by kernel_rfl
theorem cmp_le {a b : Int} : cmpI a b ≤ 0 ↔ a ≤ b := by unfold cmpI; split <;> (try split) <;> omega
theorem cmp_ge {a b : Int} : 0 ≤ cmpI a b ↔ b ≤ a := by unfold cmpI; split <;> (try split) <;> omega
theorem cmp_rng (a b : Int) : -1 ≤ cmpI a b ∧ cmpI a b ≤ 1 := by unfold cmpI; split <;> (try split) <;> omega
theorem cmp_neg (a b : Int) : cmpI a b = -cmpI b a := by unfold cmpI; split <;> split <;> (try split) <;> omega
theorem cp_eq {n d m e : Int} (h1 : goodR n d) (h2 : goodR m e) : cpC n d m e = cmpI (n * e) (m * d) := if_pos (Ra.good2 h1 h2)
theorem cp_le {n d m e : Int} (h1 : goodR n d) (h2 : goodR m e) : cpC n d m e ≤ 0 ↔ Ra.rat n d ≤ Ra.rat m e := by
  obtain ⟨a1, a2⟩ := Ra.good_rat h1
  obtain ⟨b1, b2⟩ := Ra.good_rat h2
  rw [cp_eq h1 h2, cmp_le, Rat.le_iff, a1, a2, b1, b2]
theorem cp_ge {n d m e : Int} (h1 : goodR n d) (h2 : goodR m e) : 0 ≤ cpC n d m e ↔ Ra.rat m e ≤ Ra.rat n d := by
  obtain ⟨a1, a2⟩ := Ra.good_rat h1
  obtain ⟨b1, b2⟩ := Ra.good_rat h2
  rw [cp_eq h1 h2, cmp_ge, Rat.le_iff, a1, a2, b1, b2]
theorem cp_rng {n d m e : Int} (h1 : goodR n d) (h2 : goodR m e) : -1 ≤ cpC n d m e ∧ cpC n d m e ≤ 1 := by
  rw [cp_eq h1 h2]; exact cmp_rng _ _
theorem oAd_yes {n d m e k f : Int} (h1 : goodR n d) (h2 : goodR m e) (h3 : goodR k f) (t : Option (List D)) : oAd adN adD adE cpC chk2 n d m e k f t = t := by
  have i1 := Ra.ad_is h1 h3
  have i2 := Ra.ad_is h2 h3
  unfold oAd
  refine (br_yes (iR4 h1 h3)).trans ((br_yes (iR4 h2 h3)).trans ?_)
  by_cases e1 : adE n d k f = 0
  · refine (br_yes (by rw [e1]; rfl)).trans ?_
    by_cases e2 : adE m e k f = 0
    · refine (br_yes (by rw [e2]; rfl)).trans ?_
      obtain ⟨_, _, _, g1, q1⟩ := i1.zero e1
      obtain ⟨_, _, _, g2, q2⟩ := i2.zero e2
      refine (br_yes (iR4 g1 g2)).trans ((br_no (by rw [Ra.good2 g1 g2]; rfl)).trans (br_no ?_))
      have l1 := cp_le g1 g2
      have l2 := cp_ge g1 g2
      rw [q1, q2, Rat.add_le_add_right, ← cp_le h1 h2] at l1
      rw [q1, q2, Rat.add_le_add_right, ← cp_ge h1 h2] at l2
      have r1 := cp_rng g1 g2
      have r2 := cp_rng h1 h2
      have : cpC (adN n d k f) (adD n d k f) (adN m e k f) (adD m e k f) = cpC n d m e := by omega
      rw [this]
      simp
    · exact br_no (by simpa using e2)
  · exact br_no (by simpa using e1)
theorem oCm_yes {n d m e k f : Int} (h1 : goodR n d) (h2 : goodR m e) (h3 : goodR k f) (t : Option (List D)) : oCm cpC chk2 n d m e k f t = t := by
  unfold oCm
  have r1 := cp_rng h1 h2
  have r2 := cp_rng h2 h1
  have hn : cpC n d m e = -cpC m e n d := by rw [cp_eq h1 h2, cp_eq h2 h1]; exact cmp_neg _ _
  refine (br_yes (iR4 h1 h2)).trans ((br_yes (iR4 h2 h1)).trans ((br_yes (iR4 h2 h3)).trans ((br_yes (iR4 h1 h3)).trans ?_)))
  rw [Ra.good2 h1 h2, Ra.good2 h2 h1, Ra.good2 h2 h3, Ra.good2 h1 h3, wrapI_id (n := 0 - cpC m e n d) (by omega) (by omega)]
  refine (br_no rfl).trans ((br_no rfl).trans ((br_no rfl).trans ((br_no rfl).trans ((br_no (by rw [show cpC n d m e = 0 - cpC m e n d by omega]; simp)).trans ((br_no (decide_eq_false (by omega))).trans ((br_no (decide_eq_false (by omega))).trans ((br_no ?_).trans ?_)))))))
  · have l1 := cp_le h1 h2
    have l2 := cp_ge h1 h2
    by_cases h0 : cpC n d m e = 0
    · obtain ⟨e1, e2⟩ := Ra.good_inj h1 h2 (Rat.le_antisymm (l1.1 (by omega)) (l2.1 (by omega)))
      rw [h0, same2 e1 e2]
      rfl
    · rw [show (cpC n d m e == 0) = false by simpa using h0]
      have : (n == m && (d == e && true)) = false := by
        rw [Bool.eq_false_iff]
        intro hh
        simp only [Bool.and_eq_true, beq_iff_eq, and_true] at hh
        obtain ⟨rfl, rfl⟩ := hh
        exact h0 (by
          have := l1.2 Rat.le_refl
          have := l2.2 Rat.le_refl
          omega)
      rw [this]
      rfl
  · by_cases c1 : cpC n d m e ≤ 0
    · refine (br_yes (decide_eq_true c1)).trans ?_
      by_cases c2 : cpC m e k f ≤ 0
      · refine (br_yes (decide_eq_true c2)).trans (br_no (decide_eq_false ?_))
        have := (cp_le h1 h3).2 (Rat.le_trans ((cp_le h1 h2).1 c1) ((cp_le h2 h3).1 c2))
        omega
      · exact br_no (decide_eq_false c2)
    · exact br_no (decide_eq_false c1)
/-- The floor. -/
theorem flo {n d : Int} (h : goodR n d) : floN n d * d ≤ n ∧ n < (floN n d + 1) * d := by
  obtain ⟨f1, f2, f3, _⟩ := floor_facts n d h
  unfold floN
  rw [if_pos (chk_of_good h), Int.add_mul]
  obtain ⟨⟨d1, d2⟩, _⟩ := h
  split
  · rw [Int.sub_mul]; omega
  · omega
theorem good1 {n : Int} (h : -1000000000000000000 ≤ n ∧ n ≤ 1000000000000000000) : goodR n 1 := by
  refine ⟨⟨by omega, by omega⟩, h, ?_⟩
  unfold gcdI
  rw [show (1 : Int).toNat = 1 from rfl, Nat.gcd_one_right]
  rfl
theorem oFl_yes {n d : Int} (h : goodR n d) : oFl cpC chk2 (chkE n d) (floN n d) n d = yes := by
  obtain ⟨i1, i2⟩ := Su.good_iR h
  obtain ⟨a1, a2⟩ := flo h
  obtain ⟨⟨d1, d2⟩, ⟨n1, n2⟩, hg⟩ := id h
  generalize hfl : floN n d = fl at a1 a2
  have b1 : -1000000000000000000 ≤ fl := by
    refine Int.not_lt.1 fun hlt => ?_
    have : (fl + 1) * d ≤ (fl + 1) * 1 := Int.mul_le_mul_of_nonpos_left (by omega) d1
    omega
  have b2 : fl ≤ 1000000000000000000 := by
    refine Int.not_lt.1 fun hlt => ?_
    have : fl * 1 ≤ fl * d := Int.mul_le_mul_of_nonneg_left d1 (by omega)
    omega
  have gf := good1 ⟨b1, b2⟩
  have c1 : cpC fl 1 n d = cmpI (fl * d) (n * 1) := cp_eq gf h
  have hEnd : oEnd cpC chk2 fl n d = yes := by
    unfold oEnd
    by_cases hG : fl = 1000000000000000000
    · have hd : d = 1 := by subst hG; omega
      rw [hG, hd]; rfl
    · have g1 := good1 (n := fl + 1) ⟨by omega, by omega⟩
      rw [wrapI_id (n := fl + 1) (by omega) (by omega)]
      refine (br_no (by simpa using hG)).trans ((br_yes (iR4 h g1)).trans ((br_yes (by rw [Ra.good2 h g1]; rfl)).trans (br_yes (decide_eq_true ?_))))
      rw [cp_eq h g1, Int.mul_one]
      unfold cmpI
      rw [if_pos a2]
      decide
  unfold oFl
  rw [hEnd, chk_of_good h, i1, i2, Ra.good2 gf h]
  refine (br_yes rfl).trans ((br_no rfl).trans ((br_no (decide_eq_false (by omega))).trans ((br_no (decide_eq_false (by omega))).trans ((br_yes (by rw [(Su.good_iR gf).1]; rfl)).trans ((br_no rfl).trans ((br_no (decide_eq_false ?_)).trans ?_))))))
  · have := cmp_le.2 (show fl * d ≤ n * 1 by omega)
    omega
  · by_cases h0 : cpC fl 1 n d = 0
    · refine (br_yes (by rw [h0]; rfl)).trans (br_no ?_)
      have e1 := cmp_le (a := fl * d) (b := n * 1)
      have e2 := cmp_ge (a := fl * d) (b := n * 1)
      have hn : n = fl * d := by omega
      obtain ⟨y1, y2⟩ := Ra.good_inj h gf (by
        refine Rat.le_antisymm ((cp_le h gf).1 ?_) ((cp_ge h gf).1 ?_)
        · rw [cp_eq h gf, cmp_le]; omega
        · rw [cp_eq h gf, cmp_ge]; omega)
      rw [y2]; rfl
    · exact br_no (by simpa using h0)
theorem law_order {n d m e k f : Int} (h1 : iR n = true) (h2 : iR d = true) (h3 : iR m = true) (h4 : iR e = true) (h5 : iR k = true) (h6 : iR f = true) :
    evF (CO vaB adN adD adE cpC chk2 floN chkE) 6 6 [.agg [.v (i64 n), .v (i64 d)], .agg [.v (i64 m), .v (i64 e)], .agg [.v (i64 k), .v (i64 f)]] = some [.v (.bool true)] := by
  refine (torder _ _ _ _ _ _ _ _ n d m e k f).trans ?_
  unfold oLa
  rw [h1, h2, h3, h4, h5, h6]
  refine (br_yes rfl).trans ?_
  by_cases hv : vaB n d m e k f = true
  · obtain ⟨g1, g2, g3⟩ := va_iff.1 hv
    refine (br_no (by rw [hv]; rfl)).trans ?_
    rw [oCm_yes g1 g2 g3, oAd_yes g1 g2 g3, oFl_yes g1]
    rfl
  · rw [show vaB n d m e k f = false by simpa using hv]
    rfl
end Go.Proofs.YtofkkhdmjllcfaaDoor

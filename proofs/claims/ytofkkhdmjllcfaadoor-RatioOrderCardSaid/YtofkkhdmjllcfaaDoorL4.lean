/- Plain laws: Add, Sub, Mul, Div give the sum, the difference, the product, the quotient, or an error where it is out of range. No conditions. -/
import Derived.Test.YtofkkhdmjllcfaaDoorL3
namespace Go.Proofs.YtofkkhdmjllcfaaDoor.Ra
set_option linter.all false
theorem good2 {n d m e : Int} (h1 : goodR n d) (h2 : goodR m e) : chk2 n d m e = 0 := by
  unfold chk2
  rw [if_pos (show chkE n d = 0 from if_pos h1)]
  exact if_pos h2
theorem gcdN (a b : Nat) : gcdI (a : Int) (b : Int) = ((a.gcd b : Nat) : Int) := by unfold gcdI; rw [Int.toNat_natCast, Int.toNat_natCast]
theorem divN (a b : Nat) : (a : Int) / (b : Int) = ((a / b : Nat) : Int) := (Int.natCast_ediv a b).symm
theorem good_nat {n d : Int} (h : goodR n d) : ∃ D : Nat, d = (D : Int) ∧ 0 < D ∧ n.natAbs.Coprime D := by
  obtain ⟨a, b, c⟩ := good_cop h
  exact ⟨d.toNat, c.symm, by omega, a⟩
theorem sum_parts {n m : Int} {D E : Nat} (hD : 0 < D) (hE : 0 < E) : adA n D m E = ((n * ((E / D.gcd E : Nat) : Int) + m * ((D / D.gcd E : Nat) : Int)).natAbs : Int) ∧
    (n * ((E / D.gcd E : Nat) : Int) + m * ((D / D.gcd E : Nat) : Int) ≠ 0 → (if adNg n D m E = true then -(((n * ((E / D.gcd E : Nat) : Int) + m * ((D / D.gcd E : Nat) : Int)).natAbs : Nat) : Int) else ((n * ((E / D.gcd E : Nat) : Int) + m * ((D / D.gcd E : Nat) : Int)).natAbs : Nat)) = n * ((E / D.gcd E : Nat) : Int) + m * ((D / D.gcd E : Nat) : Int)) := by
  have hg : 0 < D.gcd E := Nat.gcd_pos_of_pos_left _ hD
  have hE' : 0 < E / D.gcd E := Nat.div_pos (Nat.le_of_dvd hE (Nat.gcd_dvd_right _ _)) hg
  have hD' : 0 < D / D.gcd E := Nat.div_pos (Nat.le_of_dvd hD (Nat.gcd_dvd_left _ _)) hg
  have hx : adX n D E = if n < 0 then -(n * ((E / D.gcd E : Nat) : Int)) else n * ((E / D.gcd E : Nat) : Int) := by
    unfold adX
    rw [gcdN, divN, abs_mul]
  have hy : adY m D E = if m < 0 then -(m * ((D / D.gcd E : Nat) : Int)) else m * ((D / D.gcd E : Nat) : Int) := by
    unfold adY
    rw [gcdN, divN, abs_mul]
  have x1 : n < 0 → n * ((E / D.gcd E : Nat) : Int) < 0 := fun h => Int.mul_neg_of_neg_of_pos h (by omega)
  have x2 : ¬ n < 0 → 0 ≤ n * ((E / D.gcd E : Nat) : Int) := fun h => Int.mul_nonneg (by omega) (by omega)
  have y1 : m < 0 → m * ((D / D.gcd E : Nat) : Int) < 0 := fun h => Int.mul_neg_of_neg_of_pos h (by omega)
  have y2 : ¬ m < 0 → 0 ≤ m * ((D / D.gcd E : Nat) : Int) := fun h => Int.mul_nonneg (by omega) (by omega)
  generalize n * ((E / D.gcd E : Nat) : Int) = x at *
  generalize m * ((D / D.gcd E : Nat) : Int) = y at *
  unfold adA adNg
  rw [hx, hy]
  by_cases hn : n < 0 <;> by_cases hm : m < 0
  · have := x1 hn; have := y1 hm
    simp only [hn, hm, if_true, decide_true]
    exact ⟨by omega, fun _ => by omega⟩
  · have := x1 hn; have := y2 hm
    simp only [hn, hm, if_true, if_false, decide_true, decide_false, Bool.true_eq_false]
    constructor
    · split <;> omega
    · intro h0
      by_cases hlt : -x < y
      · rw [if_pos hlt]; simp; omega
      · rw [if_neg hlt]; simp; omega
  · have := x2 hn; have := y1 hm
    simp only [hn, hm, if_true, if_false, decide_true, decide_false, Bool.false_eq_true]
    constructor
    · split <;> omega
    · intro h0
      by_cases hlt : x < -y
      · rw [if_pos hlt]; simp; omega
      · rw [if_neg hlt]; simp; omega
  · have := x2 hn; have := y2 hm
    simp only [hn, hm, if_true, if_false, decide_true, decide_false, Bool.false_eq_true]
    exact ⟨by omega, fun _ => by omega⟩
theorem is_zero : Is 0 0 1 0 := ⟨fun _ => ⟨rfl, rfl, rfl⟩, fun h => absurd (by decide) h⟩
theorem ad_is {n d m e : Int} (h1 : goodR n d) (h2 : goodR m e) : Is (rat n d + rat m e) (adN n d m e) (adD n d m e) (adE n d m e) := by
  have hc := good2 h1 h2
  obtain ⟨D, rfl, hD, c1⟩ := good_nat h1
  obtain ⟨E, rfl, hE, c2⟩ := good_nat h2
  have hg : 0 < D.gcd E := Nat.gcd_pos_of_pos_left _ hD
  have eD : D = D.gcd E * (D / D.gcd E) := (Nat.mul_div_cancel' (Nat.gcd_dvd_left _ _)).symm
  have eE : E = D.gcd E * (E / D.gcd E) := (Nat.mul_div_cancel' (Nat.gcd_dvd_right _ _)).symm
  obtain ⟨s1, s2⟩ := sum_parts (n := n) (m := m) hD hE
  have hq : rat n D + rat m E = mkRat (n * (E : Int) + m * (D : Int)) (D * E) := by
    unfold rat
    rw [Int.toNat_natCast, Int.toNat_natCast, Rat.mkRat_add_mkRat n m (by omega) (by omega)]
  have hT : n * (E : Int) + m * (D : Int) = ((D.gcd E : Nat) : Int) * (n * ((E / D.gcd E : Nat) : Int) + m * ((D / D.gcd E : Nat) : Int)) := by
    have a1 : (E : Int) = ((D.gcd E : Nat) : Int) * ((E / D.gcd E : Nat) : Int) := by rw [← Int.natCast_mul, ← eE]
    have a2 : (D : Int) = ((D.gcd E : Nat) : Int) * ((D / D.gcd E : Nat) : Int) := by rw [← Int.natCast_mul, ← eD]
    rw [Int.mul_add, ← Int.mul_assoc, ← Int.mul_assoc, Int.mul_comm _ n, Int.mul_comm _ m, Int.mul_assoc, Int.mul_assoc, ← a1, ← a2]
  unfold adN adD adE
  rw [if_pos hc, if_pos hc, if_pos hc, s1]
  have hcop := cop_add (n := n) (m := m) (d := D) (e := E) (g := D.gcd E) (d' := D / D.gcd E) (e' := E / D.gcd E) hg c1 c2 eD eE (Nat.coprime_div_gcd_div_gcd hg) rfl
  generalize hA : (n * ((E / D.gcd E : Nat) : Int) + m * ((D / D.gcd E : Nat) : Int)).natAbs = A at *
  by_cases h0 : A = 0
  · rw [if_pos (by omega), if_pos (by omega), if_pos (by omega), hq, hT, show n * ((E / D.gcd E : Nat) : Int) + m * ((D / D.gcd E : Nat) : Int) = 0 by omega, Int.mul_zero, Rat.zero_mkRat]
    exact is_zero
  · rw [if_neg (by omega), if_neg (by omega), if_neg (by omega), gcdN, gcdN, divN, divN, divN, ← Int.natCast_mul]
    obtain ⟨k1, k2, k3⟩ := hcop
    have hE3 : 0 < E / A.gcd (D.gcd E) := Nat.div_pos (Nat.le_of_dvd hE (Nat.dvd_trans (Nat.gcd_dvd_right _ _) (Nat.gcd_dvd_right _ _))) (Nat.gcd_pos_of_pos_right _ hg)
    have hD3 : 0 < D / D.gcd E := Nat.div_pos (Nat.le_of_dvd hD (Nat.gcd_dvd_left _ _)) hg
    have hne : D / D.gcd E * (E / A.gcd (D.gcd E)) ≠ 0 := Nat.ne_of_gt (Nat.mul_pos hD3 hE3)
    refine is_mk hne k1 ?_
    rw [hq, hT, Rat.mkRat_eq_iff hne (Nat.ne_of_gt (Nat.mul_pos hD hE))]
    have hs := s2 (by omega)
    have hP : n * ((E / D.gcd E : Nat) : Int) + m * ((D / D.gcd E : Nat) : Int) = ((A.gcd (D.gcd E) : Nat) : Int) * (if adNg n D m E = true then -((A / A.gcd (D.gcd E) : Nat) : Int) else ((A / A.gcd (D.gcd E) : Nat) : Int)) := by
      rw [← hs]
      split
      · rw [Int.mul_neg, ← Int.natCast_mul, ← k2]
      · rw [← Int.natCast_mul, ← k2]
    rw [hP]
    generalize (if adNg n D m E = true then -((A / A.gcd (D.gcd E) : Nat) : Int) else ((A / A.gcd (D.gcd E) : Nat) : Int)) = P
    have e3 : ((D * E : Nat) : Int) = ((D / D.gcd E : Nat) : Int) * (((D.gcd E : Nat) : Int) * ((E / A.gcd (D.gcd E) : Nat) : Int) * ((A.gcd (D.gcd E) : Nat) : Int)) := by
      rw [← Int.natCast_mul, ← Int.natCast_mul, ← Int.natCast_mul, k3]
      congr 1
      rw [← Nat.mul_assoc, Nat.mul_comm (D / D.gcd E), ← eD]
    rw [e3, Int.natCast_mul]
    ac_rfl
theorem pr_is {n d m e : Int} (h1 : goodR n d) (h2 : goodR m e) : Is (rat n d * rat m e) (prN n d m e) (prD n d m e) (prE n d m e) := by
  have hc := good2 h1 h2
  obtain ⟨D, rfl, hD, c1⟩ := good_nat h1
  obtain ⟨E, rfl, hE, c2⟩ := good_nat h2
  have g1 : 0 < n.natAbs.gcd E := Nat.gcd_pos_of_pos_right _ hE
  have g2 : 0 < m.natAbs.gcd D := Nat.gcd_pos_of_pos_right _ hD
  have aN : absI n = (n.natAbs : Int) := by unfold absI; split <;> omega
  have aM : absI m = (m.natAbs : Int) := by unfold absI; split <;> omega
  have hN : pN n D m E = ((n.natAbs / n.natAbs.gcd E * (m.natAbs / m.natAbs.gcd D) : Nat) : Int) := by
    unfold pN
    rw [aN, aM, gcdN, gcdN, divN, divN, Int.natCast_mul]
  have hDn : pD n D m E = ((D / m.natAbs.gcd D * (E / n.natAbs.gcd E) : Nat) : Int) := by
    unfold pD
    rw [aN, aM, gcdN, gcdN, divN, divN, Int.natCast_mul]
  have e1 : n.natAbs.gcd E * (n.natAbs / n.natAbs.gcd E) = n.natAbs := Nat.mul_div_cancel' (Nat.gcd_dvd_left _ _)
  have e2 : n.natAbs.gcd E * (E / n.natAbs.gcd E) = E := Nat.mul_div_cancel' (Nat.gcd_dvd_right _ _)
  have e3 : m.natAbs.gcd D * (m.natAbs / m.natAbs.gcd D) = m.natAbs := Nat.mul_div_cancel' (Nat.gcd_dvd_left _ _)
  have e4 : m.natAbs.gcd D * (D / m.natAbs.gcd D) = D := Nat.mul_div_cancel' (Nat.gcd_dvd_right _ _)
  have k1 := Nat.coprime_div_gcd_div_gcd (m := n.natAbs) (n := E) g1
  have k2 := Nat.coprime_div_gcd_div_gcd (m := m.natAbs) (n := D) g2
  have k3 : (n.natAbs / n.natAbs.gcd E).Coprime (D / m.natAbs.gcd D) := Nat.Coprime.coprime_dvd_left ⟨_, by rw [Nat.mul_comm]; exact e1.symm⟩ (Nat.Coprime.coprime_dvd_right ⟨_, by rw [Nat.mul_comm]; exact e4.symm⟩ c1)
  have k4 : (m.natAbs / m.natAbs.gcd D).Coprime (E / n.natAbs.gcd E) := Nat.Coprime.coprime_dvd_left ⟨_, by rw [Nat.mul_comm]; exact e3.symm⟩ (Nat.Coprime.coprime_dvd_right ⟨_, by rw [Nat.mul_comm]; exact e2.symm⟩ c2)
  have hcop : (n.natAbs / n.natAbs.gcd E * (m.natAbs / m.natAbs.gcd D)).Coprime (D / m.natAbs.gcd D * (E / n.natAbs.gcd E)) :=
    Nat.Coprime.mul_left (Nat.Coprime.mul_right k3 k1) (Nat.Coprime.mul_right k2 k4)
  have hq : rat n D * rat m E = mkRat (n * m) (D * E) := by
    unfold rat
    rw [Int.toNat_natCast, Int.toNat_natCast, Rat.mkRat_mul_mkRat]
  have hne : D / m.natAbs.gcd D * (E / n.natAbs.gcd E) ≠ 0 := by
    refine Nat.ne_of_gt (Nat.mul_pos (Nat.div_pos (Nat.le_of_dvd hD (Nat.gcd_dvd_right _ _)) g2) (Nat.div_pos (Nat.le_of_dvd hE (Nat.gcd_dvd_right _ _)) g1))
  unfold prN prD prE
  rw [if_pos hc, if_pos hc, if_pos hc, hN, hDn]
  refine is_mk hne hcop ?_
  rw [hq, Rat.mkRat_eq_iff hne (Nat.ne_of_gt (Nat.mul_pos hD hE))]
  generalize hb1 : n.natAbs / n.natAbs.gcd E = a1 at *
  generalize hb2 : m.natAbs / m.natAbs.gcd D = b1 at *
  generalize n.natAbs.gcd E = u at *
  generalize m.natAbs.gcd D = v at *
  generalize D / v = D1 at *
  generalize E / u = E1 at *
  have hnm : n * m = (if (decide (((a1 * b1 : Nat) : Int) > 0) && sgn n m) = true then -(((n.natAbs * m.natAbs : Nat)) : Int) else ((n.natAbs * m.natAbs : Nat) : Int)) := by
    by_cases hz : n = 0 ∨ m = 0
    · have h0 : n * m = 0 := by rcases hz with h | h <;> rw [h] <;> simp
      have h0' : n.natAbs * m.natAbs = 0 := by rcases hz with h | h <;> rw [h] <;> simp
      rw [h0, h0']
      split <;> rfl
    · have hn0 : n ≠ 0 := fun h => hz (.inl h)
      have hm0 : m ≠ 0 := fun h => hz (.inr h)
      have ha1 : 0 < a1 := by
        rcases Nat.eq_zero_or_pos a1 with h | h
        · rw [h, Nat.mul_zero] at e1; omega
        · exact h
      have hb1 : 0 < b1 := by
        rcases Nat.eq_zero_or_pos b1 with h | h
        · rw [h, Nat.mul_zero] at e3; omega
        · exact h
      have hpos : ((a1 * b1 : Nat) : Int) > 0 := by have := Nat.mul_pos ha1 hb1; omega
      rw [decide_eq_true hpos, Bool.true_and, Int.natCast_mul]
      unfold sgn
      by_cases hn : n < 0 <;> by_cases hm : m < 0
      · rw [decide_eq_true hn, decide_eq_true hm, show (n.natAbs : Int) = -n by omega, show (m.natAbs : Int) = -m by omega, Int.neg_mul_neg]; rfl
      · rw [decide_eq_true hn, decide_eq_false hm, show (n.natAbs : Int) = -n by omega, show (m.natAbs : Int) = m by omega, Int.neg_mul, Int.neg_neg]; rfl
      · rw [decide_eq_false hn, decide_eq_true hm, show (n.natAbs : Int) = n by omega, show (m.natAbs : Int) = -m by omega, Int.mul_neg, Int.neg_neg]; rfl
      · rw [decide_eq_false hn, decide_eq_false hm, show (n.natAbs : Int) = n by omega, show (m.natAbs : Int) = m by omega]; rfl
  have hkey : a1 * b1 * (D * E) = n.natAbs * m.natAbs * (D1 * E1) := by
    rw [← e1, ← e3, ← e2, ← e4]
    ac_rfl
  rw [hnm]
  split
  · rw [Int.neg_mul, Int.neg_mul, ← Int.natCast_mul, ← Int.natCast_mul, hkey]
  · rw [← Int.natCast_mul, ← Int.natCast_mul, hkey]
theorem good_neg' {m e : Int} (h : goodR m e) : goodR (-m) e := by
  obtain ⟨h1, h2, h3⟩ := h
  refine ⟨h1, by omega, ?_⟩
  unfold gcdI at h3 ⊢
  rw [natAbs_absI] at h3 ⊢
  rwa [Int.natAbs_neg]
theorem rat_neg (m e : Int) : rat (-m) e = -rat m e := by
  unfold rat
  rw [Rat.neg_mkRat]
theorem sb_is {n d m e : Int} (h1 : goodR n d) (h2 : goodR m e) : Is (rat n d - rat m e) (sbN n d m e) (sbD n d m e) (sbE n d m e) := by
  have h := ad_is h1 (good_neg' h2)
  rw [rat_neg, ← Rat.sub_eq_add_neg] at h
  unfold sbN sbD sbE
  have hc := good2 h1 h2
  rw [if_pos hc, if_pos hc, if_pos hc]
  exact h
theorem inv_good {m e : Int} (h : goodR m e) (h0 : 0 < m) : goodR e m ∧ rat e m * rat m e = 1 := by
  obtain ⟨h1, h2, h3⟩ := id h
  obtain ⟨E, rfl, hE, c⟩ := good_nat h
  obtain ⟨M, rfl⟩ : ∃ M : Nat, m = (M : Int) := ⟨m.toNat, by omega⟩
  refine ⟨⟨by omega, by omega, ?_⟩, ?_⟩
  · unfold gcdI
    rw [natAbs_absI, Int.toNat_natCast, Nat.gcd_comm]
    have : (M : Int).natAbs = M := Int.natAbs_natCast M
    rw [this] at c
    rw [Int.natAbs_natCast, show M.gcd E = 1 from c]
    rfl
  · unfold rat
    rw [Int.toNat_natCast, Int.toNat_natCast, Rat.mkRat_mul_mkRat]
    have hM : 0 < M := by omega
    have : mkRat ((E : Int) * (M : Int)) (M * E) = mkRat 1 1 := by
      rw [Rat.mkRat_eq_iff (Nat.ne_of_gt (Nat.mul_pos hM hE)) (by decide), Int.natCast_mul]
      simp
      exact Int.mul_comm _ _
    rw [this]
    rfl
theorem di_is {n d m e : Int} (h1 : goodR n d) (h2 : goodR m e) (h0 : m ≠ 0) : ∃ q, q * rat m e = rat n d ∧ Is q (diN n d m e) (diD n d m e) (diE n d m e) := by
  have hc := good2 h1 h2
  unfold diN diD diE
  rw [if_pos hc, if_pos hc, if_pos hc, if_neg h0, if_neg h0, if_neg h0]
  by_cases hm : m < 0
  · rw [if_pos hm, if_pos hm, if_pos hm]
    obtain ⟨i1, i2⟩ := inv_good (good_neg' h2) (by omega)
    have i3 := good_neg' i1
    refine ⟨rat n d * rat (-e) (-m), ?_, pr_is h1 i3⟩
    rw [Rat.mul_assoc, rat_neg e (-m)]
    rw [rat_neg m e] at i2
    have : -rat e (-m) * rat m e = 1 := by
      rw [← i2, Rat.neg_mul, Rat.mul_neg]
    rw [this, Rat.mul_one]
  · rw [if_neg hm, if_neg hm, if_neg hm]
    obtain ⟨i1, i2⟩ := inv_good h2 (by omega)
    refine ⟨rat n d * rat e m, ?_, pr_is h1 i1⟩
    rw [Rat.mul_assoc, i2, Rat.mul_one]
end Go.Proofs.YtofkkhdmjllcfaaDoor.Ra

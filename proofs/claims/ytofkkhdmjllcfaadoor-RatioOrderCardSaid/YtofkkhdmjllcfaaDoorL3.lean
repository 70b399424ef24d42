/- Plain laws: what sums, products and the order are, as rational numbers. No conditions. -/
import Derived.Test.YtofkkhdmjllcfaaDoorQ5
namespace Go.Proofs.YtofkkhdmjllcfaaDoor.Ra
set_option linter.all false
theorem natAbs_absI (n : Int) : (absI n).toNat = n.natAbs := by unfold absI; split <;> omega
theorem cop_of {k a b : Nat} (h1 : k ∣ a) (h2 : k ∣ b) (h : a.Coprime b) : k = 1 := Nat.eq_one_of_dvd_one (by
  have := Nat.dvd_gcd h1 h2
  rwa [show a.gcd b = 1 from h] at this)
/-- The sum's numerator has nothing in common with either quotient of the denominators. -/
theorem cop_one {n m : Int} {d' e' d A : Nat} (h1 : n.natAbs.Coprime d) (hd : d' ∣ d) (hde : d'.Coprime e') (hA : A = (n * (e' : Int) + m * (d' : Int)).natAbs) : A.Coprime d' := by
  have hk1 : A.gcd d' ∣ A := Nat.gcd_dvd_left _ _
  have hk2 : A.gcd d' ∣ d' := Nat.gcd_dvd_right _ _
  have hT : ((A.gcd d' : Nat) : Int) ∣ n * (e' : Int) + m * (d' : Int) := by
    rw [Int.ofNat_dvd_left, ← hA]
    exact hk1
  have hmd : ((A.gcd d' : Nat) : Int) ∣ m * (d' : Int) := Int.dvd_trans (Int.natCast_dvd_natCast.2 hk2) (Int.dvd_mul_left _ _)
  have hne : ((A.gcd d' : Nat) : Int) ∣ n * (e' : Int) := (Int.dvd_add_left hmd).1 hT
  have hne' : A.gcd d' ∣ n.natAbs * e' := by
    have := Int.ofNat_dvd_left.1 hne
    rwa [Int.natAbs_mul, Int.natAbs_natCast] at this
  have hc : (A.gcd d').Coprime e' := Nat.Coprime.coprime_dvd_left hk2 hde
  have hn : A.gcd d' ∣ n.natAbs := Nat.Coprime.dvd_of_dvd_mul_right hc hne'
  exact cop_of hn (Nat.dvd_trans hk2 hd) h1
theorem cop_add {n m : Int} {d e g d' e' A : Nat} (hg0 : 0 < g) (h1 : n.natAbs.Coprime d) (h2 : m.natAbs.Coprime e) (hd' : d = g * d') (he' : e = g * e') (hde : d'.Coprime e') (hA : A = (n * (e' : Int) + m * (d' : Int)).natAbs) :
    (A / A.gcd g).Coprime (d' * (e / A.gcd g)) ∧ A = A.gcd g * (A / A.gcd g) ∧ g * (e / A.gcd g) * (A.gcd g) = g * e := by
  have hh : 0 < A.gcd g := Nat.gcd_pos_of_pos_right _ hg0
  have ha : A.gcd g * (A / A.gcd g) = A := Nat.mul_div_cancel' (Nat.gcd_dvd_left _ _)
  have hgg : A.gcd g * (g / A.gcd g) = g := Nat.mul_div_cancel' (Nat.gcd_dvd_right _ _)
  have he : e / A.gcd g = g / A.gcd g * e' := by
    have : e = A.gcd g * (g / A.gcd g * e') := by rw [← Nat.mul_assoc, hgg]; exact he'
    exact Nat.div_eq_of_eq_mul_right hh this
  have c1 : A.Coprime d' := cop_one h1 ⟨g, by rw [hd', Nat.mul_comm]⟩ hde hA
  have c2 : A.Coprime e' := cop_one (n := m) (m := n) h2 ⟨g, by rw [he', Nat.mul_comm]⟩ hde.symm (by rw [hA, Int.add_comm])
  have c3 : (A / A.gcd g).Coprime (g / A.gcd g) := Nat.coprime_div_gcd_div_gcd hh
  have hdv : A / A.gcd g ∣ A := ⟨A.gcd g, by rw [Nat.mul_comm]; exact ha.symm⟩
  refine ⟨?_, ha.symm, ?_⟩
  · rw [he]
    exact Nat.Coprime.mul_right (Nat.Coprime.coprime_dvd_left hdv c1) (Nat.Coprime.mul_right c3 (Nat.Coprime.coprime_dvd_left hdv c2))
  · rw [Nat.mul_assoc, Nat.mul_comm (e / _)]
    congr 1
    exact Nat.mul_div_cancel' (Nat.dvd_trans (Nat.gcd_dvd_right _ _) ⟨e', he'⟩)
/-- A pair as a rational number. -/
def rat (n d : Int) : Rat := mkRat n d.toNat
theorem rat_cop {n : Int} {d : Nat} (hd : d ≠ 0) (h : n.natAbs.Coprime d) {q : Rat} (hq : mkRat n d = q) : q.num = n ∧ q.den = d := by
  rw [← hq, ← Rat.mk_eq_mkRat n d hd h]
  exact ⟨rfl, rfl⟩
theorem good_cop {n d : Int} (h : goodR n d) : n.natAbs.Coprime d.toNat ∧ 1 ≤ d.toNat ∧ ((d.toNat : Nat) : Int) = d := by
  obtain ⟨⟨h1, h2⟩, h3, h4⟩ := h
  refine ⟨?_, by omega, by omega⟩
  unfold gcdI at h4
  rw [natAbs_absI] at h4
  show Nat.gcd _ _ = 1
  omega
theorem good_rat {n d : Int} (h : goodR n d) : (rat n d).num = n ∧ ((rat n d).den : Int) = d := by
  obtain ⟨h1, h2, h3⟩ := good_cop h
  obtain ⟨a, b⟩ := rat_cop (by omega) h1 (q := rat n d) rfl
  exact ⟨a, by rw [b]; exact h3⟩
theorem good_inj {n d m e : Int} (h1 : goodR n d) (h2 : goodR m e) (h : rat n d = rat m e) : n = m ∧ d = e := by
  obtain ⟨a, b⟩ := good_rat h1
  obtain ⟨a', b'⟩ := good_rat h2
  rw [h] at a b
  exact ⟨a.symm.trans a', b.symm.trans b'⟩
/-- Within the limits. -/
def Fit (q : Rat) : Prop := (-1000000000000000000 ≤ q.num ∧ q.num ≤ 1000000000000000000) ∧ (q.den : Int) ≤ 1000000000000000000
instance (q : Rat) : Decidable (Fit q) := by unfold Fit; infer_instance
theorem fit_good {q : Rat} (h : Fit q) : goodR q.num q.den ∧ rat q.num q.den = q := by
  have hp := q.den_pos
  refine ⟨⟨⟨by omega, h.2⟩, h.1, ?_⟩, ?_⟩
  · unfold gcdI
    rw [natAbs_absI, Int.toNat_natCast, show q.num.natAbs.gcd q.den = 1 from q.reduced]
    rfl
  · unfold rat
    rw [Int.toNat_natCast]
    exact Rat.mkRat_self q
theorem good_fit {n d : Int} (h : goodR n d) : Fit (rat n d) := by
  obtain ⟨a, b⟩ := good_rat h
  unfold Fit
  rw [a, b]
  exact ⟨h.2.1, h.1.2⟩
/-- What is given for a rational number: its parts, or an error. -/
structure Is (q : Rat) (n d e : Int) : Prop where
  ok : Fit q → e = 0 ∧ n = q.num ∧ d = q.den
  no : ¬ Fit q → e = 16 ∧ n = 0 ∧ d = 0
theorem Is.zero {q : Rat} {n d e : Int} (h : Is q n d e) (he : e = 0) : Fit q ∧ n = q.num ∧ d = q.den ∧ goodR n d ∧ rat n d = q := by
  by_cases hf : Fit q
  · obtain ⟨a, b, c⟩ := h.ok hf
    obtain ⟨g1, g2⟩ := fit_good hf
    exact ⟨hf, b, c, by rw [b, c]; exact g1, by rw [b, c]; exact g2⟩
  · obtain ⟨a, _⟩ := h.no hf
    omega
theorem Is.or {q : Rat} {n d e : Int} (h : Is q n d e) : e = 0 ∨ e = 16 := by
  by_cases hf : Fit q
  · exact .inl (h.ok hf).1
  · exact .inr (h.no hf).1
theorem Is.same {q : Rat} {n d e n' d' e' : Int} (h : Is q n d e) (h' : Is q n' d' e') : n = n' ∧ d = d' ∧ e = e' := by
  by_cases hf : Fit q
  · obtain ⟨a, b, c⟩ := h.ok hf
    obtain ⟨a', b', c'⟩ := h'.ok hf
    exact ⟨by rw [b, b'], by rw [c, c'], by rw [a, a']⟩
  · obtain ⟨a, b, c⟩ := h.no hf
    obtain ⟨a', b', c'⟩ := h'.no hf
    exact ⟨by rw [b, b'], by rw [c, c'], by rw [a, a']⟩
/-- Out of a reduced pair. -/
theorem is_mk {q : Rat} {neg : Bool} {N D : Nat} (hD : D ≠ 0) (hc : N.Coprime D) (hq : mkRat (if neg = true then -(N : Int) else N) D = q) : Is q (mkN neg N D) (mkD N D) (mkE N D) := by
  obtain ⟨a, b⟩ := rat_cop hD (by
    have : (if neg = true then -(N : Int) else N).natAbs = N := by split <;> omega
    rw [this]; exact hc) hq
  have hiff : Fit q ↔ ¬ (1000000000000000000 < (N : Int) ∨ 1000000000000000000 < (D : Int)) := by
    unfold Fit
    rw [a, b]
    split <;> omega
  constructor
  · intro hf
    obtain ⟨k1, k2, k3⟩ := mk_ok (hiff.1 hf) neg
    rw [k1, k2, k3, a, b]
    exact ⟨rfl, rfl, rfl⟩
  · intro hf
    obtain ⟨k1, k2, k3⟩ := mk_bad (N := (N : Int)) (d := (D : Int)) (Classical.not_not.1 fun h => hf (hiff.2 h)) neg
    exact ⟨k1, k2, k3⟩
end Go.Proofs.YtofkkhdmjllcfaaDoor.Ra

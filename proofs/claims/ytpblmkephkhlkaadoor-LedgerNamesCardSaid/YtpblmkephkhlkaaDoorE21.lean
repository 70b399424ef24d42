/- Sets of parties as numbers; the most groups; the best grouping; no fewer payments. No conditions. -/
import Derived.Test.YtpblmkephkhlkaaDoorE20
import Derived.Test.YtpblmkephkhlkaaDoorE14
namespace Go.Proofs.YtpblmkephkhlkaaDoor.Mk
open Go.Ev
set_option linter.all false
/-- The sum of a set. -/
def sM (f : Nat → Int) (s : Nat) : Nat → Int
  | 0 => 0
  | n + 1 => sM f s n + if s.testBit n = true then f n else 0
theorem sub_bit {g s : Nat} (h : g &&& s = g) {i : Nat} (hi : g.testBit i = true) : s.testBit i = true := by
  have := congrArg (fun x => x.testBit i) h
  simp only [Nat.testBit_and, hi, Bool.true_and] at this
  exact this
theorem sub_of_bit {g s : Nat} (h : ∀ i, g.testBit i = true → s.testBit i = true) : g &&& s = g := by
  apply Nat.eq_of_testBit_eq
  intro i
  rw [Nat.testBit_and]
  cases hg : g.testBit i
  · rfl
  · rw [h i hg]; rfl
theorem sM_ext {f : Nat → Int} {s t : Nat} : ∀ {n : Nat}, (∀ i, i < n → s.testBit i = t.testBit i) → sM f s n = sM f t n
  | 0, _ => rfl
  | n + 1, h => by
    unfold sM
    rw [sM_ext (n := n) (fun i hi => h i (by omega)), h n (by omega)]
theorem sM_zero {f : Nat → Int} : ∀ {n : Nat}, sM f 0 n = 0
  | 0 => rfl
  | n + 1 => by unfold sM; rw [sM_zero (n := n), Nat.zero_testBit]; rfl
theorem sM_xor {f : Nat → Int} {s h : Nat} (hs : h &&& s = h) : ∀ {n : Nat}, sM f (s ^^^ h) n = sM f s n - sM f h n
  | 0 => rfl
  | n + 1 => by
    unfold sM
    rw [sM_xor hs (n := n), Nat.testBit_xor]
    cases h1 : h.testBit n
    · cases h2 : s.testBit n <;> simp <;> omega
    · rw [sub_bit hs h1]; simp; omega
theorem sM_rem {f : Nat → Int} {s t k : Nat} (h : ∀ i, t.testBit i = (s.testBit i && decide (i ≠ k))) (hk : s.testBit k = true) : ∀ {n : Nat}, sM f s n = sM f t n + if k < n then f k else 0
  | 0 => by simp [sM]
  | n + 1 => by
    unfold sM
    rw [sM_rem h hk (n := n), h n]
    by_cases hn : n = k
    · subst hn
      rw [hk, if_neg (show ¬ n < n by omega), if_pos (show n < n + 1 by omega)]; simp
    · rw [decide_eq_true hn, Bool.and_true]
      by_cases hkn : k < n
      · rw [if_pos hkn, if_pos (show k < n + 1 by omega)]; omega
      · rw [if_neg hkn, if_neg (show ¬ k < n + 1 by omega)]; omega
theorem sM_le {f : Nat → Int} {s : Nat} : ∀ {n : Nat}, (∀ i, i < n → -1000000000 ≤ f i ∧ f i ≤ 1000000000) → -1000000000 * (n : Int) ≤ sM f s n ∧ sM f s n ≤ 1000000000 * (n : Int)
  | 0, _ => by simp [sM]
  | n + 1, h => by
    unfold sM
    have h1 := sM_le (f := f) (s := s) (n := n) (fun i hi => h i (by omega))
    have h2 := h n (by omega)
    split <;> omega
/-- The next set within s is the greatest one below. -/
theorem pred_and : ∀ (n s g h : Nat), g ≤ n → g &&& s = g → h &&& s = h → h < g → h ≤ (g - 1) &&& s
  | 0, s, g, h, hn, _, _, hlt => by omega
  | n + 1, s, g, h, hn, hg, hh, hlt => by
    have hg2 : g / 2 &&& s / 2 = g / 2 := by rw [← Nat.and_div_two, hg]
    have hh2 : h / 2 &&& s / 2 = h / 2 := by rw [← Nat.and_div_two, hh]
    have ht : ((g - 1) &&& s) / 2 = (g - 1) / 2 &&& s / 2 := Nat.and_div_two
    have ho : ((g - 1) &&& s) % 2 = 1 ↔ (g - 1) % 2 = 1 ∧ s % 2 = 1 := Nat.and_mod_two_eq_one
    have hs : h % 2 = 1 → s % 2 = 1 := fun h1 => by
      have : (h &&& s) % 2 = 1 := by rw [hh]; exact h1
      exact (Nat.and_mod_two_eq_one.1 this).2
    generalize hT : (g - 1) &&& s = T at ht ho
    rcases Nat.mod_two_eq_zero_or_one g with h0 | h1
    · rw [show (g - 1) / 2 = g / 2 - 1 by omega] at ht
      have ih := pred_and n (s / 2) (g / 2) (h / 2) (by omega) hg2 hh2 (by omega)
      rw [← ht] at ih
      rcases Nat.mod_two_eq_zero_or_one h with h2 | h2
      · omega
      · have := ho.2 ⟨by omega, hs h2⟩
        omega
    · rw [show (g - 1) / 2 = g / 2 by omega, hg2] at ht
      omega
theorem xor_ne {s h : Nat} (h0 : h ≠ 0) : s ^^^ h ≠ s := fun he => h0 (by
  have := congrArg (fun x => s ^^^ x) he
  simp only [← Nat.xor_assoc, Nat.xor_self, Nat.zero_xor] at this
  exact this)
/-- The lowest bit. -/
theorem low_bits {s : Nat} (h0 : s ≠ 0) (h1 : s < 2 ^ 62) : s.testBit (ctzN s) = true ∧ (∀ i, i < ctzN s → s.testBit i = false) ∧ ∀ i, (s &&& (s - 1)).testBit i = (s.testBit i && decide (i ≠ ctzN s)) := by
  have hs : s < 2 ^ 64 := by omega
  obtain ⟨m, e1, e2⟩ := Lib.ctzFrom_spec 64 s (by omega) hs
  have hk : ctzN s = Lib.ctzFrom 64 s := by unfold ctzN Lib.ctz; rw [if_neg h0]
  rw [← hk] at e1 e2
  generalize ctzN s = k at e1 e2 ⊢
  have hp : 0 < 2 ^ k := Nat.two_pow_pos k
  have hb : ∀ i, s.testBit i = if i < k then false else (2 * m + 1).testBit (i - k) := fun i => by
    have := Nat.testBit_two_pow_mul_add (2 * m + 1) (b := 0) (i := k) hp i
    rw [Nat.add_zero, ← e1] at this
    rw [this]
    simp
  have hs1 : s - 1 = 2 ^ k * (2 * m) + (2 ^ k - 1) := by rw [e1, Nat.mul_add, Nat.mul_one]; omega
  have hb1 : ∀ i, (s - 1).testBit i = if i < k then (2 ^ k - 1).testBit i else (2 * m).testBit (i - k) := fun i => by
    rw [hs1]
    exact Nat.testBit_two_pow_mul_add (2 * m) (b := 2 ^ k - 1) (i := k) (by omega) i
  refine ⟨?_, fun i hi => ?_, fun i => ?_⟩
  · rw [hb, if_neg (by omega), Nat.sub_self, Nat.testBit_zero]; exact decide_eq_true (by omega)
  · rw [hb, if_pos hi]
  · rw [Nat.testBit_and, hb, hb1]
    by_cases c : i < k
    · rw [if_pos c]; rfl
    · rw [if_neg c, if_neg c]
      by_cases c2 : i = k
      · subst c2
        rw [Nat.sub_self, Nat.testBit_zero, Nat.testBit_zero, decide_eq_false (show ¬ i ≠ i from fun h => h rfl), Bool.and_false, decide_eq_false (show ¬ 2 * m % 2 = 1 by omega), Bool.and_false]
      · obtain ⟨d, hd⟩ : ∃ d, i - k = d + 1 := ⟨i - k - 1, by omega⟩
        rw [hd, Nat.testBit_succ, Nat.testBit_succ, show (2 * m + 1) / 2 = m by omega, show 2 * m / 2 = m by omega, decide_eq_true c2, Bool.and_true, Bool.and_self]
theorem sI_same (r : Row) (s : Nat) (x : Int) : (r.setI s 0 x).I s 0 = x := by
  show (bif Nat.beq s s && Nat.beq 0 0 then x else _) = x
  rw [Nat.beq_refl]; rfl
theorem sI_ne {r : Row} {e j s : Nat} {x : Int} (h : e ≠ s) : (r.setI s 0 x).I e j = r.I e j := by
  show (bif Nat.beq e s && Nat.beq j 0 then x else _) = _
  have : Nat.beq e s = false := by
    cases hb : Nat.beq e s
    · rfl
    · exact absurd (Nat.eq_of_beq_eq_true hb) h
  rw [this]; rfl
/-- The sets within s are gone through. -/
theorem inn {sm : Row} {s low : Nat} : ∀ (n g : Nat) (ou : Row), g &&& s = g → g < n →
    (∀ e j, e ≠ s → (innR sm s low n g ou).I e j = ou.I e j) ∧ ou.I s 0 ≤ (innR sm s low n g ou).I s 0 ∧
    (∀ h, h ≠ 0 → h &&& s = h → h ≤ g → h.testBit low = true → h ≠ s → sm.I h 0 = 0 → wi (1 + ou.I (s ^^^ h) 0) ≤ (innR sm s low n g ou).I s 0) ∧
    ((innR sm s low n g ou).I s 0 = ou.I s 0 ∨ ∃ h, h ≠ 0 ∧ h &&& s = h ∧ h.testBit low = true ∧ h ≠ s ∧ sm.I h 0 = 0 ∧ (innR sm s low n g ou).I s 0 = wi (1 + ou.I (s ^^^ h) 0))
  | n + 1, g, ou, hg, hn => by
    unfold innR
    by_cases h0 : g = 0
    · rw [if_pos h0]
      exact ⟨fun _ _ _ => rfl, Int.le_refl _, fun h a b c => by omega, .inl rfl⟩
    · rw [if_neg h0]
      have hle : (g - 1) &&& s ≤ g - 1 := Nat.and_le_left
      have hsub : ((g - 1) &&& s) &&& s = (g - 1) &&& s := by rw [Nat.and_assoc, Nat.and_self]
      obtain ⟨i1, i2, i3, i4⟩ := inn (sm := sm) (s := s) (low := low) n ((g - 1) &&& s) (inU sm s low g ou) hsub (by omega)
      have u1 : ∀ e j, e ≠ s → (inU sm s low g ou).I e j = ou.I e j := fun e j he => by
        unfold inU
        split
        · exact sI_ne he
        · rfl
      have u2 : ou.I s 0 ≤ (inU sm s low g ou).I s 0 := by
        unfold inU
        split
        · rw [sI_same]; split <;> omega
        · exact Int.le_refl _
      have u3 : g.testBit low = true → g ≠ s → sm.I g 0 = 0 → wi (1 + ou.I (s ^^^ g) 0) ≤ (inU sm s low g ou).I s 0 := fun a b c => by
        unfold inU
        rw [if_pos ⟨a, b, c⟩, sI_same]
        split <;> omega
      have u4 : (inU sm s low g ou).I s 0 = ou.I s 0 ∨ (g.testBit low = true ∧ g ≠ s ∧ sm.I g 0 = 0 ∧ (inU sm s low g ou).I s 0 = wi (1 + ou.I (s ^^^ g) 0)) := by
        unfold inU
        split
        · rename_i hc
          rw [sI_same]
          split
          · exact .inr ⟨hc.1, hc.2.1, hc.2.2, rfl⟩
          · exact .inl rfl
        · exact .inl rfl
      refine ⟨fun e j he => (i1 e j he).trans (u1 e j he), Int.le_trans u2 i2, fun h a b c d e f => ?_, ?_⟩
      · by_cases hgh : h = g
        · subst hgh
          exact Int.le_trans (u3 d e f) i2
        · have := i3 h a b (pred_and g s g h (Nat.le_refl _) hg b (by omega)) d e f
          rw [u1 _ 0 (xor_ne a)] at this
          exact this
      · rcases i4 with h | ⟨h, a, b, c, d, e, f⟩
        · rcases u4 with h' | ⟨a, b, c, d⟩
          · exact .inl (h.trans h')
          · exact .inr ⟨g, h0, hg, a, b, c, h.trans d⟩
        · rw [u1 _ 0 (xor_ne a)] at f
          exact .inr ⟨h, a, b, c, d, e, f⟩
end Go.Proofs.YtpblmkephkhlkaaDoor.Mk
namespace Go.Proofs.YtpblmkephkhlkaaDoor.Mk
open Go.Ev
set_option linter.all false
def bF (b : Row) : Nat → Int := fun i => b.I i 0
def Sg (b : Row) (s : Nat) : Int := sM (bF b) s b.n
/-- Balances that are not too great, of at most 10 parties. -/
def Fit (b : Row) : Prop := b.n ≤ 10 ∧ ∀ i, i < b.n → -1000000000 ≤ b.I i 0 ∧ b.I i 0 ≤ 1000000000
theorem Fit.sum {b : Row} (h : Fit b) (s : Nat) : -10000000000 ≤ Sg b s ∧ Sg b s ≤ 10000000000 := by
  have h1 := h.1
  have := sM_le (f := bF b) (s := s) (n := b.n) h.2
  unfold Sg
  omega
structure Good (b : Row) (o : Nat → Int) (t : Nat) : Prop where
  zero : t = 0 → o t = 0
  neg : t ≠ 0 → Sg b t ≠ 0 → o t = -1
  pos : t ≠ 0 → Sg b t = 0 → 1 ≤ o t ∧ o t ≤ t
  step : t ≠ 0 → Sg b t = 0 → ∀ h, h ≠ 0 → h &&& t = h → h ≠ t → h.testBit (ctzN t) = true → Sg b h = 0 → 1 + o (t ^^^ h) ≤ o t
  att : t ≠ 0 → Sg b t = 0 → o t = 1 ∨ ∃ h, h ≠ 0 ∧ h &&& t = h ∧ h ≠ t ∧ h.testBit (ctzN t) = true ∧ Sg b h = 0 ∧ o t = 1 + o (t ^^^ h)
theorem Good.congr {b : Row} {o o' : Nat → Int} {t : Nat} (h : Good b o t) (he : ∀ t', t' ≤ t → o' t' = o t') : Good b o' t where
  zero := fun h0 => by rw [he t (Nat.le_refl _)]; exact h.zero h0
  neg := fun h0 h1 => by rw [he t (Nat.le_refl _)]; exact h.neg h0 h1
  pos := fun h0 h1 => by rw [he t (Nat.le_refl _)]; exact h.pos h0 h1
  step := fun h0 h1 g a c d e f => by rw [he t (Nat.le_refl _), he _ (xor_le c)]; exact h.step h0 h1 g a c d e f
  att := fun h0 h1 => by
    rw [he t (Nat.le_refl _)]
    rcases h.att h0 h1 with h2 | ⟨g, a, c, d, e, f, k⟩
    · exact .inl h2
    · exact .inr ⟨g, a, c, d, e, f, by rw [he _ (xor_le c)]; exact k⟩
theorem Good.bound {b : Row} {o : Nat → Int} {t : Nat} (h : Good b o t) : -1 ≤ o t ∧ o t ≤ t := by
  by_cases h0 : t = 0
  · have := h.zero h0; omega
  · by_cases h1 : Sg b t = 0
    · have := h.pos h0 h1; omega
    · have := h.neg h0 h1; omega
theorem xor_lt {s h : Nat} (hs : h &&& s = h) (h0 : h ≠ 0) : s ^^^ h < s := by
  have := xor_le hs
  have := xor_ne (s := s) h0
  omega
theorem sub_lt {s h : Nat} (hs : h &&& s = h) (h0 : h ≠ s) : h < s := by
  have := sub_le hs
  omega
theorem Sg_low {b : Row} (hf : Fit b) {s : Nat} (h0 : s ≠ 0) (h1 : s < 2 ^ b.n) : Sg b s = Sg b (s &&& (s - 1)) + b.I (ctzN s) 0 := by
  have hf1 := hf.1
  have hp : 2 ^ b.n ≤ 2 ^ 10 := Nat.pow_le_pow_right (by decide) hf1
  obtain ⟨k1, k2, k3⟩ := low_bits h0 (by omega)
  have hk := ctz_lt s b.n (by omega) h1 (by omega)
  unfold Sg
  rw [sM_rem k3 k1, if_pos hk]
  rfl
theorem mst_good {b : Row} (hf : Fit b) : ∀ (m s : Nat) (sm ou : Row), 0 < s → s + m = 2 ^ b.n → (∀ t, t < s → sm.I t 0 = Sg b t) → (∀ t, t < s → Good b (fun t => ou.I t 0) t) →
    ∀ t, t < 2 ^ b.n → Good b (fun t => (mstR b m s sm ou).I t 0) t
  | 0, s, sm, ou, h0, hs, h1, h2, t, ht => by unfold mstR; exact h2 t (by omega)
  | m + 1, s, sm, ou, h0, hs, h1, h2, t, ht => by
    have hp : 2 ^ b.n ≤ 2 ^ 10 := Nat.pow_le_pow_right (by decide) hf.1
    have hsl : s < 2 ^ b.n := by omega
    have hlow : s &&& (s - 1) < s := by
      have : s &&& (s - 1) ≤ s - 1 := Nat.and_le_right
      omega
    have hsm : ∀ t, t < s + 1 → (smU b s sm).I t 0 = Sg b t := fun t ht => by
      unfold smU
      by_cases hts : t = s
      · subst hts
        have := hf.sum t
        rw [sI_same, h1 _ hlow]
        rw [Sg_low hf (by omega) hsl] at this ⊢
        exact wiN (by omega) (by omega)
      · rw [sI_ne hts]; exact h1 t (by omega)
    unfold mstR
    refine mst_good hf m (s + 1) _ _ (by omega) (by omega) hsm (fun t ht => ?_) t ht
    have hss : (smU b s sm).I s 0 = Sg b s := hsm s (by omega)
    unfold ouU
    rw [hss]
    by_cases hz : Sg b s = 0
    · rw [if_neg (fun h => h hz)]
      obtain ⟨i1, i2, i3, i4⟩ := inn (sm := smU b s sm) (s := s) (low := ctzN s) (s + 1) s ((ou.setI s 0 (-1)).setI s 0 1) (Nat.and_self s) (by omega)
      rw [sI_same] at i2 i4
      have i5 : ∀ e, e ≠ s → (innR (smU b s sm) s (ctzN s) (s + 1) s ((ou.setI s 0 (-1)).setI s 0 1)).I e 0 = ou.I e 0 := fun e he => by
        rw [i1 e 0 he, sI_ne he, sI_ne he]
      by_cases hts : t = s
      · subst hts
        have hw : ∀ h, h ≠ 0 → h &&& t = h → wi (1 + ((ou.setI t 0 (-1)).setI t 0 1).I (t ^^^ h) 0) = 1 + ou.I (t ^^^ h) 0 ∧ ou.I (t ^^^ h) 0 ≤ ((t ^^^ h : Nat) : Int) ∧ t ^^^ h < t := fun h a c => by
          rw [sI_ne (xor_ne a), sI_ne (xor_ne a)]
          have hx := xor_lt c a
          have hB := (h2 _ hx).bound
          exact ⟨wiN (by omega) (by omega), hB.2, hx⟩
        refine ⟨fun h => by omega, fun _ h => absurd hz h, fun _ _ => ⟨i2, ?_⟩, fun _ _ h a c d e f => ?_, fun _ _ => ?_⟩
        · skip
          rcases i4 with h | ⟨h, a, c, d, e, f, k⟩
          · rw [h]; omega
          · obtain ⟨w1, w2, w3⟩ := hw h a c
            rw [w1] at k
            omega
        · skip
          have := i3 h a c (sub_le c) e d (by rw [hsm h (by have := sub_lt c d; omega)]; exact f)
          rw [(hw h a c).1] at this
          rw [i5 _ (xor_ne a)]
          exact this
        · skip
          rcases i4 with h | ⟨h, a, c, d, e, f, k⟩
          · exact .inl h
          · refine .inr ⟨h, a, c, e, d, ?_, ?_⟩
            · rw [← hsm h (by have := sub_lt c e; omega)]; exact f
            · rw [i5 _ (xor_ne a), ← (hw h a c).1]; exact k
      · exact (h2 t (by omega)).congr fun t' ht' => i5 t' (by omega)
    · rw [if_pos hz]
      by_cases hts : t = s
      · subst hts
        exact ⟨fun h => by omega, fun _ _ => sI_same _ _ _, fun _ h => absurd h hz, fun _ h => absurd h hz, fun _ h => absurd h hz⟩
      · exact (h2 t (by omega)).congr fun t' ht' => sI_ne (by omega)
def mN (b : Row) (s : Nat) : Int := (mostR b).I s 0
theorem most_good {b : Row} (hf : Fit b) {t : Nat} (ht : t < 2 ^ b.n) : Good b (mN b) t := by
  have hp : 0 < 2 ^ b.n := Nat.two_pow_pos _
  exact mst_good hf (2 ^ b.n - 1) 1 _ _ (by omega) (by omega) (fun t ht => by
    obtain rfl : t = 0 := by omega
    unfold Sg
    rw [sM_zero]; rfl) (fun t ht => by
    obtain rfl : t = 0 := by omega
    exact ⟨fun _ => rfl, fun h => absurd rfl h, fun h => absurd rfl h, fun h => absurd rfl h, fun h => absurd rfl h⟩) t ht
end Go.Proofs.YtpblmkephkhlkaaDoor.Mk
namespace Go.Proofs.YtpblmkephkhlkaaDoor.Mk
open Go.Ev
set_option linter.all false
/-- Those of a set that have a label. -/
def clM (c : Nat → Nat) (s q : Nat) : Nat → Nat
  | 0 => 0
  | n + 1 => if s.testBit n = true ∧ c n = q then clM c s q n ||| 2 ^ n else clM c s q n
theorem clM_bit (c : Nat → Nat) (s q i : Nat) : ∀ n, (clM c s q n).testBit i = (decide (i < n) && (s.testBit i && decide (c i = q)))
  | 0 => by simp [clM]
  | n + 1 => by
    unfold clM
    by_cases hi : i = n
    · subst hi
      split
      · rename_i h
        rw [Nat.testBit_or, Nat.testBit_two_pow, h.1, decide_eq_true h.2, decide_eq_true (show i < i + 1 by omega)]
        simp
      · rename_i h
        rw [clM_bit c s q i i, decide_eq_false (show ¬ i < i by omega), Bool.false_and, decide_eq_true (show i < i + 1 by omega), Bool.true_and]
        cases h1 : s.testBit i
        · rfl
        · rw [decide_eq_false (fun h2 => h ⟨h1, h2⟩)]; rfl
    · have e : decide (i < n + 1) = decide (i < n) := by
        by_cases h : i < n
        · rw [decide_eq_true h, decide_eq_true (show i < n + 1 by omega)]
        · rw [decide_eq_false h, decide_eq_false (show ¬ i < n + 1 by omega)]
      split
      · rw [Nat.testBit_or, Nat.testBit_two_pow, clM_bit c s q i n, e, decide_eq_false (show ¬ n = i from fun h => hi h.symm), Bool.or_false]
      · rw [clM_bit c s q i n, e]
def cntB (e : Nat → Bool) : Nat → Nat
  | 0 => 0
  | q + 1 => cntB e q + if e q = true then 1 else 0
theorem cntB_ext {e e' : Nat → Bool} : ∀ {Q}, (∀ q, q < Q → e q = e' q) → cntB e Q = cntB e' Q
  | 0, _ => rfl
  | Q + 1, h => by unfold cntB; rw [cntB_ext (Q := Q) (fun q hq => h q (by omega)), h Q (by omega)]
theorem cntB_none {e : Nat → Bool} : ∀ {Q}, (∀ q, q < Q → e q = false) → cntB e Q = 0
  | 0, _ => rfl
  | Q + 1, h => by unfold cntB; rw [cntB_none (Q := Q) (fun q hq => h q (by omega)), h Q (by omega)]; rfl
theorem cntB_le {e e' : Nat → Bool} : ∀ {Q}, (∀ q, q < Q → e q = true → e' q = true) → cntB e Q ≤ cntB e' Q
  | 0, _ => Nat.le_refl _
  | Q + 1, h => by
    unfold cntB
    have := cntB_le (Q := Q) (fun q hq => h q (by omega))
    have h2 := h Q (by omega)
    by_cases hc : e Q = true
    · rw [if_pos hc, if_pos (h2 hc)]; omega
    · rw [if_neg hc]; omega
theorem cntB_merge {e e' : Nat → Bool} {q0 : Nat} (h : ∀ q, q ≠ q0 → e q = true → e' q = true) : ∀ {Q}, cntB e Q ≤ cntB e' Q + if q0 < Q then 1 else 0
  | 0 => by simp [cntB]
  | Q + 1 => by
    unfold cntB
    by_cases hq : Q = q0
    · subst hq
      have := cntB_merge h (Q := Q)
      rw [if_neg (show ¬ Q < Q by omega)] at this
      rw [if_pos (show Q < Q + 1 by omega)]
      split <;> split <;> omega
    · have := cntB_merge h (Q := Q)
      have e1 : (if q0 < Q + 1 then 1 else 0 : Nat) = if q0 < Q then 1 else 0 := by
        by_cases h : q0 < Q
        · rw [if_pos h, if_pos (show q0 < Q + 1 by omega)]
        · rw [if_neg h, if_neg (show ¬ q0 < Q + 1 by omega)]
      rw [e1]
      by_cases hc : e Q = true
      · rw [if_pos hc, if_pos (h Q hq hc)]; omega
      · rw [if_neg hc]; omega
/-- Labels in use on a set. -/
def use (c : Nat → Nat) (s n : Nat) : Nat → Bool := fun q => decide (clM c s q n ≠ 0)
theorem use_iff {c : Nat → Nat} {s n q : Nat} : use c s n q = true ↔ ∃ i, i < n ∧ s.testBit i = true ∧ c i = q := by
  unfold use
  rw [decide_eq_true_eq]
  constructor
  · intro h
    obtain ⟨i, hi⟩ := Nat.exists_testBit_of_ne_zero h
    rw [clM_bit] at hi
    simp only [Bool.and_eq_true, decide_eq_true_eq] at hi
    exact ⟨i, hi.1, hi.2.1, hi.2.2⟩
  · rintro ⟨i, h1, h2, h3⟩ h
    have := clM_bit c s q i n
    rw [h, Nat.zero_testBit, decide_eq_true h1, h2, decide_eq_true h3] at this
    cases this
theorem lab_le {b : Row} (hf : Fit b) {c : Nat → Nat} (hc : ∀ i, i < b.n → c i < b.n) : ∀ N s, s ≤ N → s < 2 ^ b.n → (∀ q, Sg b (clM c s q b.n) = 0) → Sg b s = 0 ∧ ((cntB (use c s b.n) b.n : Nat) : Int) ≤ mN b s := by
  intro N
  induction N with
  | zero =>
    intro s hs hl hq
    obtain rfl : s = 0 := by omega
    refine ⟨sM_zero, ?_⟩
    rw [cntB_none (fun q _ => by
      cases hu : use c 0 b.n q
      · rfl
      · obtain ⟨i, _, h, _⟩ := use_iff.1 hu
        rw [Nat.zero_testBit] at h; cases h), (most_good hf hl).zero rfl]
    exact Int.le_refl _
  | succ N ih =>
    intro s hs hl hq
    by_cases h0 : s = 0
    · exact ih s (by omega) hl hq
    have hp : 2 ^ b.n ≤ 2 ^ 10 := Nat.pow_le_pow_right (by decide) hf.1
    have hp1 := (low_bits h0 (by omega)).1
    have hpn := ctz_lt s b.n (by omega) hl (by have := hf.1; omega)
    generalize hpe : ctzN s = p at hp1 hpn
    generalize hhe : clM c s (c p) b.n = h
    have hb : ∀ i, h.testBit i = (decide (i < b.n) && (s.testBit i && decide (c i = c p))) := fun i => by rw [← hhe]; exact clM_bit _ _ _ _ _
    have hhp : h.testBit p = true := by rw [hb, decide_eq_true hpn, hp1, decide_eq_true rfl]; rfl
    have hn0 : h ≠ 0 := fun h0 => by rw [h0, Nat.zero_testBit] at hhp; cases hhp
    have hsub : h &&& s = h := sub_of_bit fun i hi => by
      rw [hb] at hi
      simp only [Bool.and_eq_true] at hi
      exact hi.2.1
    have hS : Sg b h = 0 := by rw [← hhe]; exact hq _
    have hlt := xor_lt hsub hn0
    have hcl : ∀ q, clM c (s ^^^ h) q b.n = if q = c p then 0 else clM c s q b.n := fun q => by
      apply Nat.eq_of_testBit_eq
      intro i
      rw [clM_bit, Nat.testBit_xor, hb]
      split
      · rename_i hqp
        subst hqp
        rw [Nat.zero_testBit]
        cases decide (i < b.n) <;> cases s.testBit i <;> cases decide (c i = c p) <;> rfl
      · rename_i hqp
        rw [clM_bit]
        by_cases hci : c i = q
        · rw [decide_eq_true hci, decide_eq_false (fun h => hqp (hci.symm.trans h))]
          cases decide (i < b.n) <;> cases s.testBit i <;> rfl
        · rw [decide_eq_false hci]; simp
    have hsum : Sg b (s ^^^ h) = Sg b s - Sg b h := sM_xor hsub
    obtain ⟨i1, i2⟩ := ih (s ^^^ h) (by omega) (by omega) (fun q => by
      rw [hcl]
      split
      · exact sM_zero
      · exact hq q)
    have hz : Sg b s = 0 := by omega
    refine ⟨hz, ?_⟩
    have hm := cntB_merge (e := use c s b.n) (e' := use c (s ^^^ h) b.n) (q0 := c p) (fun q hqp hu => by
      unfold use at hu ⊢
      rw [hcl, if_neg hqp]
      exact hu) (Q := b.n)
    rw [if_pos (hc p hpn)] at hm
    by_cases hhs : h = s
    · have := ((most_good hf hl).pos h0 hz).1
      have h3 : s ^^^ h = 0 := by rw [hhs]; exact Nat.xor_self s
      have h4 := (most_good hf (t := s ^^^ h) (by omega)).zero h3
      omega
    · have := (most_good hf hl).step h0 hz h hn0 hsub hhs (by rw [hpe]; exact hhp) hS
      omega
/-- The sum of those that have a label. -/
def lS (f : Nat → Int) (c : Nat → Nat) (q : Nat) : Nat → Int
  | 0 => 0
  | n + 1 => lS f c q n + if c n = q then f n else 0
theorem lS_add {f g h : Nat → Int} {c : Nat → Nat} {q : Nat} : ∀ {n}, (∀ i, i < n → h i = f i + g i) → lS h c q n = lS f c q n + lS g c q n
  | 0, _ => rfl
  | n + 1, hh => by
    unfold lS
    rw [lS_add (n := n) (fun i hi => hh i (by omega)), hh n (by omega)]
    split <;> omega
theorem lS_zero {f : Nat → Int} {c : Nat → Nat} {q : Nat} : ∀ {n}, (∀ i, i < n → f i = 0) → lS f c q n = 0
  | 0, _ => rfl
  | n + 1, h => by
    unfold lS
    rw [lS_zero (n := n) (fun i hi => h i (by omega)), h n (by omega)]
    split <;> rfl
theorem lS_one {a : Int} {t : Nat} {c : Nat → Nat} {q : Nat} : ∀ {n}, lS (fun i => if i = t then a else 0) c q n = if t < n ∧ c t = q then a else 0
  | 0 => by simp [lS]
  | n + 1 => by
    unfold lS
    rw [lS_one (n := n)]
    by_cases hn : n = t
    · subst hn
      rw [if_neg (show ¬ (n < n ∧ c n = q) by omega)]
      by_cases hc : c n = q
      · rw [if_pos hc, if_pos (show n < n + 1 ∧ c n = q from ⟨by omega, hc⟩)]; simp
      · rw [if_neg hc, if_neg (show ¬ (n < n + 1 ∧ c n = q) from fun h => hc h.2)]; rfl
    · have e : (if t < n + 1 ∧ c t = q then a else 0) = if t < n ∧ c t = q then a else 0 := by
        by_cases h : t < n ∧ c t = q
        · rw [if_pos h, if_pos (show t < n + 1 ∧ c t = q from ⟨by omega, h.2⟩)]
        · rw [if_neg h, if_neg (show ¬ (t < n + 1 ∧ c t = q) from fun h2 => h ⟨by omega, h2.2⟩)]
      rw [e, if_neg hn]
      split <;> simp
theorem sM_class {f : Nat → Int} {c : Nat → Nat} {s q : Nat} (hz : ∀ i, s.testBit i = false → f i = 0) : ∀ {n k}, k ≤ n → sM f (clM c s q n) k = lS f c q k
  | n, 0, _ => rfl
  | n, k + 1, h => by
    unfold sM lS
    rw [sM_class hz (n := n) (k := k) (by omega), clM_bit, decide_eq_true (show k < n by omega), Bool.true_and]
    cases hs : s.testBit k
    · rw [hz k hs]; simp
    · by_cases hc : c k = q
      · rw [decide_eq_true hc, if_pos hc]; rfl
      · rw [decide_eq_false hc, if_neg hc]; rfl
/-- Labels after payments. -/
def mrg (c : Nat → Nat) (x : Pt) : Nat → Nat := fun i => if c i = c x.2.1.toNat then c x.1.toNat else c i
def labs : List Pt → (Nat → Nat) → Nat → Nat
  | [], c => c
  | x :: xs, c => labs xs (mrg c x)
theorem labs_eq : ∀ (xs : List Pt) (c : Nat → Nat) {i j : Nat}, c i = c j → labs xs c i = labs xs c j
  | [], c, i, j, h => h
  | x :: xs, c, i, j, h => labs_eq xs _ (by unfold mrg; rw [h])
theorem labs_in : ∀ (xs : List Pt) (c : Nat → Nat) (x : Pt), x ∈ xs → labs xs c x.1.toNat = labs xs c x.2.1.toNat
  | y :: xs, c, x, h => by
    unfold labs
    rcases List.mem_cons.1 h with rfl | h
    · refine labs_eq xs _ ?_
      unfold mrg
      rw [if_pos rfl]
      split <;> rfl
    · exact labs_in xs _ x h
theorem labs_lt {n : Nat} : ∀ (xs : List Pt) (c : Nat → Nat), (∀ x, x ∈ xs → okP n x) → (∀ i, i < n → c i < n) → ∀ i, i < n → labs xs c i < n
  | [], c, _, hc => hc
  | x :: xs, c, hx, hc => labs_lt xs _ (fun y hy => hx y (by simp [hy])) (fun i hi => by
    unfold mrg
    split
    · have := (hx x (by simp)).1
      exact hc _ (by omega)
    · exact hc i hi)
theorem labs_cnt {s n : Nat} : ∀ (xs : List Pt) (c : Nat → Nat), cntB (use c s n) n ≤ cntB (use (labs xs c) s n) n + xs.length
  | [], c => Nat.le_refl _
  | x :: xs, c => by
    have h1 := labs_cnt (s := s) (n := n) xs (mrg c x)
    have h2 := cntB_merge (e := use c s n) (e' := use (mrg c x) s n) (q0 := c x.2.1.toNat) (fun q hq hu => by
      obtain ⟨i, a, d, e⟩ := use_iff.1 hu
      refine use_iff.2 ⟨i, a, d, ?_⟩
      unfold mrg
      rw [if_neg (by rw [e]; exact hq), e]) (Q := n)
    unfold labs
    rw [List.length_cons]
    split at h2 <;> omega
theorem lS_dl {n : Nat} {c : Nat → Nat} {q : Nat} {x : Pt} (hx : okP n x) (hc : c x.1.toNat = c x.2.1.toNat) : lS (fun i => dl x i) c q n = 0 := by
  obtain ⟨⟨a1, a2⟩, ⟨a3, a4⟩, _⟩ := hx
  have e : ∀ i : Nat, (if x.2.1 = (i : Int) then x.2.2 else 0) = (if i = x.2.1.toNat then x.2.2 else 0) := fun i => by
    by_cases h : x.2.1 = (i : Int)
    · rw [if_pos h, if_pos (show i = x.2.1.toNat by omega)]
    · rw [if_neg h, if_neg (show ¬ i = x.2.1.toNat by omega)]
  have e' : ∀ i : Nat, -(if x.1 = (i : Int) then x.2.2 else 0) = (if i = x.1.toNat then -x.2.2 else 0) := fun i => by
    by_cases h : x.1 = (i : Int)
    · rw [if_pos h, if_pos (show i = x.1.toNat by omega)]
    · rw [if_neg h, if_neg (show ¬ i = x.1.toNat by omega)]; rfl
  rw [lS_add (f := fun i => if i = x.2.1.toNat then x.2.2 else 0) (g := fun i => if i = x.1.toNat then -x.2.2 else 0) (fun i _ => by
    show dl x i = _
    rw [← e, ← e']
    unfold dl
    omega), lS_one, lS_one, hc]
  by_cases h : c x.2.1.toNat = q
  · rw [if_pos ⟨by omega, h⟩, if_pos ⟨by omega, h⟩]; omega
  · rw [if_neg (fun h2 => h h2.2), if_neg (fun h2 => h h2.2)]; rfl
theorem lS_bl {n : Nat} {c : Nat → Nat} {q : Nat} : ∀ {xs : List Pt}, (∀ x, x ∈ xs → okP n x) → (∀ x, x ∈ xs → c x.1.toNat = c x.2.1.toNat) → lS (fun i => bl xs i) c q n = 0
  | [], _, _ => lS_zero fun i _ => rfl
  | x :: xs, hx, hc => by
    rw [lS_add (f := fun i => dl x i) (g := fun i => bl xs i) (h := fun i => bl (x :: xs) i) (fun i _ => rfl), lS_dl (hx x (by simp)) (hc x (by simp)), lS_bl (fun y hy => hx y (by simp [hy])) (fun y hy => hc y (by simp [hy]))]
    rfl
/-- Those whose balance is not 0. -/
def Nz (b : Row) (s : Nat) : Prop := ∀ i, s.testBit i = (decide (i < b.n) && decide (b.I i 0 ≠ 0))
/-- No fewer payments than parties, less the most groups. -/
theorem fewest {b : Row} (hf : Fit b) {s : Nat} (hs : Nz b s) {xs : List Pt} (hx : ∀ x, x ∈ xs → okP b.n x) (h0 : ∀ i : Nat, i < b.n → b.I i 0 + bl xs i = 0) : ((cntB (fun i => s.testBit i) b.n : Nat) : Int) ≤ mN b s + xs.length := by
  have hl : s < 2 ^ b.n := Nat.lt_pow_two_of_testBit s fun i hi => by rw [hs, decide_eq_false (show ¬ i < b.n by omega)]; rfl
  have hcl := labs_lt xs (fun i => i) hx (fun i hi => hi)
  have hzero : ∀ q, Sg b (clM (labs xs fun i => i) s q b.n) = 0 := fun q => by
    unfold Sg
    have hc := sM_class (f := fun i => if i < b.n then b.I i 0 else 0) (c := labs xs fun i => i) (s := s) (q := q) (fun i hi => by
      rw [hs] at hi
      by_cases hin : i < b.n
      · rw [decide_eq_true hin, Bool.true_and] at hi
        show (if i < b.n then b.I i 0 else 0) = 0
        rw [if_pos hin]
        exact Classical.not_not.1 (of_decide_eq_false hi)
      · exact if_neg hin) (n := b.n) (k := b.n) (Nat.le_refl _)
    have hcongr : ∀ (m k : Nat), k ≤ b.n → sM (bF b) m k = sM (fun i => if i < b.n then b.I i 0 else 0) m k := fun m k => by
      induction k with
      | zero => intro _; rfl
      | succ k ih =>
        intro hk
        unfold sM
        rw [ih (by omega)]
        dsimp only [bF]
        rw [if_pos (show k < b.n by omega)]
    rw [hcongr _ _ (Nat.le_refl _), hc]
    have h1 := lS_add (f := fun i => if i < b.n then b.I i 0 else 0) (g := fun i => bl xs i) (h := fun _ => 0) (c := labs xs fun i => i) (q := q) (n := b.n) (fun i hi => by
      show (0 : Int) = (if i < b.n then b.I i 0 else 0) + bl xs i
      rw [if_pos hi]; exact (h0 i hi).symm)
    rw [lS_zero (fun _ _ => rfl), lS_bl hx (labs_in xs _)] at h1
    omega
  have h1 := (lab_le hf hcl s s (Nat.le_refl _) hl hzero).2
  have h2 := labs_cnt (s := s) (n := b.n) xs (fun i => i)
  have h3 : cntB (fun i => s.testBit i) b.n ≤ cntB (use (fun i => i) s b.n) b.n := cntB_le fun q hq hb => use_iff.2 ⟨q, hq, hb, rfl⟩
  omega
end Go.Proofs.YtpblmkephkhlkaaDoor.Mk
namespace Go.Proofs.YtpblmkephkhlkaaDoor.Mk
open Go.Ev
set_option linter.all false
theorem cntB_lt {e e' : Nat → Bool} {q0 : Nat} : ∀ {Q}, (∀ q, q < Q → e q = true → e' q = true) → q0 < Q → e q0 = false → e' q0 = true → cntB e Q + 1 ≤ cntB e' Q
  | Q + 1, h, hq, h1, h2 => by
    unfold cntB
    by_cases hc : q0 = Q
    · subst hc
      have := cntB_le (Q := q0) (fun q hq => h q (by omega))
      rw [h1, h2, if_neg (by decide), if_pos rfl]
      omega
    · have := cntB_lt (Q := Q) (fun q hq => h q (by omega)) (by omega) h1 h2
      have h3 := h Q (by omega)
      by_cases hc : e Q = true
      · rw [if_pos hc, if_pos (h3 hc)]; omega
      · rw [if_neg hc]; omega
theorem cntB_bound {e : Nat → Bool} : ∀ {Q}, cntB e Q ≤ Q
  | 0 => Nat.le_refl _
  | Q + 1 => by unfold cntB; have := cntB_bound (e := e) (Q := Q); split <;> omega
def pc (t n : Nat) : Nat := cntB (fun i => t.testBit i) n
theorem bit_lt {t n i : Nat} (ht : t < 2 ^ n) (hi : t.testBit i = true) : i < n := by
  by_cases h : i < n
  · exact h
  · rw [Nat.testBit_lt_two_pow (Nat.lt_of_lt_of_le ht (Nat.pow_le_pow_right (by decide) (by omega)))] at hi; cases hi
theorem pc_xor {t h n : Nat} (ht : t < 2 ^ n) (hs : h &&& t = h) (h0 : h ≠ 0) : pc (t ^^^ h) n + 1 ≤ pc t n := by
  obtain ⟨i, hi⟩ := Nat.exists_testBit_of_ne_zero h0
  have hti := sub_bit hs hi
  refine cntB_lt (q0 := i) (fun q _ hq => ?_) (bit_lt ht hti) (by rw [Nat.testBit_xor, hi, hti]; rfl) hti
  rw [Nat.testBit_xor] at hq
  cases h1 : h.testBit q
  · rw [h1, Bool.xor_false] at hq; exact hq
  · exact sub_bit hs h1
theorem mN_pc {b : Row} (hf : Fit b) : ∀ N t, t ≤ N → t < 2 ^ b.n → mN b t ≤ (pc t b.n : Nat) := by
  intro N
  induction N with
  | zero =>
    intro t hN ht
    have := (most_good hf ht).zero (by omega)
    omega
  | succ N ih =>
    intro t hN ht
    have hg := most_good hf ht
    by_cases h0 : t = 0
    · have := hg.zero h0; omega
    · by_cases h1 : Sg b t = 0
      · obtain ⟨i, hi⟩ := Nat.exists_testBit_of_ne_zero h0
        have h2 : 1 ≤ pc t b.n := by
          have := pc_xor ht (Nat.and_self t) h0
          omega
        rcases hg.att h0 h1 with h | ⟨h, a, c, d, e, f, k⟩
        · omega
        · have h3 := xor_lt c a
          have h4 := ih (t ^^^ h) (by omega) (by omega)
          have h5 := pc_xor ht c a
          omega
      · have := hg.neg h0 h1; omega
/-- A group that may be taken. -/
def Cand (m : Row) (rest low h : Nat) : Prop := h ≠ 0 ∧ h &&& rest = h ∧ h &&& low ≠ 0 ∧ 1 ≤ m.I h 0 ∧ m.I (rest ^^^ h) 0 = wi (m.I rest 0 - 1)
theorem bst_cand {m : Row} {rest low : Nat} : ∀ (n g best : Nat), g &&& rest = g → g < n → (best = 0 ∨ Cand m rest low best) →
    (bst m rest low n g best = 0 ∨ Cand m rest low (bst m rest low n g best)) ∧ (best ≠ 0 → bst m rest low n g best ≠ 0) ∧ ∀ h, Cand m rest low h → h ≤ g → bst m rest low n g best ≠ 0
  | n + 1, g, best, hg, hn, hb => by
    unfold bst
    by_cases h0 : g = 0
    · rw [if_pos h0]
      exact ⟨hb, id, fun h hc hl => by have := hc.1; omega⟩
    · rw [if_neg h0]
      have hle : (g - 1) &&& rest ≤ g - 1 := Nat.and_le_left
      have hsub : ((g - 1) &&& rest) &&& rest = (g - 1) &&& rest := by rw [Nat.and_assoc, Nat.and_self]
      have hu : (bstU m rest low g best = 0 ∨ Cand m rest low (bstU m rest low g best)) ∧ (best ≠ 0 → bstU m rest low g best ≠ 0) ∧ (Cand m rest low g → bstU m rest low g best ≠ 0) := by
        unfold bstU
        split
        · rename_i hc
          refine ⟨hb, id, fun hcg => ?_⟩
          obtain ⟨_, _, c3, c4, c5⟩ := hcg
          rcases hc with h | h | h
          · exact absurd h c3
          · omega
          · exact absurd c5 h
        · rename_i hc
          split
          · refine ⟨.inr ⟨h0, hg, fun h => hc (.inl h), ?_, Classical.not_not.1 fun h => hc (.inr (.inr h))⟩, fun _ => h0, fun _ => h0⟩
            have : ¬ m.I g 0 < 1 := fun h => hc (.inr (.inl h))
            omega
          · rename_i hbn
            exact ⟨hb, id, fun _ h => hbn (.inl h)⟩
      obtain ⟨u1, u2, u3⟩ := hu
      obtain ⟨i1, i2, i3⟩ := bst_cand n ((g - 1) &&& rest) (bstU m rest low g best) hsub (by omega) u1
      refine ⟨i1, fun h => i2 (u2 h), fun h hc hl => ?_⟩
      by_cases hgh : h = g
      · subst hgh
        exact i2 (u3 hc)
      · exact i3 h hc (pred_and g rest g h (Nat.le_refl _) hg hc.2.1 (by omega))
theorem sI_I {r : Row} {e j : Nat} {x : Int} : (r.setI j 0 x).I e 0 = if e = j then x else r.I e 0 := by
  by_cases h : e = j
  · subst h; rw [sI_same, if_pos rfl]
  · rw [sI_ne h, if_neg h]
theorem asR_I (best : Nat) (group : Int) : ∀ (m j : Nat) (o : Row), (asR best group m j o).n = o.n ∧ ∀ p, (asR best group m j o).I p 0 = if j ≤ p ∧ p < j + m ∧ best.testBit p = true then group else o.I p 0
  | 0, j, o => ⟨rfl, fun p => by rw [if_neg (by omega)]; rfl⟩
  | m + 1, j, o => by
    unfold asR
    obtain ⟨i1, i2⟩ := asR_I best group m (j + 1) (if best.testBit j = true then o.setI j 0 group else o)
    refine ⟨i1.trans (by split <;> rfl), fun p => ?_⟩
    rw [i2 p]
    by_cases hp : p = j
    · subst hp
      rw [if_neg (by omega)]
      by_cases hb : best.testBit p = true
      · rw [if_pos hb, if_pos ⟨by omega, by omega, hb⟩, sI_same]
      · rw [if_neg hb, if_neg (fun h => hb h.2.2)]
    · have e1 : (if best.testBit j = true then o.setI j 0 group else o).I p 0 = o.I p 0 := by
        split
        · exact sI_ne hp
        · rfl
      rw [e1]
      by_cases hc : j + 1 ≤ p ∧ p < j + 1 + m ∧ best.testBit p = true
      · rw [if_pos hc, if_pos ⟨by omega, by omega, hc.2.2⟩]
      · rw [if_neg hc, if_neg (fun h => hc ⟨by omega, by omega, h.2.2⟩)]
theorem rsR_I (b : Row) : ∀ (m j : Nat) (x : Nat × Row), (rsR b m j x).2.n = x.2.n ∧ (∀ i, (rsR b m j x).1.testBit i = (x.1.testBit i || (decide (j ≤ i ∧ i < j + m) && decide (b.I i 0 ≠ 0)))) ∧ ∀ p, (rsR b m j x).2.I p 0 = if j ≤ p ∧ p < j + m then -1 else x.2.I p 0
  | 0, j, x => ⟨rfl, fun i => by rw [decide_eq_false (show ¬ (j ≤ i ∧ i < j + 0) by omega)]; simp [rsR], fun p => by rw [if_neg (by omega)]; rfl⟩
  | m + 1, j, x => by
    unfold rsR
    obtain ⟨i1, i2, i3⟩ := rsR_I b m (j + 1) (rsU b j x)
    refine ⟨i1.trans rfl, fun i => ?_, fun p => ?_⟩
    · rw [i2 i]
      have hu : (rsU b j x).1.testBit i = (x.1.testBit i || (decide (i = j) && decide (b.I i 0 ≠ 0))) := by
        unfold rsU
        dsimp only
        split
        · rename_i h
          rw [Nat.testBit_or, Nat.testBit_two_pow]
          by_cases hij : i = j
          · subst hij; rw [decide_eq_true h, decide_eq_true rfl]; rfl
          · rw [decide_eq_false hij, decide_eq_false (fun h => hij h.symm)]; rfl
        · rename_i h
          by_cases hij : i = j
          · subst hij; rw [decide_eq_false h, Bool.and_false, Bool.or_false]
          · rw [decide_eq_false hij]; simp
      rw [hu, Bool.or_assoc]
      congr 1
      by_cases hij : i = j
      · subst hij
        rw [decide_eq_true rfl, decide_eq_false (show ¬ (i + 1 ≤ i ∧ i < i + 1 + m) by omega), decide_eq_true (show i ≤ i ∧ i < i + (m + 1) by omega)]
        simp
      · rw [decide_eq_false hij]
        by_cases hc : j + 1 ≤ i ∧ i < j + 1 + m
        · rw [decide_eq_true hc, decide_eq_true (show j ≤ i ∧ i < j + (m + 1) by omega)]; simp
        · rw [decide_eq_false hc, decide_eq_false (show ¬ (j ≤ i ∧ i < j + (m + 1)) by omega)]; simp
    · rw [i3 p]
      show _ = _
      have : (rsU b j x).2.I p 0 = if p = j then -1 else x.2.I p 0 := sI_I
      rw [this]
      by_cases hc : j + 1 ≤ p ∧ p < j + 1 + m
      · rw [if_pos hc, if_pos (by omega)]
      · rw [if_neg hc]
        by_cases hp : p = j
        · rw [if_pos hp, if_pos (by omega)]
        · rw [if_neg hp, if_neg (by omega)]
theorem wi_m {b : Row} (hf : Fit b) {t : Nat} (ht : t < 2 ^ b.n) : wi ((mostR b).I t 0 - 1) = mN b t - 1 := by
  have hp : 2 ^ b.n ≤ 2 ^ 10 := Nat.pow_le_pow_right (by decide) hf.1
  have := (most_good hf ht).bound
  exact wiN (by unfold mN at this; omega) (by unfold mN at this; omega)
theorem low_and {s : Nat} (h0 : s ≠ 0) (h1 : s < 2 ^ 62) {h : Nat} (hb : h.testBit (ctzN s) = true) : h &&& lowN s ≠ 0 := by
  have hl : lowN s = 2 ^ ctzN s := (Lib.lowest_bit 64 s h0 (by omega)).1
  intro he
  have := congrArg (fun x => x.testBit (ctzN s)) he
  simp only [hl, Nat.testBit_and, hb, Nat.testBit_two_pow, Nat.zero_testBit, decide_true, Bool.true_and] at this
  cases this
/-- There is a group that may be taken. -/
theorem cand_ex {b : Row} (hf : Fit b) {rest : Nat} (ht : rest < 2 ^ b.n) (h0 : rest ≠ 0) (hz : Sg b rest = 0) : ∃ h, Cand (mostR b) rest (lowN rest) h := by
  have hp : 2 ^ b.n ≤ 2 ^ 10 := Nat.pow_le_pow_right (by decide) hf.1
  have hg := most_good hf ht
  rcases hg.att h0 hz with h | ⟨h, a, c, d, e, f, k⟩
  · refine ⟨rest, h0, Nat.and_self _, low_and h0 (by omega) (low_bits h0 (by omega)).1, ?_, ?_⟩
    · show 1 ≤ mN b rest; omega
    · rw [Nat.xor_self, wi_m hf ht]
      have : mN b 0 = 0 := (most_good hf (t := 0) (by omega)).zero rfl
      show mN b 0 = _
      omega
  · refine ⟨h, a, c, low_and h0 (by omega) e, ?_, ?_⟩
    · exact ((most_good hf (Nat.lt_of_le_of_lt (sub_le c) ht)).pos a f).1
    · rw [wi_m hf ht]
      show mN b (rest ^^^ h) = _
      omega
/-- The label of a party. -/
def lab (o : Row) : Nat → Nat := fun p => (o.I p 0).toNat
/-- What the search comes to. -/
structure Grp (b : Row) (rest g0 : Nat) (o o' : Row) : Prop where
  n : o'.n = o.n
  out : ∀ p, rest.testBit p = false → o'.I p 0 = o.I p 0
  lo : ∀ p, rest.testBit p = true → (g0 : Int) ≤ o'.I p 0
  hi : ∀ p, rest.testBit p = true → o'.I p 0 < g0 + mN b rest
  sum : ∀ q, Sg b (clM (lab o') rest q b.n) = 0
  all : ∀ q, g0 ≤ q → (q : Int) < g0 + mN b rest → use (lab o') rest b.n q = true
theorem grp0 {b : Row} (hf : Fit b) (g0 : Nat) (o : Row) : Grp b 0 g0 o o := by
  have h00 : mN b 0 = 0 := (most_good hf (Nat.two_pow_pos _)).zero rfl
  refine ⟨rfl, fun _ _ => rfl, fun p hp => ?_, fun p hp => ?_, fun q => ?_, fun q _ _ => by omega⟩
  · rw [Nat.zero_testBit] at hp; cases hp
  · rw [Nat.zero_testBit] at hp; cases hp
  · rw [show clM (lab o) 0 q b.n = 0 from Nat.eq_of_testBit_eq fun i => by rw [clM_bit, Nat.zero_testBit]; simp]
    exact sM_zero
theorem grS_spec {b : Row} (hf : Fit b) : ∀ (f rest g0 : Nat) (o : Row), rest < 2 ^ b.n → Sg b rest = 0 → mN b rest ≤ f → ∃ o', grS (mostR b) b.n f rest g0 o = some o' ∧ Grp b rest g0 o o' := by
  intro f
  induction f with
  | zero =>
    intro rest g0 o ht hz hm
    have h0 : rest = 0 := by
      by_cases h : rest = 0
      · exact h
      · have := ((most_good hf ht).pos h hz).1; omega
    subst h0
    exact ⟨o, (by unfold grS; rw [if_pos rfl]), grp0 hf g0 o⟩
  | succ f ih =>
    intro rest g0 o ht hz hm
    unfold grS
    by_cases h0 : rest = 0
    · subst h0
      rw [if_pos rfl]
      exact ⟨o, rfl, grp0 hf g0 o⟩
    · rw [if_neg h0]
      obtain ⟨k1, k2, k3⟩ := bst_cand (m := mostR b) (rest := rest) (low := lowN rest) (rest + 1) rest 0 (Nat.and_self _) (by omega) (.inl rfl)
      obtain ⟨h, hc⟩ := cand_ex hf ht h0 hz
      have hr := k1.resolve_left (k3 h hc (sub_le hc.2.1))
      show ∃ o', grS (mostR b) b.n f (rest ^^^ bst (mostR b) rest (lowN rest) (rest + 1) rest 0) (g0 + 1) (asR (bst (mostR b) rest (lowN rest) (rest + 1) rest 0) g0 b.n 0 o) = some o' ∧ _
      generalize bst (mostR b) rest (lowN rest) (rest + 1) rest 0 = r at hr ⊢
      obtain ⟨r0, rs, rl, rm, rx⟩ := hr
      have hrl : r < 2 ^ b.n := Nat.lt_of_le_of_lt (sub_le rs) ht
      have hrz : Sg b r = 0 := Classical.not_not.1 fun hne => by
        have := (most_good hf hrl).neg r0 hne
        unfold mN at this
        omega
      have hx : mN b (rest ^^^ r) = mN b rest - 1 := by rw [wi_m hf ht] at rx; exact rx
      have hxs : Sg b (rest ^^^ r) = 0 := by
        have : Sg b (rest ^^^ r) = Sg b rest - Sg b r := sM_xor rs
        omega
      obtain ⟨a1, a2⟩ := asR_I r (g0 : Int) b.n 0 o
      obtain ⟨o', e1, e2⟩ := ih (rest ^^^ r) (g0 + 1) (asR r g0 b.n 0 o) (Nat.lt_of_le_of_lt (xor_le rs) ht) hxs (by omega)
      have hin : ∀ p, r.testBit p = true → o'.I p 0 = g0 := fun p hp => by
        rw [e2.out p (by rw [Nat.testBit_xor, hp, sub_bit rs hp]; rfl), a2, if_pos ⟨by omega, by have := bit_lt hrl hp; omega, hp⟩]
      have hcls : ∀ q, clM (lab o') rest q b.n = if q = g0 then r else clM (lab o') (rest ^^^ r) q b.n := fun q => by
        apply Nat.eq_of_testBit_eq
        intro i
        rw [clM_bit]
        split
        · rename_i hq
          subst hq
          cases hri : r.testBit i
          · cases hsi : rest.testBit i
            · simp
            · have := e2.lo i (by rw [Nat.testBit_xor, hri, hsi]; rfl)
              rw [decide_eq_false (show ¬ lab o' i = q by unfold lab; omega)]; simp
          · rw [decide_eq_true (bit_lt hrl hri), sub_bit rs hri, decide_eq_true (show lab o' i = q by unfold lab; rw [hin i hri]; omega)]; rfl
        · rename_i hq
          rw [clM_bit, Nat.testBit_xor]
          cases hri : r.testBit i
          · rw [Bool.xor_false]
          · rw [sub_bit rs hri, decide_eq_false (show ¬ lab o' i = q by unfold lab; rw [hin i hri]; omega)]; simp
      refine ⟨o', e1, e2.n.trans a1, fun p hp => ?_, fun p hp => ?_, fun p hp => ?_, fun q => ?_, fun q h1 h2 => ?_⟩
      · have hrp : r.testBit p = false := by
          cases h : r.testBit p
          · rfl
          · rw [sub_bit rs h] at hp; cases hp
        rw [e2.out p (by rw [Nat.testBit_xor, hp, hrp]; rfl), a2, if_neg (fun h => by rw [hrp] at h; cases h.2.2)]
      · cases hri : r.testBit p
        · have := e2.lo p (by rw [Nat.testBit_xor, hri, hp]; rfl)
          omega
        · rw [hin p hri]; exact Int.le_refl _
      · cases hri : r.testBit p
        · have := e2.hi p (by rw [Nat.testBit_xor, hri, hp]; rfl)
          omega
        · rw [hin p hri]
          have := ((most_good hf ht).pos h0 hz).1
          omega
      · rw [hcls]
        split
        · exact hrz
        · exact e2.sum q
      · unfold use
        rw [hcls]
        by_cases hq : q = g0
        · rw [if_pos hq]; exact decide_eq_true r0
        · rw [if_neg hq]
          exact e2.all q (by omega) (by omega)
end Go.Proofs.YtpblmkephkhlkaaDoor.Mk
namespace Go.Proofs.YtpblmkephkhlkaaDoor.Mk
open Go.Ev
set_option linter.all false
def tot (f : Nat → Int) : Nat → Int
  | 0 => 0
  | n + 1 => tot f n + f n
theorem ckL_spec (b : Row) : ∀ (m j : Nat) (s : Int), (ckL b m j s).1 = false → -1000000000 * (j : Int) ≤ s → s ≤ 1000000000 * (j : Int) → j + m ≤ 10 →
    (∀ i, j ≤ i → i < j + m → -1000000000 ≤ b.I i 0 ∧ b.I i 0 ≤ 1000000000) ∧ (ckL b m j s).2 = s + (tot (bF b) (j + m) - tot (bF b) j)
  | 0, j, s, _, _, _, _ => ⟨fun i h1 h2 => by omega, by show s = _; rw [Nat.add_zero]; omega⟩
  | m + 1, j, s, h, h1, h2, h3 => by
    unfold ckL at h ⊢
    split at h
    · cases h
    · rename_i hb
      rw [if_neg hb]
      have hw : wi (s + b.I j 0) = s + b.I j 0 := wiN (by omega) (by omega)
      rw [hw] at h ⊢
      obtain ⟨i1, i2⟩ := ckL_spec b m (j + 1) (s + b.I j 0) h (by omega) (by omega) (by omega)
      refine ⟨fun i a c => ?_, ?_⟩
      · by_cases hij : i = j
        · subst hij; omega
        · exact i1 i (by omega) (by omega)
      · rw [i2, show j + 1 + m = j + (m + 1) by omega]
        have : tot (bF b) (j + 1) = tot (bF b) j + b.I j 0 := rfl
        omega
theorem ck_fit {b : Row} (h : ckE b = 0) : Fit b ∧ 1 ≤ b.n ∧ tot (bF b) b.n = 0 := by
  unfold ckE at h
  split at h
  · cases h
  · rename_i hn
    split at h
    · cases h
    · rename_i hc
      have h1 : ckB b = false := by
        cases hb : ckB b
        · rfl
        · exact absurd (.inl hb) hc
      have h2 : ckS b = 0 := Classical.not_not.1 fun hs => hc (.inr hs)
      obtain ⟨i1, i2⟩ := ckL_spec b b.n 0 0 h1 (by omega) (by omega) (by omega)
      unfold ckS at h2
      rw [Nat.zero_add] at i2
      refine ⟨⟨by omega, fun i hi => i1 i (by omega) (by omega)⟩, by omega, ?_⟩
      have : tot (bF b) 0 = 0 := rfl
      omega
theorem sM_tot {f : Nat → Int} {s : Nat} : ∀ {n}, (∀ i, i < n → s.testBit i = false → f i = 0) → sM f s n = tot f n
  | 0, _ => rfl
  | n + 1, h => by
    unfold sM tot
    rw [sM_tot (n := n) fun i hi => h i (by omega)]
    cases hs : s.testBit n
    · rw [h n (by omega) hs]; rfl
    · rfl
/-- A grouping of as many groups as there can be. -/
structure GOk (b g : Row) (rest : Nat) : Prop where
  n : g.n = b.n
  nz : Nz b rest
  out : ∀ p, p < b.n → b.I p 0 = 0 → g.I p 0 = -1
  lo : ∀ p, rest.testBit p = true → 0 ≤ g.I p 0
  hi : ∀ p, rest.testBit p = true → g.I p 0 < mN b rest
  sum : ∀ q, Sg b (clM (lab g) rest q b.n) = 0
  all : ∀ q : Nat, (q : Int) < mN b rest → use (lab g) rest b.n q = true
  le : mN b rest ≤ (pc rest b.n : Nat)
theorem groups_ok {b : Row} (h : ckE b = 0) : gpC b = true ∧ ∃ rest, GOk b (gpR b) rest := by
  obtain ⟨hf, hn, ht⟩ := ck_fit h
  obtain ⟨r1, r2, r3⟩ := rsR_I b b.n 0 (0, Row.zeros b.n)
  have hnz : Nz b (rsR b b.n 0 (0, Row.zeros b.n)).1 := fun i => by
    rw [r2 i, Nat.zero_testBit, Bool.false_or]
    congr 1
    by_cases hi : i < b.n
    · rw [decide_eq_true hi, decide_eq_true (by omega)]
    · rw [decide_eq_false hi, decide_eq_false (by omega)]
  have hl : (rsR b b.n 0 (0, Row.zeros b.n)).1 < 2 ^ b.n := by
    have := rsR_lt b b.n 0 (0, Row.zeros b.n) (show 0 < 2 ^ 0 by decide)
    rwa [Nat.zero_add] at this
  have hz : Sg b (rsR b b.n 0 (0, Row.zeros b.n)).1 = 0 := by
    unfold Sg
    rw [sM_tot fun i hi hb => ?_]
    · exact ht
    · rw [hnz, decide_eq_true hi, Bool.true_and] at hb
      exact Classical.not_not.1 (of_decide_eq_false hb)
  have hpc := mN_pc hf _ _ (Nat.le_refl _) hl
  have hpb : pc (rsR b b.n 0 (0, Row.zeros b.n)).1 b.n ≤ b.n := cntB_bound
  have hn1 := hf.1
  obtain ⟨o, e1, e2⟩ := grS_spec hf 64 _ 0 (rsR b b.n 0 (0, Row.zeros b.n)).2 hl hz (by omega)
  have hgo : gpO b = some o := e1
  have hgr : gpR b = winOf o 0 b.n := by unfold gpR; rw [if_neg (fun h' => h' h), hgo]
  have hI : ∀ p, (winOf o 0 b.n).I p 0 = o.I p 0 := fun _ => rfl
  have hlab : lab (winOf o 0 b.n) = lab o := rfl
  refine ⟨?_, (rsR b b.n 0 (0, Row.zeros b.n)).1, ?_⟩
  · unfold gpC
    rw [hgo]
    simp
  · rw [hgr]
    exact {
      n := rfl
      nz := hnz
      out := fun p hp hb => by
        rw [hI, e2.out p (by rw [hnz, hb]; simp), r3, if_pos (by omega)]
      lo := fun p hp => by have := e2.lo p hp; rw [hI]; omega
      hi := fun p hp => by have := e2.hi p hp; rw [hI]; omega
      sum := fun q => by rw [hlab]; exact e2.sum q
      all := fun q hq => by rw [hlab]; exact e2.all q (by omega) (by omega)
      le := hpc }
end Go.Proofs.YtpblmkephkhlkaaDoor.Mk

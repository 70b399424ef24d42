/- Plain laws on decimal texts: digits, numerals. No conditions. -/
import Derived.Lib.ItoaMem
import Derived.Lib.ParseIntB
import Derived.Lib.IndexMore
namespace Go.Dec
open Go.Lib
set_option linter.all false
/-- One digit more; none: it is no digit, or the number would be too great. -/
def dgS (c : UInt8) (n : Int) : Option Int := if c.toNat < 48 ∨ 57 < c.toNat ∨ 100000000000000000 < n then none else some (10 * n + ((c.toNat : Int) - 48))
def valL : List UInt8 → Int → Option Int
  | [], n => some n
  | c :: r, n => match dgS c n with
    | some m => valL r m
    | none => none
theorem valL_append : ∀ (l m : List UInt8) (n : Int), valL (l ++ m) n = (valL l n).bind (valL m)
  | [], m, n => rfl
  | c :: r, m, n => by
    simp only [List.cons_append, valL]
    cases dgS c n with
    | none => rfl
    | some x => exact valL_append r m x
theorem valL_one (c : UInt8) (n : Int) : valL [c] n = dgS c n := by
  unfold valL
  cases dgS c n <;> rfl
theorem dgS_some {c : UInt8} {n m : Int} (h : dgS c n = some m) : 48 ≤ c.toNat ∧ c.toNat ≤ 57 ∧ n ≤ 100000000000000000 ∧ m = 10 * n + ((c.toNat : Int) - 48) := by
  unfold dgS at h
  split at h
  · cases h
  · rename_i hc
    simp only [Option.some.injEq] at h
    omega
theorem ofNat_toNat (k : Nat) (h : k < 256) : (UInt8.ofNat k).toNat = k := by
  simp [UInt8.toNat_ofNat', Nat.mod_eq_of_lt h]
theorem toNat_ofNat (c : UInt8) : UInt8.ofNat c.toNat = c := by simp
theorem decDigits_ten {u : Nat} (h : ¬ u < 10) : decDigits u = decDigits (u / 10) ++ [UInt8.ofNat (48 + u % 10)] := by rw [decDigits, dif_neg h]
theorem valL_dec : ∀ (N u : Nat), u ≤ N → u ≤ 1000000000000000009 → valL (decDigits u) 0 = some (u : Int) := by
  intro N
  induction N with
  | zero =>
    intro u h _
    obtain rfl : u = 0 := by omega
    rw [decDigits_one (by omega), valL_one]
    rfl
  | succ N ih =>
    intro u h hu
    by_cases hs : u < 10
    · rw [decDigits_one hs, valL_one]
      unfold dgS
      rw [ofNat_toNat _ (by omega), if_neg (by omega)]
      congr 1
      omega
    · rw [decDigits_ten hs, valL_append, ih (u / 10) (by omega) (by omega)]
      show valL [UInt8.ofNat (48 + u % 10)] ((u / 10 : Nat) : Int) = _
      rw [valL_one]
      unfold dgS
      rw [ofNat_toNat _ (by omega), if_neg (by omega)]
      congr 1
      omega
theorem dec_ne (u : Nat) : decDigits u ≠ [] := by
  have := decDigits_length u
  have h2 := nDigits_pos u
  intro h
  rw [h] at this
  simp at this
  omega
/-- All are digits. -/
theorem dec_digit : ∀ (N u : Nat), u ≤ N → ∀ c ∈ decDigits u, 48 ≤ c.toNat ∧ c.toNat ≤ 57 := by
  intro N
  induction N with
  | zero =>
    intro u h c hc
    obtain rfl : u = 0 := by omega
    rw [decDigits_one (by omega)] at hc
    simp only [List.mem_singleton] at hc
    subst hc
    decide
  | succ N ih =>
    intro u h c hc
    by_cases hs : u < 10
    · rw [decDigits_one hs] at hc
      simp only [List.mem_singleton] at hc
      subst hc
      rw [ofNat_toNat _ (by omega)]
      omega
    · rw [decDigits_ten hs, List.mem_append] at hc
      rcases hc with hc | hc
      · exact ih (u / 10) (by omega) c hc
      · simp only [List.mem_singleton] at hc
        subst hc
        rw [ofNat_toNat _ (by omega)]
        omega
/-- No zero in front, but for 0. -/
theorem dec_head : ∀ (N u : Nat), u ≤ N → 1 ≤ u → ∃ c r, decDigits u = c :: r ∧ c.toNat ≠ 48 := by
  intro N
  induction N with
  | zero => intro u h h1; omega
  | succ N ih =>
    intro u h h1
    by_cases hs : u < 10
    · exact ⟨_, [], decDigits_one hs, by rw [ofNat_toNat _ (by omega)]; omega⟩
    · obtain ⟨c, r, h2, h3⟩ := ih (u / 10) (by omega) (by omega)
      exact ⟨c, r ++ [UInt8.ofNat (48 + u % 10)], by rw [decDigits_ten hs, h2]; rfl, h3⟩
/-- Without zeros in front a list of digits is the numeral of its number. -/
theorem dec_of_val : ∀ (N : Nat) (l : List UInt8) (n : Int), l.length ≤ N → l ≠ [] → (l.length = 1 ∨ ∃ c r, l = c :: r ∧ c.toNat ≠ 48) → valL l 0 = some n → 0 ≤ n ∧ decDigits n.toNat = l := by
  intro N
  induction N with
  | zero => intro l n hN h0; exact absurd (List.length_eq_zero_iff.1 (by omega)) h0
  | succ N ih =>
    intro l n hN h0 hz hv
    rcases List.eq_nil_or_concat l with h | ⟨l', c, h⟩
    · exact absurd h h0
    · rw [List.concat_eq_append] at h
      subst h
      rw [valL_append] at hv
      cases hl : valL l' 0 with
      | none => rw [hl] at hv; cases hv
      | some m =>
        rw [hl] at hv
        have hv : valL [c] m = some n := hv
        rw [valL_one] at hv
        obtain ⟨c1, c2, c3, rfl⟩ := dgS_some hv
        by_cases hl0 : l' = []
        · subst hl0
          cases hl
          refine ⟨by omega, ?_⟩
          rw [show (10 * (0 : Int) + ((c.toNat : Int) - 48)).toNat = c.toNat - 48 by omega, decDigits_one (by omega), show 48 + (c.toNat - 48) = c.toNat by omega, toNat_ofNat]
          rfl
        · have hlen : 2 ≤ (l' ++ [c]).length := by
            have : l'.length ≠ 0 := fun h => hl0 (List.length_eq_zero_iff.1 h)
            simp; omega
          obtain ⟨d, r, hd, hd0⟩ : ∃ d r, l' = d :: r ∧ d.toNat ≠ 48 := by
            rcases hz with hz | ⟨d, r, hz, hd⟩
            · omega
            · cases l' with
              | nil => exact absurd rfl hl0
              | cons e r' =>
                simp only [List.cons_append, List.cons.injEq] at hz
                exact ⟨e, r', rfl, by rw [hz.1]; exact hd⟩
          obtain ⟨i1, i2⟩ := ih l' m (by simp at hN; omega) hl0 (.inr ⟨d, r, hd, hd0⟩) hl
          have hm : 1 ≤ m.toNat := by
            by_cases h : m.toNat = 0
            · rw [h, decDigits_one (by omega), hd] at i2
              simp only [List.cons.injEq] at i2
              exact absurd (by rw [← i2.1]; rfl) hd0
            · omega
          refine ⟨by omega, ?_⟩
          rw [show (10 * m + ((c.toNat : Int) - 48)).toNat = 10 * m.toNat + (c.toNat - 48) by omega, decDigits_ten (by omega), show (10 * m.toNat + (c.toNat - 48)) / 10 = m.toNat by omega, i2,
            show 48 + (10 * m.toNat + (c.toNat - 48)) % 10 = c.toNat by omega, toNat_ofNat]
theorem nDigits_lt : ∀ (k u : Nat), u < 10 ^ (k + 1) → nDigits u ≤ k + 1
  | 0, u, h => by rw [nDigits_small (by simpa using h)]; exact Nat.le_refl _
  | k + 1, u, h => by
    by_cases hs : u < 10
    · rw [nDigits_small hs]; omega
    · rw [nDigits_big hs]
      have := nDigits_lt k (u / 10) (by rw [Nat.pow_succ] at h; omega)
      omega
/-- What the reference's digits gives. -/
def dgF (l : List UInt8) : Bool := decide (l.length = 0) || decide (19 < l.length) || (decide (1 < l.length) && decide ((l.headD 0).toNat = 48))
def dgN (l : List UInt8) : Int := if dgF l = true then 0 else match valL l 0 with
  | some n => n
  | none => 0
def dgB (l : List UInt8) : Bool := if dgF l = true then false else match valL l 0 with
  | some n => decide (n ≤ 1000000000000000000)
  | none => false
theorem dg_spec {l : List UInt8} (h : dgB l = true) : 0 ≤ dgN l ∧ dgN l ≤ 1000000000000000000 ∧ decDigits (dgN l).toNat = l := by
  unfold dgB at h
  unfold dgN
  split at h
  · cases h
  · rename_i hf
    rw [if_neg hf]
    cases hv : valL l 0 with
    | none => rw [hv] at h; cases h
    | some n =>
      rw [hv] at h
      have h : n ≤ 1000000000000000000 := by simpa using h
      unfold dgF at hf
      simp only [Bool.or_eq_true, Bool.and_eq_true, decide_eq_true_eq, not_or, not_and] at hf
      obtain ⟨⟨f1, f2⟩, f3⟩ := hf
      have hne : l ≠ [] := fun he => f1 (by rw [he]; rfl)
      obtain ⟨g1, g2⟩ := dec_of_val _ l n (Nat.le_refl _) hne (by
        by_cases hl : 1 < l.length
        · right
          have := f3 hl
          cases l with
          | nil => exact absurd rfl hne
          | cons c r => exact ⟨c, r, rfl, this⟩
        · left; omega) hv
      exact ⟨g1, h, g2⟩
theorem dg_dec (u : Nat) (hu : u ≤ 1000000000000000000) : dgB (decDigits u) = true ∧ dgN (decDigits u) = (u : Int) := by
  have hv := valL_dec u u (Nat.le_refl _) (by omega)
  have hl : (decDigits u).length ≤ 19 := by
    rw [decDigits_length]
    exact nDigits_lt 18 u (by omega)
  have hf : dgF (decDigits u) = false := by
    unfold dgF
    simp only [Bool.or_eq_false_iff, Bool.and_eq_false_iff, decide_eq_false_iff_not]
    refine ⟨⟨fun h => dec_ne u (List.length_eq_zero_iff.1 h), by omega⟩, ?_⟩
    by_cases h0 : u = 0
    · left
      rw [h0, decDigits_one (by omega)]
      decide
    · right
      obtain ⟨c, r, h1, h2⟩ := dec_head u u (Nat.le_refl _) (by omega)
      rw [h1]
      exact h2
  unfold dgB dgN
  rw [if_neg (by rw [hf]; decide), if_neg (by rw [hf]; decide), hv]
  exact ⟨decide_eq_true (by omega), rfl⟩
/-- The standard library's reader at a numeral. -/
theorem parseUintM_append (M : Nat) : ∀ (l m : List UInt8) (a : Nat), parseUintM M a (l ++ m) = match parseUintM M a l with
    | .ok b => parseUintM M b m
    | .syntax => .syntax
    | .range => .range
  | [], m, a => rfl
  | c :: r, m, a => by
    simp only [List.cons_append, parseUintM]
    split
    · split
      · rfl
      · split
        · rfl
        · exact parseUintM_append M r m _
    · rfl
theorem parseUintM_dec (M : Nat) (hM : M ≤ 18446744073709551615) : ∀ (N u : Nat), u ≤ N → u ≤ M → parseUintM M 0 (decDigits u) = .ok u := by
  intro N
  induction N with
  | zero =>
    intro u h _
    obtain rfl : u = 0 := by omega
    rw [decDigits_one (by omega)]
    simp [parseUintM]
  | succ N ih =>
    intro u h hu
    by_cases hs : u < 10
    · rw [decDigits_one hs]
      simp only [parseUintM]
      rw [ofNat_toNat _ (by omega), if_pos (by omega), if_neg (by omega), if_neg (by omega)]
      congr 1
      omega
    · rw [decDigits_ten hs, parseUintM_append, ih (u / 10) (by omega) (by omega)]
      simp only [parseUintM]
      rw [ofNat_toNat _ (by omega), if_pos (by omega), if_neg (by omega), if_neg (by omega)]
      congr 1
      omega
theorem parseInt_itoa (n : Int) (h0 : -9223372036854775808 ≤ n) (h1 : n ≤ 9223372036854775807) : parseIntB 64 (itoa n) = .ok n := by
  have e1 : (2 : Nat) ^ 64 - 1 = 18446744073709551615 := by decide
  have e2 : (2 : Nat) ^ (64 - 1) = 9223372036854775808 := by decide
  by_cases hn : n < 0
  · obtain ⟨u, rfl⟩ : ∃ u : Nat, n = -(u : Int) := ⟨n.natAbs, by omega⟩
    rw [itoa_neg u (by omega)]
    have hU : parseUintB 64 (decDigits u) = .ok u := by
      unfold parseUintB
      rw [if_neg (dec_ne u), e1]
      exact parseUintM_dec _ (Nat.le_refl _) u u (Nat.le_refl _) (by omega)
    unfold parseIntB
    have h45 : (45 : UInt8).toNat = 45 := rfl
    simp only [h45]
    rw [if_pos (by simp), hU]
    simp only [e2]
    rw [if_neg (by simp), if_neg (by omega), if_pos trivial]
  · obtain ⟨u, rfl⟩ : ∃ u : Nat, n = (u : Int) := ⟨n.toNat, by omega⟩
    rw [itoa_nonneg u]
    have hU : parseUintB 64 (decDigits u) = .ok u := by
      unfold parseUintB
      rw [if_neg (dec_ne u), e1]
      exact parseUintM_dec _ (Nat.le_refl _) u u (Nat.le_refl _) (by omega)
    cases hd : decDigits u with
    | nil => exact absurd hd (dec_ne u)
    | cons c r =>
      have hc := dec_digit u u (Nat.le_refl _) c (by rw [hd]; simp)
      unfold parseIntB
      simp only
      rw [if_neg (by omega), ← hd, hU]
      simp only [e2]
      rw [if_neg (by omega), if_neg (by omega), if_neg (by omega)]
end Go.Dec

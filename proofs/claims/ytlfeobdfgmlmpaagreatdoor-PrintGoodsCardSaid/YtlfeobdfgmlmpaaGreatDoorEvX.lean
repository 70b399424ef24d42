/- Bits of small numbers. No conditions. -/
import Derived.Test.YtlfeobdfgmlmpaaGreatDoorEvW
namespace Go.Ev

theorem ofInt_toNat (a : Nat) (h : a < 2 ^ 63) : (BitVec.ofInt 64 (a : Int)).toNat = a := by
  rw [BitVec.ofInt_natCast, BitVec.toNat_ofNat, Nat.mod_eq_of_lt]
  exact Nat.lt_trans h (by decide)
theorem wrapN (a : Nat) (h : a < 2 ^ 63) : IntKind.i64.wrap (a : Int) = a := wrap64 (by omega) (by simp at h; omega)
theorem and64 (a b : Nat) (ha : a < 2 ^ 63) (hb : b < 2 ^ 63) : IntKind.i64.wrap ((BitVec.ofInt 64 (a : Int) &&& BitVec.ofInt 64 (b : Int)).toNat : Int) = ((a &&& b : Nat) : Int) := by
  rw [BitVec.toNat_and, ofInt_toNat a ha, ofInt_toNat b hb, wrapN _ (Nat.and_lt_two_pow a hb)]
theorem or64 (a b : Nat) (ha : a < 2 ^ 63) (hb : b < 2 ^ 63) : IntKind.i64.wrap ((BitVec.ofInt 64 (a : Int) ||| BitVec.ofInt 64 (b : Int)).toNat : Int) = ((a ||| b : Nat) : Int) := by
  rw [BitVec.toNat_or, ofInt_toNat a ha, ofInt_toNat b hb, wrapN _ (Nat.or_lt_two_pow ha hb)]
theorem xor64 (a b : Nat) (ha : a < 2 ^ 63) (hb : b < 2 ^ 63) : IntKind.i64.wrap ((BitVec.ofInt 64 (a : Int) ^^^ BitVec.ofInt 64 (b : Int)).toNat : Int) = ((a ^^^ b : Nat) : Int) := by
  rw [BitVec.toNat_xor, ofInt_toNat a ha, ofInt_toNat b hb, wrapN _ (Nat.xor_lt_two_pow ha hb)]
theorem shr64 (a p : Nat) (hp : p < 64) : (a : Int).fdiv (2 ^ (min p 64)) = ((a >>> p : Nat) : Int) := by
  rw [show min p 64 = p by omega, Nat.shiftRight_eq_div_pow, Int.fdiv_eq_ediv_of_nonneg _ (by exact Int.le_of_lt (Int.pow_pos (by decide)))]
  simp
theorem shl64 (a p : Nat) (hp : p < 64) (h : a <<< p < 2 ^ 63) : IntKind.i64.wrap ((a : Int) * 2 ^ (min p 64)) = ((a <<< p : Nat) : Int) := by
  rw [show min p 64 = p by omega]
  have : ((a : Int) * 2 ^ p) = ((a <<< p : Nat) : Int) := by rw [Nat.shiftLeft_eq]; simp
  rw [this, wrapN _ h]

theorem anyF_iff {p : Nat → Bool} : ∀ {m j : Nat}, anyF p m j = true ↔ ∃ i, j ≤ i ∧ i < j + m ∧ p i = true
  | 0, j => by simp only [anyF, Bool.false_eq_true, false_iff]; rintro ⟨i, h1, h2, _⟩; omega
  | m + 1, j => by
    simp only [anyF, Bool.or_eq_true, anyF_iff (m := m)]
    constructor
    · rintro (h | ⟨i, h1, h2, h3⟩)
      · exact ⟨j, Nat.le_refl _, by omega, h⟩
      · exact ⟨i, by omega, by omega, h3⟩
    · rintro ⟨i, h1, h2, h3⟩
      by_cases h : i = j
      · exact .inl (h ▸ h3)
      · exact .inr ⟨i, by omega, by omega, h3⟩

/-- A loop that looks for something wrong, where what it has seen so far was right. -/
theorem rounds_scanI {α : Type} {lv : List Tmp} {lx : Option (List Tmp)} {f : St → (X → St → Option α) → Option α} {S : Nat → St} {len : Nat} {bad : Nat → Bool}
    {Kb Ke : (X → St → Option α) → Option α} (hr : ∀ j, j < len → (∀ i, i < j → bad i = false) → ∀ R K, f (S j) (rnd lv lx R K) = br (bad j) (Kb K) (R (S (j + 1))))
    (he : (∀ i, i < len → bad i = false) → ∀ R K, f (S len) (rnd lv lx R K) = Ke K) (K : X → St → Option α) :
    ∀ (m j : Nat), j + m = len → (∀ i, i < j → bad i = false) → ∀ N, m < N → rounds lv lx f N (S j) K = br (anyF bad m j) (Kb K) (Ke K)
  | 0, j, hj, hp, N, hN => by
    obtain ⟨N, rfl⟩ : ∃ N', N = N' + 1 := ⟨N - 1, by omega⟩
    have : j = len := by omega
    subst this
    simp only [rounds, anyF]
    exact he hp _ K
  | m + 1, j, hj, hp, N, hN => by
    obtain ⟨N, rfl⟩ : ∃ N', N = N' + 1 := ⟨N - 1, by omega⟩
    simp only [rounds, anyF]
    rw [hr j (by omega) hp]
    cases hb : bad j
    · exact rounds_scanI hr he K m (j + 1) (by omega) (fun i hi => by
        by_cases h : i = j
        · rw [h]; exact hb
        · exact hp i (by omega)) N (by omega)
    · rfl
end Go.Ev

/- Counting loops; numbers within their kinds. No conditions. -/
import Derived.Test.YtlfeobdfgmlmpaaGreatDoorEvV
namespace Go.Ev

theorem br_true {α : Type} (x y : Option α) : br true x y = x := rfl
theorem br_false {α : Type} (x y : Option α) : br false x y = y := rfl
theorem br_some {α : Type} {b : Bool} {x y : Option α} {r : α} (h : br b x y = some r) : (b = true ∧ x = some r) ∨ (b = false ∧ y = some r) := by
  cases b
  · exact .inr ⟨rfl, h⟩
  · exact .inl ⟨rfl, h⟩

/-- What a counting loop comes to: T is one round. -/
def runL {α β κ : Type} (T : Nat → β → (β → Option α) → κ → Option α) (E : β → κ → Option α) (K : κ) : Nat → Nat → β → Option α
  | 0, _, a => E a K
  | m + 1, j, a => T j a (fun a' => runL T E K m (j + 1) a') K

theorem rounds_run {α β : Type} {lv : List Tmp} {lx : Option (List Tmp)} {f : St → (X → St → Option α) → Option α} {S : Nat → β → St} {len : Nat}
    {T : Nat → β → (β → Option α) → (X → St → Option α) → Option α} {E : β → (X → St → Option α) → Option α} (hr : ∀ j, j < len → ∀ a R K, f (S j a) (rnd lv lx R K) = T j a (fun a' => R (S (j + 1) a')) K)
    (he : ∀ a R K, f (S len a) (rnd lv lx R K) = E a K) (hT : ∀ j a R R' K, (∀ a', R a' = R' a') → T j a R K = T j a R' K) (K : X → St → Option α) :
    ∀ (m j : Nat) (a : β), j + m = len → ∀ N, m < N → rounds lv lx f N (S j a) K = runL T E K m j a
  | 0, j, a, hj, N, hN => by
    obtain ⟨N, rfl⟩ : ∃ N', N = N' + 1 := ⟨N - 1, by omega⟩
    have : j = len := by omega
    subst this
    simp only [rounds, runL]
    exact he a _ K
  | m + 1, j, a, hj, N, hN => by
    obtain ⟨N, rfl⟩ : ∃ N', N = N' + 1 := ⟨N - 1, by omega⟩
    simp only [rounds, runL]
    rw [hr j (by omega)]
    exact hT _ _ _ _ _ fun a' => rounds_run hr he hT K m (j + 1) a' (by omega) N (by omega)

/-- A loop without anything that it hands on: whether something goes wrong in some round. -/
def anyF (p : Nat → Bool) : Nat → Nat → Bool
  | 0, _ => false
  | m + 1, j => p j || anyF p m (j + 1)

theorem anyF_false {p : Nat → Bool} : ∀ {m j : Nat}, anyF p m j = false ↔ ∀ i, j ≤ i → i < j + m → p i = false
  | 0, j => by simp [anyF]; intro i h1 h2; omega
  | m + 1, j => by
    simp only [anyF, Bool.or_eq_false_iff, anyF_false (m := m)]
    constructor
    · rintro ⟨h1, h2⟩ i hi hlt
      by_cases h : i = j
      · rw [h]; exact h1
      · exact h2 i (by omega) (by omega)
    · intro h
      exact ⟨h j (Nat.le_refl _) (by omega), fun i h1 h2 => h i (by omega) (by omega)⟩

theorem anyF_congr {p q : Nat → Bool} : ∀ {m j : Nat}, (∀ i, j ≤ i → i < j + m → p i = q i) → anyF p m j = anyF q m j
  | 0, _, _ => rfl
  | m + 1, j, h => by
    simp only [anyF]
    rw [h j (Nat.le_refl _) (by omega), anyF_congr fun i h1 h2 => h i (by omega) (by omega)]

theorem rounds_scan {α : Type} {lv : List Tmp} {lx : Option (List Tmp)} {f : St → (X → St → Option α) → Option α} {S : Nat → St} {len : Nat} {bad : Nat → Bool}
    {Kb Ke : (X → St → Option α) → Option α} (hr : ∀ j, j < len → ∀ R K, f (S j) (rnd lv lx R K) = br (bad j) (Kb K) (R (S (j + 1))))
    (he : ∀ R K, f (S len) (rnd lv lx R K) = Ke K) (K : X → St → Option α) : ∀ (m j : Nat), j + m = len → ∀ N, m < N → rounds lv lx f N (S j) K = br (anyF bad m j) (Kb K) (Ke K)
  | 0, j, hj, N, hN => by
    obtain ⟨N, rfl⟩ : ∃ N', N = N' + 1 := ⟨N - 1, by omega⟩
    have : j = len := by omega
    subst this
    simp only [rounds, anyF]
    exact he _ K
  | m + 1, j, hj, N, hN => by
    obtain ⟨N, rfl⟩ : ∃ N', N = N' + 1 := ⟨N - 1, by omega⟩
    simp only [rounds, anyF]
    rw [hr j (by omega), rounds_scan hr he K m (j + 1) (by omega) N (by omega)]
    cases bad j <;> rfl

theorem wrap_id {k : IntKind} {n : Int} (h : (Lit.int k n).wf = true) : k.wrap n = n := by
  simp only [Lit.wf, Bool.and_eq_true, decide_eq_true_eq] at h
  cases k <;> simp [IntKind.wrap, IntKind.min, IntKind.max, IntKind.signed, IntKind.bits] at h ⊢ <;> omega
theorem wf64 {n : Int} : (Lit.int .i64 n).wf = true ↔ -9223372036854775808 ≤ n ∧ n ≤ 9223372036854775807 := by
  simp [Lit.wf, IntKind.min, IntKind.max, IntKind.signed, IntKind.bits]
theorem wrap64 {n : Int} (h1 : -9223372036854775808 ≤ n) (h2 : n ≤ 9223372036854775807) : IntKind.i64.wrap n = n := wrap_id (wf64.2 ⟨h1, h2⟩)
end Go.Ev

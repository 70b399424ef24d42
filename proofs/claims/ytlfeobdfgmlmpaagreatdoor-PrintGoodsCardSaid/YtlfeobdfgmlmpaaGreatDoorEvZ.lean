/- Replays: what is done step by step until something is refused; windows of rows. No conditions. -/
import Derived.Test.YtlfeobdfgmlmpaaGreatDoorEvY
namespace Go.Ev

/-- Step j takes c to nx c j, unless e c j is an error. What is left, how many steps were done, the error. -/
def runG {γ : Type} (e : γ → Nat → Int) (nx : γ → Nat → γ) : Nat → Nat → γ → γ × Nat × Int
  | 0, j, c => (c, j, 0)
  | m + 1, j, c => if e c j = 0 then runG e nx m (j + 1) (nx c j) else (c, j, e c j)

section
variable {γ : Type} {e : γ → Nat → Int} {nx : γ → Nat → γ}
theorem runG_le : ∀ {m j : Nat} {c : γ}, j ≤ (runG e nx m j c).2.1 ∧ (runG e nx m j c).2.1 ≤ j + m ∧ ((runG e nx m j c).2.2 = 0 ↔ (runG e nx m j c).2.1 = j + m)
  | 0, j, c => ⟨Nat.le_refl _, Nat.le_refl _, by simp [runG]⟩
  | m + 1, j, c => by
    unfold runG
    split
    · have := runG_le (m := m) (j := j + 1) (c := nx c j)
      refine ⟨by omega, by omega, ?_⟩
      rw [this.2.2]
      omega
    · rename_i h
      dsimp only
      exact ⟨Nat.le_refl _, by omega, ⟨fun h' => absurd h' h, fun h' => by omega⟩⟩
theorem runG_err : ∀ {m j : Nat} {c : γ}, (runG e nx m j c).2.2 ≠ 0 → e (runG e nx m j c).1 (runG e nx m j c).2.1 = (runG e nx m j c).2.2
  | 0, _, _, h => absurd rfl h
  | m + 1, j, c, h => by
    unfold runG at h ⊢
    split
    · rename_i h0
      rw [if_pos h0] at h
      exact runG_err h
    · rfl
theorem runG_inv {G : γ → Prop} (hG : ∀ c j, G c → e c j = 0 → G (nx c j)) : ∀ {m j : Nat} {c : γ}, G c → G (runG e nx m j c).1
  | 0, _, _, h => h
  | m + 1, j, c, h => by
    unfold runG
    split
    · exact runG_inv hG (hG c j h (by assumption))
    · exact h
theorem runG_s {m j : Nat} {c : γ} : runG e nx (m + 1) j c = if e c j = 0 then runG e nx m (j + 1) (nx c j) else (c, j, e c j) := rfl
theorem runG_split : ∀ {a b j : Nat} {c : γ}, runG e nx (a + b) j c = if (runG e nx a j c).2.2 = 0 then runG e nx b (j + a) (runG e nx a j c).1 else runG e nx a j c
  | 0, b, j, c => by
    rw [Nat.zero_add]
    exact (if_pos rfl).symm
  | a + 1, b, j, c => by
    rw [show a + 1 + b = (a + b) + 1 by omega, runG_s, runG_s]
    by_cases h : e c j = 0
    · rw [if_pos h, if_pos h, runG_split, show j + 1 + a = j + (a + 1) by omega]
    · rw [if_neg h, if_neg h, if_neg h]
theorem runG_shift {e' : γ → Nat → Int} {nx' : γ → Nat → γ} (d : Nat) (he : ∀ c j, e' c j = e c (j + d)) (hn : ∀ c j, nx' c j = nx c (j + d)) : ∀ {m j : Nat} {c : γ},
    runG e nx m (j + d) c = ((runG e' nx' m j c).1, (runG e' nx' m j c).2.1 + d, (runG e' nx' m j c).2.2)
  | 0, _, _ => rfl
  | m + 1, j, c => by
    unfold runG
    rw [he]
    split
    · rw [hn, show j + d + 1 = (j + 1) + d by omega]
      exact runG_shift d he hn
    · rfl
theorem runG_congr {e' : γ → Nat → Int} {nx' : γ → Nat → γ} {N : Nat} (he : ∀ c j, j < N → e' c j = e c j) (hn : ∀ c j, j < N → nx' c j = nx c j) : ∀ {m j : Nat} {c : γ}, j + m ≤ N → runG e' nx' m j c = runG e nx m j c
  | 0, _, _, _ => rfl
  | m + 1, j, c, h => by
    unfold runG
    rw [he c j (by omega), hn c j (by omega)]
    split
    · exact runG_congr he hn (by omega)
    · rfl

theorem runL_runG {α κ : Type} {ok : γ → Bool} {Kr : γ → Nat → Int → κ → Option α} {E : γ → κ → Option α} {G : γ → Prop} (hok : ∀ c, G c → ok c = true) (hG : ∀ c j, G c → e c j = 0 → G (nx c j)) (K : κ) :
    ∀ (m j : Nat) (c : γ), G c → runL (fun j c R K => br (ok c) (br (e c j != 0) (Kr c j (e c j) K) (R (nx c j))) none) E K m j c =
      br ((runG e nx m j c).2.2 != 0) (Kr (runG e nx m j c).1 (runG e nx m j c).2.1 (runG e nx m j c).2.2 K) (E (runG e nx m j c).1 K)
  | 0, _, _, _ => rfl
  | m + 1, j, c, h => by
    simp only [runL]
    unfold runG
    rw [hok c h]
    by_cases h0 : e c j = 0
    · rw [if_pos h0, show (e c j != 0) = false by simpa using h0]
      exact runL_runG hok hG K m (j + 1) _ (hG c j h h0)
    · rw [if_neg h0, show (e c j != 0) = true by simpa using h0]
      rfl
end
theorem winOf_I (r : Row) (e n j k : Nat) : (winOf r e n).I j k = r.I (e + j) k := by
  cases e
  · show r.I j k = r.I (0 + j) k
    rw [Nat.zero_add]
  · rfl
end Go.Ev
namespace Go.Ev
open Go.RowKit
theorem fromDs_plain (own : Bool) : ∀ (xs : List Value) (m : List (Option Blk)), (∀ x ∈ xs, atom1 x = true) → fromDs own (xs.map D.v) m = some (xs, m)
  | [], _, _ => rfl
  | x :: xs, m, h => by
    have h1 : fromD own m (D.v x) = some (x, m) := by
      simp only [fromD, fromD1, h x (by simp)]
    simp only [List.map_cons, fromDs, h1, fromDs_plain own xs m fun y hy => h y (by simp [hy])]
/-- A contract out of a walk: plain values come in and go out, and the world stays as it is. -/
theorem denW_of_calls {P : Program} {W : World → Prop} (hst : ∀ w w', W w → Below w.heap.size w w' → W w') {f : FuncId} {F : List D → Option (Bool × List D)}
    (h : ∀ ds rs, F ds = some (true, rs) → ∃ xs vs : List Value, ds = xs.map D.v ∧ rs = vs.map D.v ∧ (∀ x ∈ xs, atom1 x = true) ∧ (∀ v ∈ vs, atom1 v = true) ∧ ∀ w, W w → Calls P f ⟨xs⟩ w fun e w' => e = .returned (tupV vs) ∧ w' = w) : DenW P W f F := by
  intro wb hwb ds rs hF w hbw args vs' mem ρ hfrom _ hl hv
  obtain ⟨xs, vs, rfl, rfl, hx, hvv, hc⟩ := h ds rs hF
  rw [fromDs_plain false xs [] hx] at hfrom
  simp only [Option.some.injEq, Prod.mk.injEq] at hfrom
  obtain ⟨e1, e2⟩ := hfrom
  subst e1
  subst e2
  have hargs : args = xs := by
    apply List.ext_getElem?
    intro i
    by_cases hi : i < xs.length
    · have h1 : xs[i]? = some xs[i] := List.getElem?_eq_getElem hi
      have h2 : args[i]? = some args[i] := List.getElem?_eq_getElem (by omega)
      rw [h1, h2, (hv i _ _ h1 h2).atom1_eq (hx _ (List.getElem_mem hi))]
    · rw [List.getElem?_eq_none (by omega), List.getElem?_eq_none (by omega)]
  subst hargs
  refine (hc w (hst wb w hwb hbw)).mono fun e w' ⟨he, hw⟩ => ?_
  subst hw
  exact ⟨tupV vs, he, Below.refl _ _, vs, [], fun _ => none, fromDs_plain true vs [] hvv, ⟨fun id b h => by simp at h, fun _ _ => rfl, fun i j b h => by obtain ⟨_, _, h1, _⟩ := h; cases h1⟩, V.ofPlain fun v hv' => plainV_atom (hvv v hv')⟩
end Go.Ev

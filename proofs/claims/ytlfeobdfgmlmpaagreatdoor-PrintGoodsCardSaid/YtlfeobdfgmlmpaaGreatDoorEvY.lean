/- Branches as 'if', for 'split'. No conditions. -/
import Derived.Test.YtlfeobdfgmlmpaaGreatDoorEvX
namespace Go.Ev

theorem br_ite {α : Type} (b : Bool) (x y : Option α) : br b x y = if b = true then x else y := by cases b <;> rfl
/-- A number in a range. -/
def inB (n lo hi : Int) : Bool := decide (lo ≤ n) && decide (n ≤ hi)
theorem inB_iff {n lo hi : Int} : inB n lo hi = true ↔ lo ≤ n ∧ n ≤ hi := by simp [inB]
def us (n : Nat) : List Value := List.replicate n unk
def pu (n : Nat) : List PV := List.replicate n (.v .u)
def i64 (n : Int) : Value := .int .i64 n
def u8 (n : Int) : Value := .int .u8 n
/-- The row that is handed to a callee. -/
def wr (r : Row) : Row := winOf r 0 r.n
def big : Nat := 9223372036854775807
def neI (r s : Row) (j : Nat) : Bool := r.I j 0 != s.I j 0
def sameR (r s : Row) : Bool := bif (r.n : Int) != (s.n : Int) then false else bif anyF (neI r s) r.n 0 then false else true
theorem sameR_iff {r s : Row} : sameR r s = true ↔ r.n = s.n ∧ ∀ i, i < r.n → r.I i 0 = s.I i 0 := by
  unfold sameR
  cases h : ((r.n : Int) != (s.n : Int))
  · have h' : r.n = s.n := by simp at h; omega
    cases h2 : anyF (neI r s) r.n 0
    · simp only [cond_false, true_iff]
      rw [anyF_false] at h2
      exact ⟨h', fun i hi => by have := h2 i (by omega) (by omega); simpa [neI] using this⟩
    · simp only [cond_false, cond_true, Bool.false_eq_true, false_iff]
      rw [anyF_iff] at h2
      obtain ⟨i, h3, h4, h5⟩ := h2
      rintro ⟨_, h6⟩
      have := h6 i (by omega)
      simp [neI, this] at h5
  · have h' : r.n ≠ s.n := by simp at h; omega
    simp only [cond_true, Bool.false_eq_true, false_iff]
    exact fun h2 => h' h2.1
theorem sameR_self (r : Row) : sameR r r = true := sameR_iff.2 ⟨rfl, fun _ _ => rfl⟩
end Go.Ev
namespace Go.Ev
theorem not_tr {b : Bool} : ((!b) = true) ↔ ¬ (b = true) := by cases b <;> simp
/-- One branch of a tree at a time. -/
theorem br_split {α : Type} {b : Bool} {x y : Option α} {z : Option α} (h1 : b = true → x = z) (h2 : ¬ b = true → y = z) : br b x y = z := by
  cases b
  · exact h2 (by simp)
  · exact h1 rfl
theorem br_splitP {p : Prop} [Decidable p] {α : Type} {x y : Option α} {z : Option α} (h1 : p → x = z) (h2 : ¬ p → y = z) : br (decide p) x y = z := br_split (fun h => h1 (of_decide_eq_true h)) (fun h => h2 fun hp => h (decide_eq_true hp))
end Go.Ev
namespace Go.Ev
theorem Den.cover {P : Program} {f : FuncId} {F : List D → Option (Bool × List D)} (h : ∀ ds rs, F ds = some (true, rs) → ∃ F', Den P f F' ∧ F' ds = some (true, rs)) : Den P f F := fun wb ds rs h1 => by
  obtain ⟨F', h2, h3⟩ := h ds rs h1
  exact h2 wb ds rs h3
theorem Den.less {P : Program} {f : FuncId} {F F' : List D → Option (Bool × List D)} (h : Den P f F) (hl : ∀ ds rs, F' ds = some (true, rs) → F ds = some (true, rs)) : Den P f F' := fun wb ds rs h1 => h wb ds rs (hl ds rs h1)
theorem DenW.cover {P : Program} {W : World → Prop} {f : FuncId} {F : List D → Option (Bool × List D)} (h : ∀ ds rs, F ds = some (true, rs) → ∃ F', DenW P W f F' ∧ F' ds = some (true, rs)) : DenW P W f F := fun wb hw ds rs h1 => by
  obtain ⟨F', h2, h3⟩ := h ds rs h1
  exact h2 wb hw ds rs h3
theorem DenW.less {P : Program} {W : World → Prop} {f : FuncId} {F F' : List D → Option (Bool × List D)} (h : DenW P W f F) (hl : ∀ ds rs, F' ds = some (true, rs) → F ds = some (true, rs)) : DenW P W f F' := fun wb hw ds rs h1 => h wb hw ds rs (hl ds rs h1)
theorem rnds1 {α : Type} (lv : List Tmp) (lx : Option (List Tmp)) (f : St → (X → St → Option α) → Option α) (n : Nat) (σ : St) (K : X → St → Option α) :
    rounds lv lx f (n + 1) σ K = f σ (rnd lv lx (fun σ1 => rounds lv lx f n σ1 K) K) := rfl
end Go.Ev
namespace Go.Ev
theorem wf8 {n : Int} (h : (Lit.int .u8 n).wf = true) : (decide (0 ≤ n) && decide (n ≤ 255)) = true := by
  simp only [Lit.wf, Bool.and_eq_true, IntKind.min, IntKind.max, IntKind.signed, IntKind.bits] at h
  simp only [Bool.and_eq_true, decide_eq_true_eq]
  simp at h
  omega
end Go.Ev

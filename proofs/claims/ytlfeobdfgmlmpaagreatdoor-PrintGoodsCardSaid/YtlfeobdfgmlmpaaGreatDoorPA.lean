/- Texts P1 P2 P3 P4 P5 P6 in one. No conditions. -/
import Derived.Test.YtlfeobdfgmlmpaaGreatDoorEvZa
import Derived.Test.YtlfeobdfgmlmpaaGreatDoorRows
/- Loops that run, and loops that fold; the functions of the seat. No conditions. -/
namespace Go.Ev
set_option linter.all false
/-- A loop that scans: from round 0 on, until something is found. -/
structure ScanL (ι : Type) where
  f : FuncId
  id : Nat
  lv : List Tmp
  lx : List Tmp
  p : PSt
  dat : List It → Option ι
  S : ι → Nat → List It
  len : ι → Nat
  cnd : ι → Bool
  bad : ι → Nat → Bool
  Kb : ι → Nat → (X → St → Option (List D)) → Option (List D)
  Ke : ι → (X → St → Option (List D)) → Option (List D)
/-- The first round in which something is found. -/
def fstF (p : Nat → Bool) : Nat → Nat → Nat
  | 0, j => j
  | m + 1, j => bif p j then j else fstF p m (j + 1)
theorem fstF_ge (p : Nat → Bool) : ∀ m j, j ≤ fstF p m j
  | 0, j => Nat.le_refl _
  | m + 1, j => by
    unfold fstF
    cases p j
    · exact Nat.le_trans (Nat.le_succ _) (fstF_ge p m (j + 1))
    · exact Nat.le_refl _
theorem fstF_any (p : Nat → Bool) : ∀ m j, anyF p m j = true → fstF p m j < j + m ∧ p (fstF p m j) = true ∧ ∀ i, j ≤ i → i < fstF p m j → p i = false
  | 0, j, h => by cases h
  | m + 1, j, h => by
    unfold fstF
    cases hp : p j
    · simp only [anyF, hp, Bool.false_or] at h
      obtain ⟨h1, h2, h3⟩ := fstF_any p m (j + 1) h
      refine ⟨by simp only [cond_false]; omega, h2, fun i hi hlt => ?_⟩
      by_cases e : i = j
      · rw [e]; exact hp
      · exact h3 i (by omega) hlt
    · exact ⟨by simp only [cond_true]; omega, hp, fun i hi hlt => by simp only [cond_true] at hlt; omega⟩
def ScanL.G {ι : Type} (s : ScanL ι) (its : List It) (k : X → St → Option (List D)) : Option (List D) := match s.dat its with
  | some x => br (s.cnd x) (br (anyF (s.bad x) (s.len x) 0) (s.Kb x (fstF (s.bad x) (s.len x) 0) k) (s.Ke x k)) none
  | none => none
def ScanL.C {ι : Type} (s : ScanL ι) : LoopC := ⟨s.f, s.id, s.lv, s.lx, s.p, s.G⟩
noncomputable abbrev bodyOf (C : Cx) (f : FuncId) (id q : Nat) : St → (X → St → Option (List D)) → Option (List D) := evCode C f true (inl C (q + 4)) (lbody C.P f id)
theorem scan_go {f : St → (X → St → Option (List D)) → Option (List D)} {lv : List Tmp} {lx : Option (List Tmp)} {S : Nat → St} {len : Nat} {bad : Nat → Bool} {Kb : Nat → (X → St → Option (List D)) → Option (List D)} {Ke : (X → St → Option (List D)) → Option (List D)}
    (hr : ∀ j, j < len → ∀ R K, f (S j) (rnd lv lx R K) = br (bad j) (Kb j K) (R (S (j + 1)))) (he : ∀ R K, f (S len) (rnd lv lx R K) = Ke K) (K : X → St → Option (List D)) :
    ∀ (m j : Nat), j + m = len → ∀ N, m < N → rounds lv lx f N (S j) K = br (anyF bad m j) (Kb (fstF bad m j) K) (Ke K)
  | 0, j, hj, N, hN => by
    obtain ⟨N, rfl⟩ : ∃ N', N = N' + 1 := ⟨N - 1, by omega⟩
    have : j = len := by omega
    subst this
    simp only [rounds, anyF]
    exact he _ K
  | m + 1, j, hj, N, hN => by
    obtain ⟨N, rfl⟩ : ∃ N', N = N' + 1 := ⟨N - 1, by omega⟩
    simp only [rounds, anyF, fstF]
    rw [hr j (by omega), scan_go hr he K m (j + 1) (by omega) N (by omega)]
    cases bad j <;> rfl
theorem ScanL.ok {ι : Type} {C : Cx} (s : ScanL ι) (h1 : Nat.beq ((loopsOf C.P s.f).filter fun b => Nat.beq (firstRegion b) s.id).length 1 = true)
    (hS : ∀ its x, s.dat its = some x → s.cnd x = true → Go.Ev.bst s.p its = Go.Ev.bst s.p (s.S x 0))
    (hlen : ∀ x, s.cnd x = true → s.len x < C.N)
    (hr : ∀ q x j, s.cnd x = true → j < s.len x → ∀ R K, bodyOf C s.f s.id q (Go.Ev.bst s.p (s.S x j)) (rnd s.lv (some s.lx) R K) = br (s.bad x j) (s.Kb x j K) (R (Go.Ev.bst s.p (s.S x (j + 1)))))
    (he : ∀ q x, s.cnd x = true → ∀ R K, bodyOf C s.f s.id q (Go.Ev.bst s.p (s.S x (s.len x))) (rnd s.lv (some s.lx) R K) = s.Ke x K) : LoopOk C s.C := ⟨h1, fun q its k rr h => by
  change s.G its k = some rr at h
  unfold ScanL.G at h
  split at h
  · rename_i x hx
    rcases br_some h with ⟨hc, h2⟩ | ⟨_, h2⟩
    · rw [← h2]
      show rounds s.lv (some s.lx) (bodyOf C s.f s.id q) C.N (Go.Ev.bst s.p its) k = _
      rw [hS its x hx hc]
      exact scan_go (S := fun j => Go.Ev.bst s.p (s.S x j)) (hr q x · hc) (he q x hc) k (s.len x) 0 (by omega) C.N (hlen x hc)
    · cases h2
  · cases h⟩

/-- A loop that hands something on. -/
structure RunL (ι β : Type) where
  f : FuncId
  id : Nat
  lv : List Tmp
  lx : List Tmp
  p : PSt
  dat : List It → Option ι
  S : ι → Nat → β → List It
  len : ι → Nat
  cnd : ι → Bool
  ini : ι → β
  stop : ι → Nat → β → Bool
  nx : ι → Nat → β → β
  Kb : ι → Nat → β → (X → St → Option (List D)) → Option (List D)
  Ke : ι → β → (X → St → Option (List D)) → Option (List D)
def runS {β : Type} (stop : Nat → β → Bool) (nx : Nat → β → β) : Nat → Nat → β → Bool × Nat × β
  | 0, j, a => (false, j, a)
  | m + 1, j, a => bif stop j a then (true, j, a) else runS stop nx m (j + 1) (nx j a)
theorem runS_s {β : Type} {stop : Nat → β → Bool} {nx : Nat → β → β} {m j : Nat} {a : β} (h : stop j a = false) : runS stop nx (m + 1) j a = runS stop nx m (j + 1) (nx j a) := by
  show (bif stop j a then _ else _) = _
  rw [h]; rfl
theorem runS_t {β : Type} {stop : Nat → β → Bool} {nx : Nat → β → β} {m j : Nat} {a : β} (h : stop j a = true) : runS stop nx (m + 1) j a = (true, j, a) := by
  show (bif stop j a then _ else _) = _
  rw [h]; rfl
theorem runS_inv {β : Type} {stop : Nat → β → Bool} {nx : Nat → β → β} {Inv : Nat → β → Prop} {len : Nat} (hI : ∀ j a, j < len → Inv j a → stop j a = false → Inv (j + 1) (nx j a)) : ∀ {m j : Nat} {a : β}, j + m = len → Inv j a →
    Inv (runS stop nx m j a).2.1 (runS stop nx m j a).2.2 ∧ ((runS stop nx m j a).1 = true → (runS stop nx m j a).2.1 < len ∧ stop (runS stop nx m j a).2.1 (runS stop nx m j a).2.2 = true) ∧ ((runS stop nx m j a).1 = false → (runS stop nx m j a).2.1 = len)
  | 0, j, a, hj, h => ⟨h, fun h => (by cases h), fun _ => hj⟩
  | m + 1, j, a, hj, h => by
    cases hs : stop j a
    · rw [runS_s hs]
      exact runS_inv hI (by omega) (hI j a (by omega) h hs)
    · rw [runS_t hs]
      exact ⟨h, fun _ => ⟨(by dsimp only; omega), hs⟩, fun h => (by cases h)⟩
theorem runS_congr {β : Type} {stop stop' : Nat → β → Bool} {nx nx' : Nat → β → β} {Inv : Nat → β → Prop} {len : Nat} (hI : ∀ j a, j < len → Inv j a → stop j a = false → Inv (j + 1) (nx j a)) (hs : ∀ j a, j < len → Inv j a → stop' j a = stop j a) (hn : ∀ j a, j < len → Inv j a → nx' j a = nx j a) : ∀ {m j : Nat} {a : β}, j + m = len → Inv j a →
    runS stop' nx' m j a = runS stop nx m j a
  | 0, j, a, hj, h => rfl
  | m + 1, j, a, hj, h => by
    cases hc : stop j a
    · rw [runS_s hc, runS_s ((hs j a (by omega) h).trans hc), hn j a (by omega) h]
      exact runS_congr hI hs hn (by omega) (hI j a (by omega) h hc)
    · rw [runS_t hc, runS_t ((hs j a (by omega) h).trans hc)]
def RunL.G {ι β : Type} (s : RunL ι β) (its : List It) (k : X → St → Option (List D)) : Option (List D) := match s.dat its with
  | some x => br (s.cnd x) (br (runS (s.stop x) (s.nx x) (s.len x) 0 (s.ini x)).1 (s.Kb x (runS (s.stop x) (s.nx x) (s.len x) 0 (s.ini x)).2.1 (runS (s.stop x) (s.nx x) (s.len x) 0 (s.ini x)).2.2 k) (s.Ke x (runS (s.stop x) (s.nx x) (s.len x) 0 (s.ini x)).2.2 k)) none
  | none => none
def RunL.C {ι β : Type} (s : RunL ι β) : LoopC := ⟨s.f, s.id, s.lv, s.lx, s.p, s.G⟩
theorem run_go {β : Type} {f : St → (X → St → Option (List D)) → Option (List D)} {lv : List Tmp} {lx : Option (List Tmp)} {S : Nat → β → St} {len : Nat} {stop : Nat → β → Bool} {nx : Nat → β → β} {Kb : Nat → β → (X → St → Option (List D)) → Option (List D)} {Ke : β → (X → St → Option (List D)) → Option (List D)} {Inv : Nat → β → Prop}
    (hI : ∀ j a, j < len → Inv j a → stop j a = false → Inv (j + 1) (nx j a))
    (hr : ∀ j a, j < len → Inv j a → ∀ R K, f (S j a) (rnd lv lx R K) = br (stop j a) (Kb j a K) (R (S (j + 1) (nx j a)))) (he : ∀ a, Inv len a → ∀ R K, f (S len a) (rnd lv lx R K) = Ke a K) (K : X → St → Option (List D)) :
    ∀ (m j : Nat) (a : β), j + m = len → Inv j a → ∀ N, m < N → rounds lv lx f N (S j a) K = br (runS stop nx m j a).1 (Kb (runS stop nx m j a).2.1 (runS stop nx m j a).2.2 K) (Ke (runS stop nx m j a).2.2 K)
  | 0, j, a, hj, h, N, hN => by
    obtain ⟨N, rfl⟩ : ∃ N', N = N' + 1 := ⟨N - 1, by omega⟩
    have : j = len := by omega
    subst this
    simp only [rounds, runS]
    exact he a h _ K
  | m + 1, j, a, hj, h, N, hN => by
    obtain ⟨N, rfl⟩ : ∃ N', N = N' + 1 := ⟨N - 1, by omega⟩
    rw [rnds1, hr j a (by omega) h]
    cases hs : stop j a
    · rw [runS_s hs, br_false]
      exact run_go hI hr he K m (j + 1) (nx j a) (by omega) (hI j a (by omega) h hs) N (by omega)
    · rw [runS_t hs]
      rfl
theorem RunL.ok {ι β : Type} {C : Cx} (s : RunL ι β) (Inv : ι → Nat → β → Prop) (h1 : Nat.beq ((loopsOf C.P s.f).filter fun b => Nat.beq (firstRegion b) s.id).length 1 = true)
    (hS : ∀ its x, s.dat its = some x → s.cnd x = true → Go.Ev.bst s.p its = Go.Ev.bst s.p (s.S x 0 (s.ini x)))
    (hlen : ∀ x, s.cnd x = true → s.len x < C.N) (hI0 : ∀ x, s.cnd x = true → Inv x 0 (s.ini x))
    (hI : ∀ x j a, s.cnd x = true → j < s.len x → Inv x j a → s.stop x j a = false → Inv x (j + 1) (s.nx x j a))
    (hr : ∀ q x j a, s.cnd x = true → j < s.len x → Inv x j a → ∀ R K, bodyOf C s.f s.id q (Go.Ev.bst s.p (s.S x j a)) (rnd s.lv (some s.lx) R K) = br (s.stop x j a) (s.Kb x j a K) (R (Go.Ev.bst s.p (s.S x (j + 1) (s.nx x j a)))))
    (he : ∀ q x a, s.cnd x = true → Inv x (s.len x) a → ∀ R K, bodyOf C s.f s.id q (Go.Ev.bst s.p (s.S x (s.len x) a)) (rnd s.lv (some s.lx) R K) = s.Ke x a K) : LoopOk C s.C := ⟨h1, fun q its k rr h => by
  change s.G its k = some rr at h
  unfold RunL.G at h
  split at h
  · rename_i x hx
    rcases br_some h with ⟨hc, h2⟩ | ⟨_, h2⟩
    · rw [← h2]
      show rounds s.lv (some s.lx) (bodyOf C s.f s.id q) C.N (Go.Ev.bst s.p its) k = _
      rw [hS its x hx hc]
      exact run_go (S := fun j a => Go.Ev.bst s.p (s.S x j a)) (Inv := Inv x) (hI x · · hc) (fun j a hj hi R K => hr q x j a hc hj hi R K) (fun a hi R K => he q x a hc hi R K) k (s.len x) 0 (s.ini x) (by omega) (hI0 x hc) C.N (hlen x hc)
    · cases h2
  · cases h⟩
theorem gd (j n : Nat) (h : j < n) : (decide (0 ≤ (j : Int)) && decide ((j : Int) < (n : Int))) = true := by simp only [Bool.and_eq_true, decide_eq_true_eq]; omega
theorem ltd (j n : Nat) (h : j < n) : decide ((j : Int) < (n : Int)) = true := decide_eq_true (by omega)
theorem ltn (n : Nat) : decide ((n : Int) < (n : Int)) = false := decide_eq_false (by omega)
theorem wsn {j : Nat} (h : j < 1000001) : IntKind.i64.wrap ((j : Int) + 1) = ((j + 1 : Nat) : Int) := by
  rw [wrap64 (by omega) (by omega)]; omega
end Go.Ev
namespace Go.Ev
/-- A loop that goes through all its rounds. -/
structure FoldL (ι β : Type) where
  f : FuncId
  id : Nat
  lv : List Tmp
  lx : List Tmp
  p : PSt
  dat : List It → Option ι
  S : ι → Nat → β → List It
  len : ι → Nat
  cnd : ι → Bool
  ini : ι → β
  nx : ι → Nat → β → β
  Ke : ι → β → (X → St → Option (List D)) → Option (List D)
def fldN {β : Type} (nx : Nat → β → β) : Nat → Nat → β → β
  | 0, _, a => a
  | m + 1, j, a => fldN nx m (j + 1) (nx j a)
def FoldL.G {ι β : Type} (s : FoldL ι β) (its : List It) (k : X → St → Option (List D)) : Option (List D) := match s.dat its with
  | some x => br (s.cnd x) (s.Ke x (fldN (s.nx x) (s.len x) 0 (s.ini x)) k) none
  | none => none
def FoldL.C {ι β : Type} (s : FoldL ι β) : LoopC := ⟨s.f, s.id, s.lv, s.lx, s.p, s.G⟩
theorem fold_inv {β : Type} {nx : Nat → β → β} {Inv : Nat → β → Prop} {len : Nat} (hI : ∀ j a, j < len → Inv j a → Inv (j + 1) (nx j a)) : ∀ {m j : Nat} {a : β}, j + m = len → Inv j a → Inv len (fldN nx m j a)
  | 0, j, a, hj, h => (show j = len by omega) ▸ h
  | m + 1, j, a, hj, h => fold_inv hI (m := m) (by omega) (hI j a (by omega) h)
theorem fold_go {β : Type} {f : St → (X → St → Option (List D)) → Option (List D)} {lv : List Tmp} {lx : Option (List Tmp)} {S : Nat → β → St} {len : Nat} {nx : Nat → β → β} {Ke : β → (X → St → Option (List D)) → Option (List D)} {Inv : Nat → β → Prop}
    (hI : ∀ j a, j < len → Inv j a → Inv (j + 1) (nx j a))
    (hr : ∀ j a, j < len → Inv j a → ∀ R K, f (S j a) (rnd lv lx R K) = R (S (j + 1) (nx j a))) (he : ∀ a, Inv len a → ∀ R K, f (S len a) (rnd lv lx R K) = Ke a K) (K : X → St → Option (List D)) :
    ∀ (m j : Nat) (a : β), j + m = len → Inv j a → ∀ N, m < N → rounds lv lx f N (S j a) K = Ke (fldN nx m j a) K
  | 0, j, a, hj, h, N, hN => by
    obtain ⟨N, rfl⟩ : ∃ N', N = N' + 1 := ⟨N - 1, by omega⟩
    have : j = len := by omega
    subst this
    simp only [rounds, fldN]
    exact he a h _ K
  | m + 1, j, a, hj, h, N, hN => by
    obtain ⟨N, rfl⟩ : ∃ N', N = N' + 1 := ⟨N - 1, by omega⟩
    rw [rnds1, hr j a (by omega) h]
    exact fold_go hI hr he K m (j + 1) (nx j a) (by omega) (hI j a (by omega) h) N (by omega)
theorem FoldL.ok {ι β : Type} {C : Cx} (s : FoldL ι β) (Inv : ι → Nat → β → Prop) (h1 : Nat.beq ((loopsOf C.P s.f).filter fun b => Nat.beq (firstRegion b) s.id).length 1 = true)
    (hS : ∀ its x, s.dat its = some x → s.cnd x = true → Go.Ev.bst s.p its = Go.Ev.bst s.p (s.S x 0 (s.ini x)))
    (hlen : ∀ x, s.cnd x = true → s.len x < C.N) (hI0 : ∀ x, s.cnd x = true → Inv x 0 (s.ini x))
    (hI : ∀ x j a, s.cnd x = true → j < s.len x → Inv x j a → Inv x (j + 1) (s.nx x j a))
    (hr : ∀ q x j a, s.cnd x = true → j < s.len x → Inv x j a → ∀ R K, bodyOf C s.f s.id q (Go.Ev.bst s.p (s.S x j a)) (rnd s.lv (some s.lx) R K) = R (Go.Ev.bst s.p (s.S x (j + 1) (s.nx x j a))))
    (he : ∀ q x a, s.cnd x = true → Inv x (s.len x) a → ∀ R K, bodyOf C s.f s.id q (Go.Ev.bst s.p (s.S x (s.len x) a)) (rnd s.lv (some s.lx) R K) = s.Ke x a K) : LoopOk C s.C := ⟨h1, fun q its k rr h => by
  change s.G its k = some rr at h
  unfold FoldL.G at h
  split at h
  · rename_i x hx
    rcases br_some h with ⟨hc, h2⟩ | ⟨_, h2⟩
    · rw [← h2]
      show rounds s.lv (some s.lx) (bodyOf C s.f s.id q) C.N (Go.Ev.bst s.p its) k = _
      rw [hS its x hx hc]
      exact fold_go (S := fun j a => Go.Ev.bst s.p (s.S x j a)) (Inv := Inv x) (hI x · · hc) (fun j a hj hi R K => hr q x j a hc hj hi R K) (fun a hi R K => he q x a hc hi R K) k (s.len x) 0 (s.ini x) (by omega) (hI0 x hc) C.N (hlen x hc)
    · cases h2
  · cases h⟩
end Go.Ev

namespace Go.Proofs.YtlfeobdfgmlmpaaGreatDoor
open Go.Ev
def fns : List Nat := [3, 4, 5, 6, 7, 8, 9, 10, 11, 12, 13, 14, 15, 16, 17, 18, 19, 20, 21, 22, 23, 24, 25, 26, 27, 28, 29, 30, 31, 32, 33, 34, 35, 36, 37, 38, 39, 40, 41, 49, 50, 51, 52, 53, 54, 55, 57, 58, 59, 71, 73, 74, 86]
theorem enter : ∀ (g : FuncId), fns.contains g = true → ∀ (args : Array Value) (w : World), (callFunc g args).run Tryz.prog w = .ok (.enter g args) w := by
  intro g hg
  simp only [fns, List.contains_cons, List.contains_nil, Bool.or_false, Bool.or_eq_true, beq_iff_eq] at hg
  rcases hg with rfl | rfl | rfl | rfl | rfl | rfl | rfl | rfl | rfl | rfl | rfl | rfl | rfl | rfl | rfl | rfl | rfl | rfl | rfl | rfl | rfl | rfl | rfl | rfl | rfl | rfl | rfl | rfl | rfl | rfl | rfl | rfl | rfl | rfl | rfl | rfl | rfl | rfl | rfl | rfl | rfl | rfl | rfl | rfl | rfl | rfl | rfl | rfl | rfl | rfl | rfl | rfl | rfl
  · exact Tryz.call3
  · exact Tryz.call4
  · exact Tryz.call5
  · exact Tryz.call6
  · exact Tryz.call7
  · exact Tryz.call8
  · exact Tryz.call9
  · exact Tryz.call10
  · exact Tryz.call11
  · exact Tryz.call12
  · exact Tryz.call13
  · exact Tryz.call14
  · exact Tryz.call15
  · exact Tryz.call16
  · exact Tryz.call17
  · exact Tryz.call18
  · exact Tryz.call19
  · exact Tryz.call20
  · exact Tryz.call21
  · exact Tryz.call22
  · exact Tryz.call23
  · exact Tryz.call24
  · exact Tryz.call25
  · exact Tryz.call26
  · exact Tryz.call27
  · exact Tryz.call28
  · exact Tryz.call29
  · exact Tryz.call30
  · exact Tryz.call31
  · exact Tryz.call32
  · exact Tryz.call33
  · exact Tryz.call34
  · exact Tryz.call35
  · exact Tryz.call36
  · exact Tryz.call37
  · exact Tryz.call38
  · exact Tryz.call39
  · exact Tryz.call40
  · exact Tryz.call41
  · exact Tryz.call49
  · exact Tryz.call50
  · exact Tryz.call51
  · exact Tryz.call52
  · exact Tryz.call53
  · exact Tryz.call54
  · exact Tryz.call55
  · exact Tryz.call57
  · exact Tryz.call58
  · exact Tryz.call59
  · exact Tryz.call71
  · exact Tryz.call73
  · exact Tryz.call74
  · exact Tryz.call86
theorem mixed : Tryz.prog.follows .mixedOrders = true := by kernel_rfl
/-- For looking: the state at which a loop is entered. -/
noncomputable def CHo (lv : Nat → List Tmp) (F : List (FuncId × (List D → Option (Bool × List D)))) (H : Nat → Nat → St → Option (List D)) : Cx := { P := Tryz.prog, ok := fns, Γ := gfind F, N := 5, lv := fun _ id => lv id, lx := fun _ _ => some [], Λ := fun f id => some fun σ _ => H f id σ }
def ksI : List CK := [.int .i64]
def ksV : List CK := [.slice [.int .i64]]
end Go.Proofs.YtlfeobdfgmlmpaaGreatDoor
/- Package goods: Check, within, Valid: contracts. No conditions. -/
namespace Go.Proofs.YtlfeobdfgmlmpaaGreatDoor
open Go.Ev
set_option linter.all false
def oddB (v : Int) : Bool := decide (v < 0) || decide (v > 1000)
theorem br_or {α : Type} (b c : Bool) (x y : Option α) : br (b || c) x y = br b x (br c x y) := by cases b <;> rfl
def outB2 (lo hi v : Int) : Bool := decide (v < lo) || decide (v ≥ hi)
def p_l22 : PSt := { τ := [.v (.sl 0), .v (.c (.func (.func 22) #[] #[]))] ++ pu 5 ++ [.v (.int .i64), .v (.int .i64)] ++ pu 10, saved := [[.v (.sl 0), .v (.c (.func (.func 22) #[] #[]))] ++ pu 2 ++ [.v (.c (.bool (false))), .v (.sl 0), .v (.c (.func (.func 22) #[] #[]))] ++ pu 2, []], mem := [.row [.int .i64] false] }
structure A_l22 where
  n : Nat
  len : Int
  j : Int
  n_2 : Nat
  n_3 : Nat
  r : Row
def d_l22 (its : List It) : Option A_l22 := match its with | [.n n, .i len, .i j, .n n_2, .n n_3, .r r] => some ⟨n, len, j, n_2, n_3, r⟩ | _ => none
def c_l22 (x : A_l22) : Bool := decide (x.j = 0 ∧ x.len = x.n ∧ x.n_2 = x.n ∧ x.n_3 = x.n ∧ x.n ≤ 1000000)
theorem c_l22_iff {x : A_l22} : c_l22 x = true ↔ x.j = 0 ∧ x.len = x.n ∧ x.n_2 = x.n ∧ x.n_3 = x.n ∧ x.n ≤ 1000000 := by unfold c_l22; rw [decide_eq_true_eq]
def l22 : ScanL A_l22 where
  f := 40
  id := 2
  lv := [0, 1, 7, 8]
  lx := [4]
  p := p_l22
  dat := d_l22
  S := fun x j => [.n x.n, .i (x.n : Int), .i (j : Int), .n x.n, .n x.n, .r x.r]
  len := fun x => x.n
  cnd := c_l22
  bad := fun x j => oddB (x.r.I j 0)
  Kb := fun x j K => K .ret ⟨us 4 ++ [i64 ((j : Int))] ++ us 14, [[.slice (some ⟨0, 0, some 0⟩) (x.n) (0), .func (.func 22) #[] #[]] ++ us 2 ++ [.bool (false), .slice (some ⟨0, 0, some 0⟩) (x.n) (0), .func (.func 22) #[] #[]] ++ us 2, []], [some (.row [.int .i64] false (x.r))]⟩
  Ke := fun x K => K (.exit 0) ⟨us 19, [[.slice (some ⟨0, 0, some 0⟩) (x.n) (0), .func (.func 22) #[] #[]] ++ us 2 ++ [.bool (false), .slice (some ⟨0, 0, some 0⟩) (x.n) (0), .func (.func 22) #[] #[]] ++ us 2, []], [some (.row [.int .i64] false (x.r))]⟩
def p_l21 : PSt := { τ := [.v (.sl 0), .v (.c (.func (.func 21) #[] #[]))] ++ pu 5 ++ [.v (.int .i64), .v (.int .i64)] ++ pu 10, saved := [[.v (.sl 0), .v (.c (.func (.func 21) #[] #[]))] ++ pu 2 ++ [.v (.c (.bool (false))), .v (.sl 0), .v (.c (.func (.func 21) #[] #[]))] ++ pu 2, []], mem := [.row [.slice [.int .i64]] false] }
structure A_l21 where
  n : Nat
  len : Int
  j : Int
  n_2 : Nat
  n_3 : Nat
  r : Row
def d_l21 (its : List It) : Option A_l21 := match its with | [.n n, .i len, .i j, .n n_2, .n n_3, .r r] => some ⟨n, len, j, n_2, n_3, r⟩ | _ => none
def c_l21 (x : A_l21) : Bool := decide (x.j = 0 ∧ x.len = x.n ∧ x.n_2 = x.n ∧ x.n_3 = x.n ∧ x.n ≤ 1000000)
theorem c_l21_iff {x : A_l21} : c_l21 x = true ↔ x.j = 0 ∧ x.len = x.n ∧ x.n_2 = x.n ∧ x.n_3 = x.n ∧ x.n ≤ 1000000 := by unfold c_l21; rw [decide_eq_true_eq]
def l21 : ScanL A_l21 where
  f := 39
  id := 2
  lv := [0, 1, 7, 8]
  lx := [4]
  p := p_l21
  dat := d_l21
  S := fun x j => [.n x.n, .i (x.n : Int), .i (j : Int), .n x.n, .n x.n, .r x.r]
  len := fun x => x.n
  cnd := c_l21
  bad := fun x j => decide (((x.r.R j 0).n : Int) > 10)
  Kb := fun x j K => K .ret ⟨us 4 ++ [i64 ((j : Int))] ++ us 14, [[.slice (some ⟨0, 0, some 0⟩) (x.n) (0), .func (.func 21) #[] #[]] ++ us 2 ++ [.bool (false), .slice (some ⟨0, 0, some 0⟩) (x.n) (0), .func (.func 21) #[] #[]] ++ us 2, []], [some (.row [.slice [.int .i64]] false (x.r))]⟩
  Ke := fun x K => K (.exit 0) ⟨us 19, [[.slice (some ⟨0, 0, some 0⟩) (x.n) (0), .func (.func 21) #[] #[]] ++ us 2 ++ [.bool (false), .slice (some ⟨0, 0, some 0⟩) (x.n) (0), .func (.func 21) #[] #[]] ++ us 2, []], [some (.row [.slice [.int .i64]] false (x.r))]⟩
def p_l41 : PSt := { τ := [.v (.sl 0), .v (.c (.func (.func 41) #[] #[.pointer (some ⟨1, 0, some 0⟩), .pointer (some ⟨2, 0, some 0⟩)]))] ++ pu 5 ++ [.v (.int .i64), .v (.int .i64)] ++ pu 10, saved := [[.v (.sl 0), .v (.c (.func (.func 41) #[] #[.pointer (some ⟨1, 0, some 0⟩), .pointer (some ⟨2, 0, some 0⟩)]))] ++ pu 2 ++ [.v (.c (.bool (false))), .v (.sl 0), .v (.c (.func (.func 41) #[] #[.pointer (some ⟨1, 0, some 0⟩), .pointer (some ⟨2, 0, some 0⟩)]))] ++ pu 2, [.v (.int .i64), .v (.int .i64), .v (.sl 0), .v (.c (.pointer (some ⟨1, 0, some 0⟩))), .v (.c (.pointer (some ⟨2, 0, some 0⟩)))] ++ pu 1 ++ [.v (.c (.bool (false))), .v (.sl 0), .v (.c (.func (.func 41) #[] #[.pointer (some ⟨1, 0, some 0⟩), .pointer (some ⟨2, 0, some 0⟩)]))] ++ pu 2, []], mem := [.row [.int .i64] false, .box [.v (.int .i64)], .box [.v (.int .i64)]] }
structure A_l41 where
  n : Nat
  len : Int
  j : Int
  n_2 : Nat
  n_3 : Nat
  lw : Int
  up : Int
  n_4 : Nat
  n_5 : Nat
  r : Row
  lb : Int
  hb : Int
def d_l41 (its : List It) : Option A_l41 := match its with | [.n n, .i len, .i j, .n n_2, .n n_3, .i lw, .i up, .n n_4, .n n_5, .r r, .i lb, .i hb] => some ⟨n, len, j, n_2, n_3, lw, up, n_4, n_5, r, lb, hb⟩ | _ => none
def c_l41 (x : A_l41) : Bool := decide (x.j = 0 ∧ x.len = x.n ∧ x.n_2 = x.n ∧ x.n_3 = x.n ∧ x.n_4 = x.n ∧ x.n_5 = x.n ∧ x.n ≤ 1000000)
theorem c_l41_iff {x : A_l41} : c_l41 x = true ↔ x.j = 0 ∧ x.len = x.n ∧ x.n_2 = x.n ∧ x.n_3 = x.n ∧ x.n_4 = x.n ∧ x.n_5 = x.n ∧ x.n ≤ 1000000 := by unfold c_l41; rw [decide_eq_true_eq]
def l41 : ScanL A_l41 where
  f := 40
  id := 2
  lv := [0, 1, 7, 8]
  lx := [4]
  p := p_l41
  dat := d_l41
  S := fun x j => [.n x.n, .i (x.n : Int), .i (j : Int), .n x.n, .n x.n, .i x.lw, .i x.up, .n x.n, .n x.n, .r x.r, .i x.lb, .i x.hb]
  len := fun x => x.n
  cnd := c_l41
  bad := fun x j => outB2 x.lb x.hb (x.r.I j 0)
  Kb := fun x j K => K .ret ⟨us 4 ++ [i64 ((j : Int))] ++ us 14, [[.slice (some ⟨0, 0, some 0⟩) (x.n) (0), .func (.func 41) #[] #[.pointer (some ⟨1, 0, some 0⟩), .pointer (some ⟨2, 0, some 0⟩)]] ++ us 2 ++ [.bool (false), .slice (some ⟨0, 0, some 0⟩) (x.n) (0), .func (.func 41) #[] #[.pointer (some ⟨1, 0, some 0⟩), .pointer (some ⟨2, 0, some 0⟩)]] ++ us 2, [i64 (x.lw), i64 (x.up), .slice (some ⟨0, 0, some 0⟩) (x.n) (0), .pointer (some ⟨1, 0, some 0⟩), .pointer (some ⟨2, 0, some 0⟩)] ++ us 1 ++ [.bool (false), .slice (some ⟨0, 0, some 0⟩) (x.n) (0), .func (.func 41) #[] #[.pointer (some ⟨1, 0, some 0⟩), .pointer (some ⟨2, 0, some 0⟩)]] ++ us 2, []], [some (.row [.int .i64] false (x.r)), some (.box [i64 (x.lb)]), some (.box [i64 (x.hb)])]⟩
  Ke := fun x K => K (.exit 0) ⟨us 19, [[.slice (some ⟨0, 0, some 0⟩) (x.n) (0), .func (.func 41) #[] #[.pointer (some ⟨1, 0, some 0⟩), .pointer (some ⟨2, 0, some 0⟩)]] ++ us 2 ++ [.bool (false), .slice (some ⟨0, 0, some 0⟩) (x.n) (0), .func (.func 41) #[] #[.pointer (some ⟨1, 0, some 0⟩), .pointer (some ⟨2, 0, some 0⟩)]] ++ us 2, [i64 (x.lw), i64 (x.up), .slice (some ⟨0, 0, some 0⟩) (x.n) (0), .pointer (some ⟨1, 0, some 0⟩), .pointer (some ⟨2, 0, some 0⟩)] ++ us 1 ++ [.bool (false), .slice (some ⟨0, 0, some 0⟩) (x.n) (0), .func (.func 41) #[] #[.pointer (some ⟨1, 0, some 0⟩), .pointer (some ⟨2, 0, some 0⟩)]] ++ us 2, []], [some (.row [.int .i64] false (x.r)), some (.box [i64 (x.lb)]), some (.box [i64 (x.hb)])]⟩
def FCF2 : List D → Option (Bool × List D)
  | [.slice [.slice [.int .i64]] r, .v (.func (.func 21) ⟨[]⟩ ⟨[]⟩)] => some (decide (r.n ≤ 1000000), [.v (.bool (anyF (fun j => decide (((r.R j 0).n : Int) > 10)) r.n 0))])
  | _ => none
def FCF1 : List D → Option (Bool × List D)
  | [.slice [.int .i64] r, .v (.func (.func 22) ⟨[]⟩ ⟨[]⟩)] => some (decide (r.n ≤ 1000000), [.v (.bool (anyF (fun j => oddB (r.I j 0)) r.n 0))])
  | _ => none
def rowsBig (r : Row) : Bool := anyF (fun j => decide (((r.R j 0).n : Int) > 10)) r.n 0
def rowOdd (r : Row) : Bool := anyF (fun j => oddB (r.I j 0)) r.n 0
def badRow (r : Row) (j : Nat) : Bool := (((r.R j 0).n : Int) != ((r.R 0 0).n : Int)) || rowOdd (r.R j 0)
def p_l7 : PSt := { τ := pu 1 ++ [.v (.c (.pointer (some ⟨0, 0, some 0⟩)))] ++ pu 1 ++ [.v (.c (.func (.func 22) #[] #[]))] ++ pu 16 ++ [.v (.sl 1), .v (.int .i64), .v (.int .i64)] ++ pu 17, saved := [[]], mem := [.box [.v (.sl 1)], .row [.slice [.int .i64]] false] }
structure A_l7 where
  n : Nat
  len : Int
  j : Int
  n_2 : Nat
  r : Row
def d_l7 (its : List It) : Option A_l7 := match its with | [.n n, .i len, .i j, .n n_2, .r r] => some ⟨n, len, j, n_2, r⟩ | _ => none
def c_l7 (x : A_l7) : Bool := decide (x.j = 0 ∧ x.len = x.n ∧ x.n_2 = x.n ∧ x.n ≤ 6 ∧ rowsBig x.r = false ∧ x.r.n = x.n)
theorem c_l7_iff {x : A_l7} : c_l7 x = true ↔ x.j = 0 ∧ x.len = x.n ∧ x.n_2 = x.n ∧ x.n ≤ 6 ∧ rowsBig x.r = false ∧ x.r.n = x.n := by unfold c_l7; rw [decide_eq_true_eq]
def l7 : ScanL A_l7 where
  f := 7
  id := 7
  lv := [1, 3, 20, 21, 22]
  lx := [2]
  p := p_l7
  dat := d_l7
  S := fun x j => [.n x.n, .i (x.n : Int), .i (j : Int), .n x.n, .r x.r]
  len := fun x => x.n
  cnd := c_l7
  bad := fun x j => badRow x.r j
  Kb := fun x j K => K .ret ⟨us 2 ++ [i64 (8)] ++ us 37, [[]], []⟩
  Ke := fun x K => K (.exit 0) ⟨us 40, [[]], []⟩
noncomputable def C23 : Cx := mkCx Tryz.prog fns [] [l22.C]
noncomputable def C20 : Cx := mkCx Tryz.prog fns [] [l21.C]
noncomputable def C24 : Cx := mkCx Tryz.prog fns [] [l41.C]
noncomputable def C7 : Cx := mkCx Tryz.prog fns [(20, FCF2), (23, FCF1)] [l7.C]
theorem r_l22 (R : St → Option (List D)) (K : X → St → Option (List D)) (q : Nat) (n : Nat) (len : Int) (j : Int) (n_2 : Nat) (n_3 : Nat) (r : Row) : bodyOf C23 40 2 q (Go.Ev.bst p_l22 [.n n, .i len, .i j, .n n_2, .n n_3, .r r]) (rnd [0, 1, 7, 8] (some [4]) R K) =
    br (decide (j < len)) (br (decide (0 ≤ j) && decide (j < (↑n : Int))) (br (decide (r.I (0 + j.toNat) 0 < 0)) (K .ret ⟨us 4 ++ [i64 (j)] ++ us 14, [[.slice (some ⟨0, 0, some 0⟩) (n_2) (0), .func (.func 22) #[] #[]] ++ us 2 ++ [.bool (false), .slice (some ⟨0, 0, some 0⟩) (n_3) (0), .func (.func 22) #[] #[]] ++ us 2, []], [some (.row [.int .i64] false (r))]⟩) (br (decide (r.I (0 + j.toNat) 0 > 1000)) (K .ret ⟨us 4 ++ [i64 (j)] ++ us 14, [[.slice (some ⟨0, 0, some 0⟩) (n_2) (0), .func (.func 22) #[] #[]] ++ us 2 ++ [.bool (false), .slice (some ⟨0, 0, some 0⟩) (n_3) (0), .func (.func 22) #[] #[]] ++ us 2, []], [some (.row [.int .i64] false (r))]⟩) (R ⟨[.slice (some ⟨0, 0, some 0⟩) (n) (0), .func (.func 22) #[] #[]] ++ us 5 ++ [i64 (len), i64 (IntKind.i64.wrap (j + 1))] ++ us 10, [[.slice (some ⟨0, 0, some 0⟩) (n_2) (0), .func (.func 22) #[] #[]] ++ us 2 ++ [.bool (false), .slice (some ⟨0, 0, some 0⟩) (n_3) (0), .func (.func 22) #[] #[]] ++ us 2, []], [some (.row [.int .i64] false (r))]⟩))) (none)) (K (.exit 0) ⟨us 19, [[.slice (some ⟨0, 0, some 0⟩) (n_2) (0), .func (.func 22) #[] #[]] ++ us 2 ++ [.bool (false), .slice (some ⟨0, 0, some 0⟩) (n_3) (0), .func (.func 22) #[] #[]] ++ us 2, []], [some (.row [.int .i64] false (r))]⟩) := by kernel_rfl
theorem r_l21 (R : St → Option (List D)) (K : X → St → Option (List D)) (q : Nat) (n : Nat) (len : Int) (j : Int) (n_2 : Nat) (n_3 : Nat) (r : Row) : bodyOf C20 39 2 q (Go.Ev.bst p_l21 [.n n, .i len, .i j, .n n_2, .n n_3, .r r]) (rnd [0, 1, 7, 8] (some [4]) R K) =
    br (decide (j < len)) (br (decide (0 ≤ j) && decide (j < (↑n : Int))) (br (decide ((↑(r.R (0 + j.toNat) 0).n : Int) > 10)) (K .ret ⟨us 4 ++ [i64 (j)] ++ us 14, [[.slice (some ⟨0, 0, some 0⟩) (n_2) (0), .func (.func 21) #[] #[]] ++ us 2 ++ [.bool (false), .slice (some ⟨0, 0, some 0⟩) (n_3) (0), .func (.func 21) #[] #[]] ++ us 2, []], [some (.row [.slice [.int .i64]] false (r))]⟩) (R ⟨[.slice (some ⟨0, 0, some 0⟩) (n) (0), .func (.func 21) #[] #[]] ++ us 5 ++ [i64 (len), i64 (IntKind.i64.wrap (j + 1))] ++ us 10, [[.slice (some ⟨0, 0, some 0⟩) (n_2) (0), .func (.func 21) #[] #[]] ++ us 2 ++ [.bool (false), .slice (some ⟨0, 0, some 0⟩) (n_3) (0), .func (.func 21) #[] #[]] ++ us 2, []], [some (.row [.slice [.int .i64]] false (r))]⟩)) (none)) (K (.exit 0) ⟨us 19, [[.slice (some ⟨0, 0, some 0⟩) (n_2) (0), .func (.func 21) #[] #[]] ++ us 2 ++ [.bool (false), .slice (some ⟨0, 0, some 0⟩) (n_3) (0), .func (.func 21) #[] #[]] ++ us 2, []], [some (.row [.slice [.int .i64]] false (r))]⟩) := by kernel_rfl
theorem r_l41 (R : St → Option (List D)) (K : X → St → Option (List D)) (q : Nat) (n : Nat) (len : Int) (j : Int) (n_2 : Nat) (n_3 : Nat) (lw : Int) (up : Int) (n_4 : Nat) (n_5 : Nat) (r : Row) (lb : Int) (hb : Int) : bodyOf C24 40 2 q (Go.Ev.bst p_l41 [.n n, .i len, .i j, .n n_2, .n n_3, .i lw, .i up, .n n_4, .n n_5, .r r, .i lb, .i hb]) (rnd [0, 1, 7, 8] (some [4]) R K) =
    br (decide (j < len)) (br (decide (0 ≤ j) && decide (j < (↑n : Int))) (br (decide (r.I (0 + j.toNat) 0 < lb)) (K .ret ⟨us 4 ++ [i64 (j)] ++ us 14, [[.slice (some ⟨0, 0, some 0⟩) (n_2) (0), .func (.func 41) #[] #[.pointer (some ⟨1, 0, some 0⟩), .pointer (some ⟨2, 0, some 0⟩)]] ++ us 2 ++ [.bool (false), .slice (some ⟨0, 0, some 0⟩) (n_3) (0), .func (.func 41) #[] #[.pointer (some ⟨1, 0, some 0⟩), .pointer (some ⟨2, 0, some 0⟩)]] ++ us 2, [i64 (lw), i64 (up), .slice (some ⟨0, 0, some 0⟩) (n_4) (0), .pointer (some ⟨1, 0, some 0⟩), .pointer (some ⟨2, 0, some 0⟩)] ++ us 1 ++ [.bool (false), .slice (some ⟨0, 0, some 0⟩) (n_5) (0), .func (.func 41) #[] #[.pointer (some ⟨1, 0, some 0⟩), .pointer (some ⟨2, 0, some 0⟩)]] ++ us 2, []], [some (.row [.int .i64] false (r)), some (.box [i64 (lb)]), some (.box [i64 (hb)])]⟩) (br (decide (r.I (0 + j.toNat) 0 ≥ hb)) (K .ret ⟨us 4 ++ [i64 (j)] ++ us 14, [[.slice (some ⟨0, 0, some 0⟩) (n_2) (0), .func (.func 41) #[] #[.pointer (some ⟨1, 0, some 0⟩), .pointer (some ⟨2, 0, some 0⟩)]] ++ us 2 ++ [.bool (false), .slice (some ⟨0, 0, some 0⟩) (n_3) (0), .func (.func 41) #[] #[.pointer (some ⟨1, 0, some 0⟩), .pointer (some ⟨2, 0, some 0⟩)]] ++ us 2, [i64 (lw), i64 (up), .slice (some ⟨0, 0, some 0⟩) (n_4) (0), .pointer (some ⟨1, 0, some 0⟩), .pointer (some ⟨2, 0, some 0⟩)] ++ us 1 ++ [.bool (false), .slice (some ⟨0, 0, some 0⟩) (n_5) (0), .func (.func 41) #[] #[.pointer (some ⟨1, 0, some 0⟩), .pointer (some ⟨2, 0, some 0⟩)]] ++ us 2, []], [some (.row [.int .i64] false (r)), some (.box [i64 (lb)]), some (.box [i64 (hb)])]⟩) (R ⟨[.slice (some ⟨0, 0, some 0⟩) (n) (0), .func (.func 41) #[] #[.pointer (some ⟨1, 0, some 0⟩), .pointer (some ⟨2, 0, some 0⟩)]] ++ us 5 ++ [i64 (len), i64 (IntKind.i64.wrap (j + 1))] ++ us 10, [[.slice (some ⟨0, 0, some 0⟩) (n_2) (0), .func (.func 41) #[] #[.pointer (some ⟨1, 0, some 0⟩), .pointer (some ⟨2, 0, some 0⟩)]] ++ us 2 ++ [.bool (false), .slice (some ⟨0, 0, some 0⟩) (n_3) (0), .func (.func 41) #[] #[.pointer (some ⟨1, 0, some 0⟩), .pointer (some ⟨2, 0, some 0⟩)]] ++ us 2, [i64 (lw), i64 (up), .slice (some ⟨0, 0, some 0⟩) (n_4) (0), .pointer (some ⟨1, 0, some 0⟩), .pointer (some ⟨2, 0, some 0⟩)] ++ us 1 ++ [.bool (false), .slice (some ⟨0, 0, some 0⟩) (n_5) (0), .func (.func 41) #[] #[.pointer (some ⟨1, 0, some 0⟩), .pointer (some ⟨2, 0, some 0⟩)]] ++ us 2, []], [some (.row [.int .i64] false (r)), some (.box [i64 (lb)]), some (.box [i64 (hb)])]⟩))) (none)) (K (.exit 0) ⟨us 19, [[.slice (some ⟨0, 0, some 0⟩) (n_2) (0), .func (.func 41) #[] #[.pointer (some ⟨1, 0, some 0⟩), .pointer (some ⟨2, 0, some 0⟩)]] ++ us 2 ++ [.bool (false), .slice (some ⟨0, 0, some 0⟩) (n_3) (0), .func (.func 41) #[] #[.pointer (some ⟨1, 0, some 0⟩), .pointer (some ⟨2, 0, some 0⟩)]] ++ us 2, [i64 (lw), i64 (up), .slice (some ⟨0, 0, some 0⟩) (n_4) (0), .pointer (some ⟨1, 0, some 0⟩), .pointer (some ⟨2, 0, some 0⟩)] ++ us 1 ++ [.bool (false), .slice (some ⟨0, 0, some 0⟩) (n_5) (0), .func (.func 41) #[] #[.pointer (some ⟨1, 0, some 0⟩), .pointer (some ⟨2, 0, some 0⟩)]] ++ us 2, []], [some (.row [.int .i64] false (r)), some (.box [i64 (lb)]), some (.box [i64 (hb)])]⟩) := by kernel_rfl
theorem r_l7 (R : St → Option (List D)) (K : X → St → Option (List D)) (q : Nat) (n : Nat) (len : Int) (j : Int) (n_2 : Nat) (r : Row) : bodyOf C7 7 7 q (Go.Ev.bst p_l7 [.n n, .i len, .i j, .n n_2, .r r]) (rnd [1, 3, 20, 21, 22] (some [2]) R K) =
    br (decide (j < len)) (br (decide (0 ≤ j) && decide (j < (↑n : Int))) (br (decide ((0 : Int) ≤ 0) && decide (0 < (↑n_2 : Int))) (br ((↑(r.R (0 + j.toNat) 0).n : Int) != (↑(r.R 0 0).n : Int)) (K .ret ⟨us 2 ++ [i64 (8)] ++ us 37, [[]], []⟩) (br (decide ((winOf (r.R (0 + j.toNat) 0) 0 (r.R (0 + j.toNat) 0).n).n ≤ 1000000)) (br (anyF (fun j_1 => oddB ((winOf (r.R (0 + j.toNat) 0) 0 (r.R (0 + j.toNat) 0).n).I j_1 0)) (winOf (r.R (0 + j.toNat) 0) 0 (r.R (0 + j.toNat) 0).n).n 0) (K .ret ⟨us 2 ++ [i64 (8)] ++ us 37, [[]], []⟩) (R ⟨us 1 ++ [.pointer (some ⟨0, 0, some 0⟩)] ++ us 1 ++ [.func (.func 22) #[] #[]] ++ us 16 ++ [.slice (some ⟨1, 0, some 0⟩) (n) (0), i64 (len), i64 (IntKind.i64.wrap (j + 1))] ++ us 17, [[]], [some (.box [.slice (some ⟨1, 0, some 0⟩) (n_2) (0)]), some (.row [.slice [.int .i64]] false (r))]⟩)) (none))) (none)) (none)) (K (.exit 0) ⟨us 40, [[]], []⟩) := by kernel_rfl
theorem u23 (r : Row) : evF C23 6 23 [.slice ksI r, .v (.func (.func 22) #[] #[])] =
    br (c_l22 { n := r.n, len := (↑r.n : Int), j := 0, n_2 := r.n, n_3 := r.n, r := r : A_l22 }) (br (anyF (fun j => oddB ({ n := r.n, len := (↑r.n : Int), j := 0, n_2 := r.n, n_3 := r.n, r := r : A_l22 }.r.I j 0)) r.n 0) (some [.v (.bool (decide ((↑(fstF (l22.bad { n := r.n, len := (↑r.n : Int), j := 0, n_2 := r.n, n_3 := r.n, r := r : A_l22 }) (l22.len { n := r.n, len := (↑r.n : Int), j := 0, n_2 := r.n, n_3 := r.n, r := r : A_l22 }) 0) : Int) ≥ 0)))]) (some [.v (.bool (decide (-1 ≥ 0)))])) (none) := by kernel_rfl
theorem u20 (r : Row) : evF C20 6 20 [.slice ksV r, .v (.func (.func 21) #[] #[])] =
    br (c_l21 { n := r.n, len := (↑r.n : Int), j := 0, n_2 := r.n, n_3 := r.n, r := r : A_l21 }) (br (anyF (fun j => decide ((↑({ n := r.n, len := (↑r.n : Int), j := 0, n_2 := r.n, n_3 := r.n, r := r : A_l21 }.r.R j 0).n : Int) > 10)) r.n 0) (some [.v (.bool (decide ((↑(fstF (l21.bad { n := r.n, len := (↑r.n : Int), j := 0, n_2 := r.n, n_3 := r.n, r := r : A_l21 }) (l21.len { n := r.n, len := (↑r.n : Int), j := 0, n_2 := r.n, n_3 := r.n, r := r : A_l21 }) 0) : Int) ≥ 0)))]) (some [.v (.bool (decide (-1 ≥ 0)))])) (none) := by kernel_rfl
theorem u24 (lo hi : Int) (r : Row) : evF C24 6 24 [.v (i64 lo), .v (i64 hi), .slice ksI r] =
    br (c_l41 { n := r.n, len := (↑r.n : Int), j := 0, n_2 := r.n, n_3 := r.n, lw := lo, up := hi, n_4 := r.n, n_5 := r.n, r := r, lb := lo, hb := hi : A_l41 }) (br (anyF (fun j => outB2 { n := r.n, len := (↑r.n : Int), j := 0, n_2 := r.n, n_3 := r.n, lw := lo, up := hi, n_4 := r.n, n_5 := r.n, r := r, lb := lo, hb := hi : A_l41 }.lb { n := r.n, len := (↑r.n : Int), j := 0, n_2 := r.n, n_3 := r.n, lw := lo, up := hi, n_4 := r.n, n_5 := r.n, r := r, lb := lo, hb := hi : A_l41 }.hb ({ n := r.n, len := (↑r.n : Int), j := 0, n_2 := r.n, n_3 := r.n, lw := lo, up := hi, n_4 := r.n, n_5 := r.n, r := r, lb := lo, hb := hi : A_l41 }.r.I j 0)) r.n 0) (some [.v (.bool (!decide ((↑(fstF (l41.bad { n := r.n, len := (↑r.n : Int), j := 0, n_2 := r.n, n_3 := r.n, lw := lo, up := hi, n_4 := r.n, n_5 := r.n, r := r, lb := lo, hb := hi : A_l41 }) (l41.len { n := r.n, len := (↑r.n : Int), j := 0, n_2 := r.n, n_3 := r.n, lw := lo, up := hi, n_4 := r.n, n_5 := r.n, r := r, lb := lo, hb := hi : A_l41 }) 0) : Int) ≥ 0)))]) (some [.v (.bool (!decide (-1 ≥ 0)))])) (none) := by kernel_rfl
theorem u7 (r : Row) : evF C7 6 7 [.agg [.slice ksV r]] =
    br (decide ((↑r.n : Int) > 6)) (some [.v (i64 (4))]) (br (decide ((winOf r 0 r.n).n ≤ 1000000)) (br (anyF (fun j => decide ((↑((winOf r 0 r.n).R j 0).n : Int) > 10)) (winOf r 0 r.n).n 0) (some [.v (i64 (4))]) (br ((↑r.n : Int) == 0) (some [.v (i64 (8))]) (br (c_l7 { n := r.n, len := (↑r.n : Int), j := 0, n_2 := r.n, r := r : A_l7 }) (br (anyF (fun j => badRow { n := r.n, len := (↑r.n : Int), j := 0, n_2 := r.n, r := r : A_l7 }.r j) r.n 0) (some [.v (i64 (8))]) (some [.v (i64 (0))])) (none)))) (none)) := by kernel_rfl
set_option maxRecDepth 100000 in
theorem ok_l22 : LoopOk C23 l22.C := l22.ok (by kernel_rfl)
  (fun its x h hc => by
    replace h : d_l22 its = some x := h
    unfold d_l22 at h
    split at h
    · cases h
      obtain ⟨h1, h2, h3, h4, h5⟩ := c_l22_iff.1 hc
      dsimp only at h1 h2 h3 h4
      subst h1 h2 h3 h4
      rfl
    · cases h)
  (fun x hc => by have := c_l22_iff.1 hc; show x.n < 18446744073709551616; omega)
  (fun q ⟨n, len0, j0, n_2, n_3, r⟩ j hc hi R K => by
    obtain ⟨h1, h2, h3, h4, h5⟩ := c_l22_iff.1 hc
    dsimp only at *
    replace hi : j < n := hi
    refine (r_l22  R K q (n) ((n : Int)) ((j : Int)) (n) (n) (r)).trans ?_
    rw [Int.toNat_natCast, Nat.zero_add j, gd j n hi, ltd j n hi, wsn (by omega), br_true, br_true]
    exact (br_or _ _ _ _).symm)
  (fun q ⟨n, len0, j0, n_2, n_3, r⟩ hc R K => by
    obtain ⟨h1, h2, h3, h4, h5⟩ := c_l22_iff.1 hc
    dsimp only at *
    refine (r_l22  R K q (n) ((n : Int)) ((n : Int)) (n) (n) (r)).trans ?_
    rw [ltn n]
    rfl)
set_option maxRecDepth 100000 in
theorem ok_l21 : LoopOk C20 l21.C := l21.ok (by kernel_rfl)
  (fun its x h hc => by
    replace h : d_l21 its = some x := h
    unfold d_l21 at h
    split at h
    · cases h
      obtain ⟨h1, h2, h3, h4, h5⟩ := c_l21_iff.1 hc
      dsimp only at h1 h2 h3 h4
      subst h1 h2 h3 h4
      rfl
    · cases h)
  (fun x hc => by have := c_l21_iff.1 hc; show x.n < 18446744073709551616; omega)
  (fun q ⟨n, len0, j0, n_2, n_3, r⟩ j hc hi R K => by
    obtain ⟨h1, h2, h3, h4, h5⟩ := c_l21_iff.1 hc
    dsimp only at *
    replace hi : j < n := hi
    refine (r_l21  R K q (n) ((n : Int)) ((j : Int)) (n) (n) (r)).trans ?_
    rw [Int.toNat_natCast, Nat.zero_add j, gd j n hi, ltd j n hi, wsn (by omega)]
    rfl)
  (fun q ⟨n, len0, j0, n_2, n_3, r⟩ hc R K => by
    obtain ⟨h1, h2, h3, h4, h5⟩ := c_l21_iff.1 hc
    dsimp only at *
    refine (r_l21  R K q (n) ((n : Int)) ((n : Int)) (n) (n) (r)).trans ?_
    rw [ltn n]
    rfl)
set_option maxRecDepth 100000 in
theorem ok_l41 : LoopOk C24 l41.C := l41.ok (by kernel_rfl)
  (fun its x h hc => by
    replace h : d_l41 its = some x := h
    unfold d_l41 at h
    split at h
    · cases h
      obtain ⟨h1, h2, h3, h4, h5, h6, h7⟩ := c_l41_iff.1 hc
      dsimp only at h1 h2 h3 h4 h5 h6
      subst h1 h2 h3 h4 h5 h6
      rfl
    · cases h)
  (fun x hc => by have := c_l41_iff.1 hc; show x.n < 18446744073709551616; omega)
  (fun q ⟨n, len0, j0, n_2, n_3, lw, up, n_4, n_5, r, lb, hb⟩ j hc hi R K => by
    obtain ⟨h1, h2, h3, h4, h5, h6, h7⟩ := c_l41_iff.1 hc
    dsimp only at *
    replace hi : j < n := hi
    refine (r_l41  R K q (n) ((n : Int)) ((j : Int)) (n) (n) (lw) (up) (n) (n) (r) (lb) (hb)).trans ?_
    rw [Int.toNat_natCast, Nat.zero_add j, gd j n hi, ltd j n hi, wsn (by omega), br_true, br_true]
    exact (br_or _ _ _ _).symm)
  (fun q ⟨n, len0, j0, n_2, n_3, lw, up, n_4, n_5, r, lb, hb⟩ hc R K => by
    obtain ⟨h1, h2, h3, h4, h5, h6, h7⟩ := c_l41_iff.1 hc
    dsimp only at *
    refine (r_l41  R K q (n) ((n : Int)) ((n : Int)) (n) (n) (lw) (up) (n) (n) (r) (lb) (hb)).trans ?_
    rw [ltn n]
    rfl)
set_option maxRecDepth 100000 in
theorem ok_l7 : LoopOk C7 l7.C := l7.ok (by kernel_rfl)
  (fun its x h hc => by
    replace h : d_l7 its = some x := h
    unfold d_l7 at h
    split at h
    · cases h
      obtain ⟨h1, h2, h3, h4, h5, h6⟩ := c_l7_iff.1 hc
      dsimp only at h1 h2 h3
      subst h1 h2 h3
      rfl
    · cases h)
  (fun x hc => by have := c_l7_iff.1 hc; show x.n < 18446744073709551616; omega)
  (fun q ⟨n, len0, j0, n_2, r⟩ j hc hi R K => by
    obtain ⟨h1, h2, h3, h4, h5, h6⟩ := c_l7_iff.1 hc
    dsimp only at *
    replace hi : j < n := hi
    refine (r_l7  R K q (n) ((n : Int)) ((j : Int)) (n) (r)).trans ?_
    have hb := anyF_false.1 (show anyF _ _ _ = false from h5) j (Nat.zero_le _) (by omega)
    replace hb := of_decide_eq_false hb
    rw [Int.toNat_natCast, Nat.zero_add j, gd j n hi, ltd j n hi, wsn (by omega), show decide ((winOf (r.R j 0) 0 (r.R j 0).n).n ≤ 1000000) = true from decide_eq_true (by rw [winOf_n]; omega), show (decide ((0 : Int) ≤ 0) && decide ((0 : Int) < (n : Int))) = true by simp only [Bool.and_eq_true, decide_eq_true_eq]; omega, br_true, br_true, br_true, br_true]
    exact (br_or _ _ _ _).symm)
  (fun q ⟨n, len0, j0, n_2, r⟩ hc R K => by
    obtain ⟨h1, h2, h3, h4, h5, h6⟩ := c_l7_iff.1 hc
    dsimp only at *
    refine (r_l7  R K q (n) ((n : Int)) ((n : Int)) (n) (r)).trans ?_
    rw [ltn n]
    rfl)
theorem C23_ok : CxOk C23 := mkCx_ok enter mixed (fun p h => by cases h) (fun l h => by
  simp only [List.mem_cons, List.not_mem_nil, or_false] at h
  rcases h with rfl
  exact ok_l22)
theorem C20_ok : CxOk C20 := mkCx_ok enter mixed (fun p h => by cases h) (fun l h => by
  simp only [List.mem_cons, List.not_mem_nil, or_false] at h
  rcases h with rfl
  exact ok_l21)
theorem C24_ok : CxOk C24 := mkCx_ok enter mixed (fun p h => by cases h) (fun l h => by
  simp only [List.mem_cons, List.not_mem_nil, or_false] at h
  rcases h with rfl
  exact ok_l41)
theorem den_CF1 : Den Tryz.prog 23 FCF1 := evF_den C23_ok fun ds rs h => by
  unfold FCF1 at h
  split at h
  · rename_i r
    simp only [Option.some.injEq, Prod.mk.injEq] at h
    obtain ⟨h0, rfl⟩ := h
    have h0 := of_decide_eq_true h0
    refine (u23 r).trans ?_
    rw [c_l22_iff.2 ⟨rfl, rfl, rfl, rfl, h0⟩, br_true]
    show br (anyF (fun j => oddB (r.I j 0)) r.n 0) _ _ = some [D.v (.bool (anyF (fun j => oddB (r.I j 0)) r.n 0))]
    cases anyF (fun j => oddB (r.I j 0)) r.n 0
    · rfl
    · rw [br_true, decide_eq_true (by omega)]
  · cases h
theorem den_CF2 : Den Tryz.prog 20 FCF2 := evF_den C20_ok fun ds rs h => by
  unfold FCF2 at h
  split at h
  · rename_i r
    simp only [Option.some.injEq, Prod.mk.injEq] at h
    obtain ⟨h0, rfl⟩ := h
    have h0 := of_decide_eq_true h0
    refine (u20 r).trans ?_
    rw [c_l21_iff.2 ⟨rfl, rfl, rfl, rfl, h0⟩, br_true]
    show br (anyF (fun j => decide (((r.R j 0).n : Int) > 10)) r.n 0) _ _ = some [D.v (.bool (anyF (fun j => decide (((r.R j 0).n : Int) > 10)) r.n 0))]
    cases anyF (fun j => decide (((r.R j 0).n : Int) > 10)) r.n 0
    · rfl
    · rw [br_true, decide_eq_true (by omega)]
  · cases h
/-- Whether all elements are from lo on, and less than hi. -/
def winB (lo hi : Int) (r : Row) : Bool := !anyF (fun j => outB2 lo hi (r.I j 0)) r.n 0
def Fwin : List D → Option (Bool × List D)
  | [.v (.int .i64 lo), .v (.int .i64 hi), .slice [.int .i64] r] => some (decide (r.n ≤ 1000000), [.v (.bool (winB lo hi r))])
  | _ => none
theorem den_within : Den Tryz.prog 24 Fwin := evF_den C24_ok fun ds rs h => by
  unfold Fwin at h
  split at h
  · rename_i lo hi r
    simp only [Option.some.injEq, Prod.mk.injEq] at h
    obtain ⟨h0, rfl⟩ := h
    have h0 := of_decide_eq_true h0
    refine (u24 lo hi r).trans ?_
    rw [c_l41_iff.2 ⟨rfl, rfl, rfl, rfl, rfl, rfl, h0⟩, br_true]
    unfold winB
    show br (anyF (fun j => outB2 lo hi (r.I j 0)) r.n 0) _ _ = _
    cases anyF (fun j => outB2 lo hi (r.I j 0)) r.n 0
    · rfl
    · rw [br_true, decide_eq_true (by omega)]
  · cases h
theorem C7_ok : CxOk C7 := mkCx_ok enter mixed (fun p h => by
  simp only [List.mem_cons, List.not_mem_nil, or_false] at h
  rcases h with rfl | rfl
  · exact den_CF2
  · exact den_CF1) (fun l h => by
  simp only [List.mem_cons, List.not_mem_nil, or_false] at h
  rcases h with rfl
  exact ok_l7)
/-- The error of goods. -/
def chkE (r : Row) : Int := bif decide ((r.n : Int) > 6) || rowsBig r then 4 else bif (r.n : Int) == 0 || anyF (badRow r) r.n 0 then 8 else 0
def Fchk : List D → Option (Bool × List D)
  | [.agg [.slice [.slice [.int .i64]] r]] => some (decide (r.n ≤ 1000000), [.v (i64 (chkE r))])
  | _ => none
theorem den_chk : Den Tryz.prog 7 Fchk := evF_den C7_ok fun ds rs h => by
  unfold Fchk at h
  split at h
  · rename_i r
    simp only [Option.some.injEq, Prod.mk.injEq] at h
    obtain ⟨h0, rfl⟩ := h
    have h0 := of_decide_eq_true h0
    refine (u7 r).trans ?_
    unfold chkE
    by_cases c1 : (r.n : Int) > 6
    · rw [decide_eq_true c1]; rfl
    · rw [decide_eq_false c1, br_false, decide_eq_true (show (winOf r 0 r.n).n ≤ 1000000 by rw [winOf_n]; exact h0), br_true, Bool.false_or]
      show br (rowsBig r) _ _ = _
      cases c2 : rowsBig r
      · rw [br_false]
        cases c3 : (r.n : Int) == 0
        · rw [br_false, c_l7_iff.2 ⟨rfl, rfl, rfl, by dsimp only; omega, c2, rfl⟩, br_true]
          show br (anyF (badRow r) r.n 0) _ _ = _
          cases anyF (badRow r) r.n 0 <;> rfl
        · rfl
      · rfl
  · cases h
theorem chk_zero {r : Row} (h : chkE r = 0) : 1 ≤ r.n ∧ r.n ≤ 6 ∧ ∀ i, i < r.n → (r.R i 0).n = (r.R 0 0).n ∧ (r.R i 0).n ≤ 10 ∧ ∀ k, k < (r.R i 0).n → 0 ≤ (r.R i 0).I k 0 ∧ (r.R i 0).I k 0 ≤ 1000 := by
  unfold chkE at h
  cases c1 : decide ((r.n : Int) > 6) || rowsBig r
  · rw [c1, cond_false] at h
    rw [Bool.or_eq_false_iff, decide_eq_false_iff_not] at c1
    cases c2 : (r.n : Int) == 0 || anyF (badRow r) r.n 0
    · rw [Bool.or_eq_false_iff] at c2
      have c3 : ¬ (r.n : Int) = 0 := by simpa using c2.1
      refine ⟨by omega, by omega, fun i hi => ?_⟩
      have c4 := anyF_false.1 c2.2 i (Nat.zero_le _) (by omega)
      have c5 := of_decide_eq_false (anyF_false.1 c1.2 i (Nat.zero_le _) (by omega))
      unfold badRow at c4
      rw [Bool.or_eq_false_iff] at c4
      have c6 : ((r.R i 0).n : Int) = ((r.R 0 0).n : Int) := by simpa using c4.1
      refine ⟨by omega, by omega, fun k hk => ?_⟩
      have c7 := anyF_false.1 c4.2 k (Nat.zero_le _) (by omega)
      simp only [oddB, Bool.or_eq_false_iff, decide_eq_false_iff_not] at c7
      omega
    · rw [c2] at h; cases h
  · rw [c1] at h; cases h
theorem chk_val (r : Row) : chkE r = 0 ∨ chkE r = 4 ∨ chkE r = 8 := by
  unfold chkE
  cases decide ((r.n : Int) > 6) || rowsBig r
  · cases (r.n : Int) == 0 || anyF (badRow r) r.n 0
    · exact .inl rfl
    · exact .inr (.inr rfl)
  · exact .inr (.inl rfl)
noncomputable def C8 : Cx := mkCx Tryz.prog fns [(7, Fchk), (24, Fwin)] []
theorem C8_ok : CxOk C8 := mkCx_ok enter mixed (fun p h => by
  simp only [List.mem_cons, List.not_mem_nil, or_false] at h
  rcases h with rfl | rfl
  · exact den_chk
  · exact den_within) (fun l h => by cases h)
theorem u8 (r a : Row) : evF C8 6 8 [.agg [.slice ksV r], .slice ksI a] =
    br (decide ((winOf r 0 r.n).n ≤ 1000000)) (br (chkE (winOf r 0 r.n) != 0) (some [.v (i64 (chkE (winOf r 0 r.n)))]) (br (decide ((0 : Int) ≤ 0) && decide (0 < (↑r.n : Int))) (br ((↑a.n : Int) != (↑(r.R 0 0).n : Int)) (some [.v (i64 (8))]) (br (decide ((winOf a 0 a.n).n ≤ 1000000)) (br (!winB (-1) (↑r.n : Int) (winOf a 0 a.n)) (some [.v (i64 (8))]) (some [.v (i64 (0))])) (none))) (none))) (none) := by kernel_rfl
/-- The error of an allocation. -/
def valE (r a : Row) : Int := bif chkE r != 0 then chkE r else bif (a.n : Int) != ((r.R 0 0).n : Int) || !winB (-1) r.n a then 8 else 0
def Fval : List D → Option (Bool × List D)
  | [.agg [.slice [.slice [.int .i64]] r], .slice [.int .i64] a] => some (decide (r.n ≤ 1000000 ∧ a.n ≤ 1000000), [.v (i64 (valE r a))])
  | _ => none
theorem den_val : Den Tryz.prog 8 Fval := evF_den C8_ok fun ds rs h => by
  unfold Fval at h
  split at h
  · rename_i r a
    simp only [Option.some.injEq, Prod.mk.injEq] at h
    obtain ⟨h0, rfl⟩ := h
    have h0 := of_decide_eq_true h0
    refine (u8 r a).trans ?_
    unfold valE
    rw [decide_eq_true (show (winOf r 0 r.n).n ≤ 1000000 by rw [winOf_n]; exact h0.1), br_true]
    show br (chkE r != 0) _ _ = _
    cases c1 : chkE r != 0
    · have c1 : chkE r = 0 := by simpa using c1
      have c2 := (chk_zero c1).1
      rw [br_false, show (decide ((0 : Int) ≤ 0) && decide ((0 : Int) < (r.n : Int))) = true by simp only [Bool.and_eq_true, decide_eq_true_eq]; omega, br_true]
      cases c3 : (a.n : Int) != ((r.R 0 0).n : Int)
      · rw [br_false, decide_eq_true (show (winOf a 0 a.n).n ≤ 1000000 by rw [winOf_n]; exact h0.2), br_true]
        show br (!winB (-1) r.n a) _ _ = _
        cases winB (-1) r.n a <;> rfl
      · rfl
    · rfl
  · cases h
theorem val_zero {r a : Row} (h : valE r a = 0) : chkE r = 0 ∧ a.n = (r.R 0 0).n ∧ ∀ k, k < a.n → -1 ≤ a.I k 0 ∧ a.I k 0 < r.n := by
  unfold valE at h
  cases c1 : chkE r != 0
  · rw [c1, cond_false] at h
    have c1 : chkE r = 0 := by simpa using c1
    cases c2 : (a.n : Int) != ((r.R 0 0).n : Int) || !winB (-1) r.n a
    · rw [Bool.or_eq_false_iff] at c2
      have c3 : (a.n : Int) = ((r.R 0 0).n : Int) := by simpa using c2.1
      refine ⟨c1, by omega, fun k hk => ?_⟩
      have c4 := c2.2
      unfold winB at c4
      rw [Bool.not_not] at c4
      have c5 := anyF_false.1 c4 k (Nat.zero_le _) (by omega)
      simp only [outB2, Bool.or_eq_false_iff, decide_eq_false_iff_not] at c5
      omega
    · rw [c2] at h; cases h
  · rw [c1, cond_true] at h
    rw [h] at c1; cases c1
end Go.Proofs.YtlfeobdfgmlmpaaGreatDoor
/- Package goods: Values, Envies, sum, Poor: contracts. No conditions. -/
namespace Go.Proofs.YtlfeobdfgmlmpaaGreatDoor
open Go.Ev
set_option linter.all false
def wNx (a v : Row) (k : Nat) (w : Row) : Row := bif decide (a.I k 0 ≥ 0) then w.setI (a.I k 0).toNat 0 (IntKind.i64.wrap (w.I (a.I k 0).toNat 0 + v.I k 0)) else w
def wRow (a v : Row) (m n : Nat) : Row := fldN (wNx a v) m 0 (Row.zeros n)
def p_l25b : PSt := { τ := pu 1 ++ [.v (.sl 0), .v (.c (.pointer (some ⟨1, 0, some 0⟩)))] ++ pu 4 ++ [.v (.sl 2)] ++ pu 1 ++ [.v (.sl 3), .v (.sl 4)] ++ pu 9 ++ [.v (.sl 5), .v (.int .i64), .v (.int .i64)] ++ pu 7 ++ [.v (.sl 0), .v (.int .i64), .v (.int .i64)] ++ pu 23, saved := [[]], mem := [.row [.int .i64] false, .box [.v (.sl 5)], .deep [.slice [.int .i64]], .row [.int .i64] false, .row [.int .i64] true, .row [.slice [.int .i64]] false] }
structure A_l25b where
  an : Nat
  on : Nat
  vn : Nat
  wn : Nat
  n : Nat
  len : Int
  jo : Int
  an_2 : Nat
  lem : Int
  k : Int
  a0 : Row
  rn : Nat
  o : Row
  v : Row
  w : Row
  r : Row
def d_l25b (its : List It) : Option A_l25b := match its with | [.n an, .n on, .n vn, .n wn, .n n, .i len, .i jo, .n an_2, .i lem, .i k, .r a0, .n rn, .r o, .r v, .r w, .r r] => some ⟨an, on, vn, wn, n, len, jo, an_2, lem, k, a0, rn, o, v, w, r⟩ | _ => none
def c_l25b (x : A_l25b) : Bool := decide (x.k = 0 ∧ x.lem = x.an ∧ x.an_2 = x.an ∧ x.an ≤ 1000000 ∧ x.an ≤ x.vn ∧ (∀ k, k < x.an → x.a0.I k 0 < (x.wn : Int)))
theorem c_l25b_iff {x : A_l25b} : c_l25b x = true ↔ x.k = 0 ∧ x.lem = x.an ∧ x.an_2 = x.an ∧ x.an ≤ 1000000 ∧ x.an ≤ x.vn ∧ (∀ k, k < x.an → x.a0.I k 0 < (x.wn : Int)) := by unfold c_l25b; rw [decide_eq_true_eq]
def l25b : FoldL A_l25b (Row) where
  f := 25
  id := 10
  lv := [1, 2, 7, 9, 10, 20, 21, 22, 30, 31, 32]
  lx := [1, 2, 4, 5, 7, 10, 20, 21, 22]
  p := p_l25b
  dat := d_l25b
  S := fun x j a => [.n x.an, .n x.on, .n x.vn, .n x.wn, .n x.n, .i x.len, .i x.jo, .n x.an, .i (x.an : Int), .i (j : Int), .r x.a0, .n x.rn, .r x.o, .r x.v, .r (a), .r x.r]
  len := fun x => x.an
  cnd := c_l25b
  ini := fun x => x.w
  nx := fun x j a => wNx x.a0 x.v j a
  Ke := fun x a K => K (.exit 2) ⟨us 1 ++ [.slice (some ⟨0, 0, some 0⟩) (x.an) (0), .pointer (some ⟨1, 0, some 0⟩)] ++ us 4 ++ [.slice (some ⟨2, 0, some 0⟩) (x.on) (0)] ++ us 2 ++ [.slice (some ⟨3, 0, some 0⟩) (x.wn) (0)] ++ us 9 ++ [.slice (some ⟨4, 0, some 0⟩) (x.n) (0), i64 (x.len), i64 (x.jo)] ++ us 33, [[]], [some (.row [.int .i64] false (x.a0)), some (.box [.slice (some ⟨4, 0, some 0⟩) (x.rn) (0)]), some (.deep [.slice [.int .i64]] (x.o) none), some (.row [.int .i64] true ((a))), some (.row [.slice [.int .i64]] false (x.r))]⟩
def vApp (o w : Row) : Row := (winOf o 0 o.n).app (winOf ((Row.zeros 1).setR 0 0 w) 0 1)
theorem vApp_lt {o w : Row} {i : Nat} (h : i < o.n) : (vApp o w).R i 0 = o.R i 0 := by
  show (bif Nat.blt i (winOf o 0 o.n).n then (winOf o 0 o.n).R i 0 else _) = _
  rw [winOf_n, show Nat.blt i o.n = true by rw [Nat.blt_eq]; exact h]; rfl
theorem vApp_eq {o w : Row} {i : Nat} (h : i = o.n) : (vApp o w).R i 0 = w := by
  subst h
  show (bif Nat.blt o.n (winOf o 0 o.n).n then (winOf o 0 o.n).R o.n 0 else (bif Nat.beq (o.n - (winOf o 0 o.n).n) 0 && Nat.beq 0 0 then w else _)) = _
  rw [winOf_n, show Nat.blt o.n o.n = false from Bool.eq_false_iff.2 (by rw [Ne, Nat.blt_eq]; exact Nat.lt_irrefl _), Nat.sub_self]
  rfl
def p_l25a : PSt := { τ := pu 1 ++ [.v (.sl 0), .v (.c (.pointer (some ⟨1, 0, some 0⟩)))] ++ pu 4 ++ [.v (.sl 2)] ++ pu 12 ++ [.v (.sl 3), .v (.int .i64), .v (.int .i64)] ++ pu 33, saved := [[]], mem := [.row [.int .i64] false, .box [.v (.sl 3)], .deep [.slice [.int .i64]], .row [.slice [.int .i64]] false] }
structure A_l25a where
  an : Nat
  on : Nat
  n : Nat
  len : Int
  j : Int
  a0 : Row
  n_2 : Nat
  o : Row
  r : Row
def d_l25a (its : List It) : Option A_l25a := match its with | [.n an, .n on, .n n, .i len, .i j, .r a0, .n n_2, .r o, .r r] => some ⟨an, on, n, len, j, a0, n_2, o, r⟩ | _ => none
def c_l25a (x : A_l25a) : Bool := decide (x.j = 0 ∧ x.len = x.n ∧ x.n_2 = x.n ∧ x.on = x.o.n ∧ x.an ≤ 1000000 ∧ x.n ≤ 1000 ∧ (∀ i, i < x.n → x.an ≤ (x.r.R i 0).n) ∧ (∀ k, k < x.an → x.a0.I k 0 < (x.n : Int)) ∧ x.o.n = 0)
theorem c_l25a_iff {x : A_l25a} : c_l25a x = true ↔ x.j = 0 ∧ x.len = x.n ∧ x.n_2 = x.n ∧ x.on = x.o.n ∧ x.an ≤ 1000000 ∧ x.n ≤ 1000 ∧ (∀ i, i < x.n → x.an ≤ (x.r.R i 0).n) ∧ (∀ k, k < x.an → x.a0.I k 0 < (x.n : Int)) ∧ x.o.n = 0 := by unfold c_l25a; rw [decide_eq_true_eq]
def l25a : FoldL A_l25a (Row) where
  f := 25
  id := 6
  lv := [1, 2, 7, 20, 21, 22, 31470007]
  lx := [4, 5, 7]
  p := p_l25a
  dat := d_l25a
  S := fun x j a => [.n x.an, .n (a.n), .n x.n, .i (x.n : Int), .i (j : Int), .r x.a0, .n x.n, .r (a), .r x.r]
  len := fun x => x.n
  cnd := c_l25a
  ini := fun x => x.o
  nx := fun x j a => vApp a (winOf (wRow x.a0 (x.r.R j 0) x.an x.n) 0 x.n)
  Ke := fun x a K => K (.exit 0) ⟨us 7 ++ [.slice (some ⟨0, 0, some 0⟩) ((a.n)) (0)] ++ us 48, [[]], [some (.deep [.slice [.int .i64]] ((a)) none)]⟩
noncomputable def C25 : Cx := mkCx Tryz.prog fns [(8, Fval)] [l25b.C, l25a.C]
theorem r_l25b (R : St → Option (List D)) (K : X → St → Option (List D)) (q : Nat) (an : Nat) (on : Nat) (vn : Nat) (wn : Nat) (n : Nat) (len : Int) (jo : Int) (an_2 : Nat) (lem : Int) (k : Int) (a0 : Row) (rn : Nat) (o : Row) (v : Row) (w : Row) (r : Row) : bodyOf C25 25 10 q (Go.Ev.bst p_l25b [.n an, .n on, .n vn, .n wn, .n n, .i len, .i jo, .n an_2, .i lem, .i k, .r a0, .n rn, .r o, .r v, .r w, .r r]) (rnd [1, 2, 7, 9, 10, 20, 21, 22, 30, 31, 32] (some [1, 2, 4, 5, 7, 10, 20, 21, 22]) R K) =
    br (decide (k < lem)) (br (decide (0 ≤ k) && decide (k < (↑an_2 : Int))) (br (decide (a0.I (0 + k.toNat) 0 ≥ 0)) (br (decide (0 ≤ a0.I (0 + k.toNat) 0) && decide (a0.I (0 + k.toNat) 0 < (↑wn : Int))) (br (decide (0 ≤ k) && decide (k < (↑vn : Int))) (br (decide (0 ≤ a0.I (0 + k.toNat) 0) && decide (a0.I (0 + k.toNat) 0 < (↑wn : Int))) (R ⟨us 1 ++ [.slice (some ⟨0, 0, some 0⟩) (an) (0), .pointer (some ⟨1, 0, some 0⟩)] ++ us 4 ++ [.slice (some ⟨2, 0, some 0⟩) (on) (0)] ++ us 1 ++ [.slice (some ⟨3, 0, some 0⟩) (vn) (0), .slice (some ⟨4, 0, some 0⟩) (wn) (0)] ++ us 9 ++ [.slice (some ⟨5, 0, some 0⟩) (n) (0), i64 (len), i64 (jo)] ++ us 7 ++ [.slice (some ⟨0, 0, some 0⟩) (an_2) (0), i64 (lem), i64 (IntKind.i64.wrap (k + 1))] ++ us 23, [[]], [some (.row [.int .i64] false (a0)), some (.box [.slice (some ⟨5, 0, some 0⟩) (rn) (0)]), some (.deep [.slice [.int .i64]] (o) none), some (.row [.int .i64] false (v)), some (.row [.int .i64] true (w.setI (0 + (a0.I (0 + k.toNat) 0).toNat) 0 (IntKind.i64.wrap (w.I (0 + (a0.I (0 + k.toNat) 0).toNat) 0 + v.I (0 + k.toNat) 0)))), some (.row [.slice [.int .i64]] false (r))]⟩) (none)) (none)) (none)) (R ⟨us 1 ++ [.slice (some ⟨0, 0, some 0⟩) (an) (0), .pointer (some ⟨1, 0, some 0⟩)] ++ us 4 ++ [.slice (some ⟨2, 0, some 0⟩) (on) (0)] ++ us 1 ++ [.slice (some ⟨3, 0, some 0⟩) (vn) (0), .slice (some ⟨4, 0, some 0⟩) (wn) (0)] ++ us 9 ++ [.slice (some ⟨5, 0, some 0⟩) (n) (0), i64 (len), i64 (jo)] ++ us 7 ++ [.slice (some ⟨0, 0, some 0⟩) (an_2) (0), i64 (lem), i64 (IntKind.i64.wrap (k + 1))] ++ us 23, [[]], [some (.row [.int .i64] false (a0)), some (.box [.slice (some ⟨5, 0, some 0⟩) (rn) (0)]), some (.deep [.slice [.int .i64]] (o) none), some (.row [.int .i64] false (v)), some (.row [.int .i64] true (w)), some (.row [.slice [.int .i64]] false (r))]⟩)) (none)) (K (.exit 2) ⟨us 1 ++ [.slice (some ⟨0, 0, some 0⟩) (an) (0), .pointer (some ⟨1, 0, some 0⟩)] ++ us 4 ++ [.slice (some ⟨2, 0, some 0⟩) (on) (0)] ++ us 2 ++ [.slice (some ⟨3, 0, some 0⟩) (wn) (0)] ++ us 9 ++ [.slice (some ⟨4, 0, some 0⟩) (n) (0), i64 (len), i64 (jo)] ++ us 33, [[]], [some (.row [.int .i64] false (a0)), some (.box [.slice (some ⟨4, 0, some 0⟩) (rn) (0)]), some (.deep [.slice [.int .i64]] (o) none), some (.row [.int .i64] true (w)), some (.row [.slice [.int .i64]] false (r))]⟩) := by kernel_rfl
theorem r_l25a (R : St → Option (List D)) (K : X → St → Option (List D)) (q : Nat) (an : Nat) (on : Nat) (n : Nat) (len : Int) (j : Int) (a0 : Row) (n_2 : Nat) (o : Row) (r : Row) : bodyOf C25 25 6 q (Go.Ev.bst p_l25a [.n an, .n on, .n n, .i len, .i j, .r a0, .n n_2, .r o, .r r]) (rnd [1, 2, 7, 20, 21, 22, 31470007] (some [4, 5, 7]) R K) =
    br (decide (j < len)) (br (decide (0 ≤ j) && decide (j < (↑n : Int))) (br (decide (0 ≤ (↑n_2 : Int)) && decide ((↑n_2 : Int) ≤ (↑n_2 : Int)) && decide ((↑n_2 : Int) ≤ 100000000000)) (br (c_l25b { an := an, on := on, vn := (r.R (0 + j.toNat) 0).n, wn := (↑n_2 : Int).toNat, n := n, len := len, jo := j, an_2 := an, lem := (↑an : Int), k := 0, a0 := a0, rn := n_2, o := o, v := r.R (0 + j.toNat) 0, w := Row.zeros (↑n_2 : Int).toNat, r := r : A_l25b }) (br (decide ({ an := an, on := on, vn := (r.R (0 + j.toNat) 0).n, wn := (↑n_2 : Int).toNat, n := n, len := len, jo := j, an_2 := an, lem := (↑an : Int), k := 0, a0 := a0, rn := n_2, o := o, v := r.R (0 + j.toNat) 0, w := Row.zeros (↑n_2 : Int).toNat, r := r : A_l25b }.on + 1 ≤ 10000000000)) (R ⟨us 1 ++ [.slice (some ⟨0, 0, some 0⟩) (an) (0), .pointer (some ⟨1, 0, some 0⟩)] ++ us 4 ++ [.slice (some ⟨2, 0, some 0⟩) (on + 1) (0)] ++ us 12 ++ [.slice (some ⟨3, 0, some 0⟩) (n) (0), i64 (len), i64 (IntKind.i64.wrap (j + 1))] ++ us 33, [[]], [some (.row [.int .i64] false (a0)), some (.box [.slice (some ⟨3, 0, some 0⟩) (n_2) (0)]), some (.deep [.slice [.int .i64]] ((winOf o 0 on).app (winOf ((Row.zeros 1).setR 0 0 (winOf (fldN (fun j_1 a => wNx { an := an, on := on, vn := (r.R (0 + j.toNat) 0).n, wn := (↑n_2 : Int).toNat, n := n, len := len, jo := j, an_2 := an, lem := (↑an : Int), k := 0, a0 := a0, rn := n_2, o := o, v := r.R (0 + j.toNat) 0, w := Row.zeros (↑n_2 : Int).toNat, r := r : A_l25b }.a0 { an := an, on := on, vn := (r.R (0 + j.toNat) 0).n, wn := (↑n_2 : Int).toNat, n := n, len := len, jo := j, an_2 := an, lem := (↑an : Int), k := 0, a0 := a0, rn := n_2, o := o, v := r.R (0 + j.toNat) 0, w := Row.zeros (↑n_2 : Int).toNat, r := r : A_l25b }.v j_1 a) an 0 (Row.zeros (↑n_2 : Int).toNat)) 0 (↑n_2 : Int).toNat)) 0 1)) none), some (.row [.slice [.int .i64]] false (r))]⟩) (none)) (none)) (none)) (none)) (K (.exit 0) ⟨us 7 ++ [.slice (some ⟨0, 0, some 0⟩) (on) (0)] ++ us 48, [[]], [some (.deep [.slice [.int .i64]] (o) none)]⟩) := by kernel_rfl
theorem u25 (r a : Row) : evF C25 6 25 [.agg [.slice ksV r], .slice ksI a] =
    br (decide ((winOf r 0 r.n).n ≤ 1000000 ∧ (winOf a 0 a.n).n ≤ 1000000)) (br (valE (winOf r 0 r.n) (winOf a 0 a.n) != 0) (some [.slice [.slice [.int .i64]] (Row.nil), .v (i64 (valE (winOf r 0 r.n) (winOf a 0 a.n)))]) (br (c_l25a { an := a.n, on := 0, n := r.n, len := (↑r.n : Int), j := 0, a0 := a, n_2 := r.n, o := Row.nil, r := r : A_l25a }) (some [.slice [.slice [.int .i64]] (winOf (fldN (fun j a_1 => vApp a_1 (winOf (wRow { an := a.n, on := 0, n := r.n, len := (↑r.n : Int), j := 0, a0 := a, n_2 := r.n, o := Row.nil, r := r : A_l25a }.a0 ({ an := a.n, on := 0, n := r.n, len := (↑r.n : Int), j := 0, a0 := a, n_2 := r.n, o := Row.nil, r := r : A_l25a }.r.R j 0) { an := a.n, on := 0, n := r.n, len := (↑r.n : Int), j := 0, a0 := a, n_2 := r.n, o := Row.nil, r := r : A_l25a }.an { an := a.n, on := 0, n := r.n, len := (↑r.n : Int), j := 0, a0 := a, n_2 := r.n, o := Row.nil, r := r : A_l25a }.n) 0 { an := a.n, on := 0, n := r.n, len := (↑r.n : Int), j := 0, a0 := a, n_2 := r.n, o := Row.nil, r := r : A_l25a }.n)) r.n 0 Row.nil) 0 (fldN (fun j a_1 => vApp a_1 (winOf (wRow { an := a.n, on := 0, n := r.n, len := (↑r.n : Int), j := 0, a0 := a, n_2 := r.n, o := Row.nil, r := r : A_l25a }.a0 ({ an := a.n, on := 0, n := r.n, len := (↑r.n : Int), j := 0, a0 := a, n_2 := r.n, o := Row.nil, r := r : A_l25a }.r.R j 0) { an := a.n, on := 0, n := r.n, len := (↑r.n : Int), j := 0, a0 := a, n_2 := r.n, o := Row.nil, r := r : A_l25a }.an { an := a.n, on := 0, n := r.n, len := (↑r.n : Int), j := 0, a0 := a, n_2 := r.n, o := Row.nil, r := r : A_l25a }.n) 0 { an := a.n, on := 0, n := r.n, len := (↑r.n : Int), j := 0, a0 := a, n_2 := r.n, o := Row.nil, r := r : A_l25a }.n)) r.n 0 Row.nil).n), .v (i64 (0))]) (none))) (none) := by kernel_rfl
set_option maxRecDepth 100000 in
theorem ok_l25b : LoopOk C25 l25b.C := l25b.ok (fun x j a => True) (by kernel_rfl)
  (fun its x h hc => by
    replace h : d_l25b its = some x := h
    unfold d_l25b at h
    split at h
    · cases h
      obtain ⟨h1, h2, h3, h4, h5, h6⟩ := c_l25b_iff.1 hc
      dsimp only at h1 h2 h3
      subst h1 h2 h3
      rfl
    · cases h)
  (fun x hc => by have := c_l25b_iff.1 hc; show x.an < 18446744073709551616; omega)
  (fun x hc => by
    trivial)
  (fun x j a hc hi hI => by
    trivial)
  (fun q ⟨an, on, vn, wn, n, len, jo, an_2, lem0, k0, a0, rn, o, v, w0, r⟩ j a hc hi hI R K => by
    obtain ⟨h1, h2, h3, h4, h5, h6⟩ := c_l25b_iff.1 hc
    dsimp only at *
    replace hi : j < an := hi
    refine (r_l25b  R K q (an) (on) (vn) (wn) (n) (len) (jo) (an) ((an : Int)) ((j : Int)) (a0) (rn) (o) (v) ((a)) (r)).trans ?_
    have h7 := h6 j hi
    rw [Int.toNat_natCast j, Nat.zero_add j, gd j an hi, ltd j an hi, wsn (by omega), gd j vn (by omega), br_true, br_true, br_true]
    rw [Nat.zero_add]
    show _ = R (Go.Ev.bst p_l25b (l25b.S _ (j + 1) (wNx a0 v j a)))
    by_cases hp : a0.I j 0 ≥ 0
    · rw [show wNx a0 v j a = a.setI (a0.I j 0).toNat 0 (IntKind.i64.wrap (a.I (a0.I j 0).toNat 0 + v.I j 0)) by unfold wNx; rw [decide_eq_true hp]; rfl, show (decide (0 ≤ a0.I j 0) && decide (a0.I j 0 < (wn : Int))) = true by simp only [Bool.and_eq_true, decide_eq_true_eq]; omega, decide_eq_true hp]
      rfl
    · rw [show wNx a0 v j a = a by unfold wNx; rw [decide_eq_false hp]; rfl, decide_eq_false hp]
      rfl)
  (fun q ⟨an, on, vn, wn, n, len, jo, an_2, lem0, k0, a0, rn, o, v, w0, r⟩ a hc hI R K => by
    obtain ⟨h1, h2, h3, h4, h5, h6⟩ := c_l25b_iff.1 hc
    dsimp only at *
    refine (r_l25b  R K q (an) (on) (vn) (wn) (n) (len) (jo) (an) ((an : Int)) ((an : Int)) (a0) (rn) (o) (v) ((a)) (r)).trans ?_
    rw [ltn an]
    rfl)
set_option maxRecDepth 100000 in
theorem ok_l25a : LoopOk C25 l25a.C := l25a.ok (fun x j a => a.n = j) (by kernel_rfl)
  (fun its x h hc => by
    replace h : d_l25a its = some x := h
    unfold d_l25a at h
    split at h
    · cases h
      obtain ⟨h1, h2, h3, h4, h5, h6, h7, h8, h9⟩ := c_l25a_iff.1 hc
      dsimp only at h1 h2 h3 h4
      subst h1 h2 h3 h4
      rfl
    · cases h)
  (fun x hc => by have := c_l25a_iff.1 hc; show x.n < 18446744073709551616; omega)
  (fun x hc => by
    exact (c_l25a_iff.1 hc).2.2.2.2.2.2.2.2)
  (fun x j a hc hi hI => by
    replace hI : a.n = j := hI
    show a.n + 1 = j + 1
    omega)
  (fun q ⟨an, on0, n, len0, j0, a0, n_2, o0, r⟩ j a hc hi hI R K => by
    obtain ⟨h1, h2, h3, h4, h5, h6, h7, h8, h9⟩ := c_l25a_iff.1 hc
    dsimp only at *
    replace hi : j < n := hi
    refine (r_l25a  R K q (an) ((a.n)) (n) ((n : Int)) ((j : Int)) (a0) (n) ((a)) (r)).trans ?_
    replace hI : a.n = j := hI
    rw [Int.toNat_natCast j, Int.toNat_natCast n, Nat.zero_add j, gd j n hi, ltd j n hi, wsn (by omega), show (decide (0 ≤ (n : Int)) && decide ((n : Int) ≤ (n : Int)) && decide ((n : Int) ≤ 100000000000)) = true by simp only [Bool.and_eq_true, decide_eq_true_eq]; omega, br_true, br_true, br_true, c_l25b_iff.2 ⟨rfl, rfl, rfl, by dsimp only; omega, h7 j hi, h8⟩, br_true, decide_eq_true (show a.n + 1 ≤ 10000000000 by omega)]
    rfl)
  (fun q ⟨an, on0, n, len0, j0, a0, n_2, o0, r⟩ a hc hI R K => by
    obtain ⟨h1, h2, h3, h4, h5, h6, h7, h8, h9⟩ := c_l25a_iff.1 hc
    dsimp only at *
    refine (r_l25a  R K q (an) ((a.n)) (n) ((n : Int)) ((n : Int)) (a0) (n) ((a)) (r)).trans ?_
    rw [ltn n]
    rfl)
theorem C25_ok : CxOk C25 := mkCx_ok enter mixed (fun p h => by
  simp only [List.mem_cons, List.not_mem_nil, or_false] at h
  rcases h with rfl
  exact den_val) (fun l h => by
  simp only [List.mem_cons, List.not_mem_nil, or_false] at h
  rcases h with rfl | rfl
  · exact ok_l25b
  · exact ok_l25a)
/-- The values of bundles. -/
def vals (r a : Row) : Row := fldN (fun j o => vApp o (winOf (wRow a (r.R j 0) a.n r.n) 0 r.n)) r.n 0 .nil
theorem vals_spec (r a : Row) : (vals r a).n = r.n ∧ ∀ i, i < r.n → (vals r a).R i 0 = winOf (wRow a (r.R i 0) a.n r.n) 0 r.n :=
  fold_inv (nx := fun j o => vApp o (winOf (wRow a (r.R j 0) a.n r.n) 0 r.n)) (Inv := fun j o => o.n = j ∧ ∀ i, i < j → o.R i 0 = winOf (wRow a (r.R i 0) a.n r.n) 0 r.n) (len := r.n) (fun j o hj hI => by
    refine ⟨by rw [← hI.1]; rfl, fun i hi => ?_⟩
    by_cases c : i = j
    · subst c; exact vApp_eq hI.1.symm
    · rw [vApp_lt (by rw [hI.1]; omega)]; exact hI.2 i (by omega)) (m := r.n) (j := 0) (a := .nil) (by omega) ⟨rfl, fun i hi => absurd hi (Nat.not_lt_zero i)⟩
def win0 (r : Row) : Row := winOf r 0 r.n
theorem win0_n (r : Row) : (win0 r).n = r.n := rfl
def valR (r a : Row) : Row := bif valE r a != 0 then .nil else win0 (vals r a)
def Fvals : List D → Option (Bool × List D)
  | [.agg [.slice [.slice [.int .i64]] r], .slice [.int .i64] a] => some (decide (r.n ≤ 1000000 ∧ a.n ≤ 1000000), [.slice [.slice [.int .i64]] (valR r a), .v (i64 (valE r a))])
  | _ => none
theorem den_vals : Den Tryz.prog 25 Fvals := evF_den C25_ok fun ds rs h => by
  unfold Fvals at h
  split at h
  · rename_i r a
    simp only [Option.some.injEq, Prod.mk.injEq] at h
    obtain ⟨h0, rfl⟩ := h
    have h0 := of_decide_eq_true h0
    refine (u25 r a).trans ?_
    unfold valR
    rw [decide_eq_true (show (winOf r 0 r.n).n ≤ 1000000 ∧ (winOf a 0 a.n).n ≤ 1000000 by rw [winOf_n, winOf_n]; exact h0), br_true]
    show br (valE r a != 0) _ _ = _
    cases c1 : valE r a != 0
    · have c1 : valE r a = 0 := by simpa using c1
      obtain ⟨h1, h2, h3⟩ := val_zero c1
      obtain ⟨h4, h5, h6⟩ := chk_zero h1
      rw [br_false, c_l25a_iff.2 ⟨rfl, rfl, rfl, rfl, h0.2, by dsimp only; omega, fun i hi => by dsimp only at hi ⊢; rw [(h6 i hi).1, h2]; exact Nat.le_refl _, fun k hk => (h3 k hk).2, rfl⟩, br_true, c1]
      rfl
    · rfl
  · cases h
end Go.Proofs.YtlfeobdfgmlmpaaGreatDoor
/- Package goods: Envies, sum, Poor: contracts. No conditions. -/
namespace Go.Proofs.YtlfeobdfgmlmpaaGreatDoor
open Go.Ev
set_option linter.all false
def pApp (o : Row) (i k : Int) : Row := (winOf o 0 o.n).app (winOf (((Row.zeros 1).setI 0 0 i).setI 0 1 k) 0 1)
def eNx (b : Row) (i : Int) (k : Nat) (o : Row) : Row := bif decide (b.I k 0 > b.I i.toNat 0) then pApp o i k else o
theorem eNx_n (b : Row) (i : Int) (k : Nat) (o : Row) : (eNx b i k o).n ≤ o.n + 1 := by
  unfold eNx
  cases decide (b.I k 0 > b.I i.toNat 0)
  · exact Nat.le_succ _
  · exact Nat.le_refl _
theorem eFold_n (b : Row) (i : Int) : ∀ (m j : Nat) (o : Row), (fldN (eNx b i) m j o).n ≤ o.n + m
  | 0, j, o => Nat.le_refl _
  | m + 1, j, o => by
    have h1 := eFold_n b i m (j + 1) (eNx b i j o)
    have h2 := eNx_n b i j o
    show (fldN (eNx b i) m (j + 1) (eNx b i j o)).n ≤ _
    omega
def p_l9b : PSt := { τ := pu 8 ++ [.v (.sl 0), .v (.int .i64), .v (.sl 1)] ++ pu 11 ++ [.v (.sl 2), .v (.int .i64), .v (.int .i64)] ++ pu 4 ++ [.v (.sl 1), .v (.int .i64), .v (.int .i64)] ++ pu 19, saved := [[]], mem := [.row [.int .i64, .int .i64] true, .bor 2 0 [.int .i64], .deep [.slice [.int .i64]]] }
structure A_l9b where
  on : Nat
  i : Int
  bn : Nat
  n : Nat
  len : Int
  jo : Int
  bn_2 : Nat
  lem : Int
  k : Int
  o : Row
  be : Nat
  b : Row
  v : Row
def d_l9b (its : List It) : Option A_l9b := match its with | [.n on, .i i, .n bn, .n n, .i len, .i jo, .n bn_2, .i lem, .i k, .r o, .n be, .r b, .r v] => some ⟨on, i, bn, n, len, jo, bn_2, lem, k, o, be, b, v⟩ | _ => none
def c_l9b (x : A_l9b) : Bool := decide (x.k = 0 ∧ x.lem = x.bn ∧ x.bn_2 = x.bn ∧ x.on = x.o.n ∧ x.bn ≤ 1000 ∧ 0 ≤ x.i ∧ x.i < (x.bn : Int) ∧ x.o.n ≤ 1000000)
theorem c_l9b_iff {x : A_l9b} : c_l9b x = true ↔ x.k = 0 ∧ x.lem = x.bn ∧ x.bn_2 = x.bn ∧ x.on = x.o.n ∧ x.bn ≤ 1000 ∧ 0 ≤ x.i ∧ x.i < (x.bn : Int) ∧ x.o.n ≤ 1000000 := by unfold c_l9b; rw [decide_eq_true_eq]
def l9b : FoldL A_l9b (Row) where
  f := 9
  id := 9
  lv := [8, 9, 10, 22, 23, 24, 29, 30, 31]
  lx := [4, 5, 8, 22, 23, 24]
  p := p_l9b
  dat := d_l9b
  S := fun x j a => [.n (a.n), .i x.i, .n x.bn, .n x.n, .i x.len, .i x.jo, .n x.bn, .i (x.bn : Int), .i (j : Int), .r (a), .n x.be, .r x.b, .r x.v]
  len := fun x => x.bn
  cnd := c_l9b
  ini := fun x => x.o
  nx := fun x j a => eNx x.b x.i j a
  Ke := fun x a K => K (.exit 2) ⟨us 8 ++ [.slice (some ⟨0, 0, some 0⟩) ((a.n)) (0)] ++ us 13 ++ [.slice (some ⟨1, 0, some 0⟩) (x.n) (0), i64 (x.len), i64 (x.jo)] ++ us 26, [[]], [some (.row [.int .i64, .int .i64] true ((a))), some (.deep [.slice [.int .i64]] (x.v) none)]⟩
def p_l9a : PSt := { τ := pu 8 ++ [.v (.sl 0)] ++ pu 13 ++ [.v (.sl 1), .v (.int .i64), .v (.int .i64)] ++ pu 26, saved := [[]], mem := [.row [.int .i64, .int .i64] true, .deep [.slice [.int .i64]]] }
structure A_l9a where
  on : Nat
  n : Nat
  len : Int
  j : Int
  o : Row
  v : Row
def d_l9a (its : List It) : Option A_l9a := match its with | [.n on, .n n, .i len, .i j, .r o, .r v] => some ⟨on, n, len, j, o, v⟩ | _ => none
def c_l9a (x : A_l9a) : Bool := decide (x.j = 0 ∧ x.len = x.n ∧ x.on = x.o.n ∧ x.n ≤ 1000 ∧ (∀ i, i < x.n → (x.v.R i 0).n = x.n) ∧ x.o.n = 0)
theorem c_l9a_iff {x : A_l9a} : c_l9a x = true ↔ x.j = 0 ∧ x.len = x.n ∧ x.on = x.o.n ∧ x.n ≤ 1000 ∧ (∀ i, i < x.n → (x.v.R i 0).n = x.n) ∧ x.o.n = 0 := by unfold c_l9a; rw [decide_eq_true_eq]
def l9a : FoldL A_l9a (Row) where
  f := 9
  id := 6
  lv := [8, 22, 23, 24, 680008]
  lx := [4, 5, 8]
  p := p_l9a
  dat := d_l9a
  S := fun x j a => [.n (a.n), .n x.n, .i (x.n : Int), .i (j : Int), .r (a), .r x.v]
  len := fun x => x.n
  cnd := c_l9a
  ini := fun x => x.o
  nx := fun x j a => fldN (eNx (x.v.R j 0) (j : Int)) (x.v.R j 0).n 0 a
  Ke := fun x a K => K (.exit 0) ⟨us 8 ++ [.slice (some ⟨0, 0, some 0⟩) ((a.n)) (0)] ++ us 42, [[]], [some (.row [.int .i64, .int .i64] true ((a)))]⟩
def p_l26 : PSt := { τ := pu 3 ++ [.v (.int .i64)] ++ pu 2 ++ [.v (.sl 0), .v (.int .i64), .v (.int .i64)] ++ pu 8, saved := [[]], mem := [.row [.int .i64] false] }
structure A_l26 where
  s : Int
  n : Nat
  len : Int
  j : Int
  r : Row
def d_l26 (its : List It) : Option A_l26 := match its with | [.i s, .n n, .i len, .i j, .r r] => some ⟨s, n, len, j, r⟩ | _ => none
def c_l26 (x : A_l26) : Bool := decide (x.j = 0 ∧ x.len = x.n ∧ x.n ≤ 1000000)
theorem c_l26_iff {x : A_l26} : c_l26 x = true ↔ x.j = 0 ∧ x.len = x.n ∧ x.n ≤ 1000000 := by unfold c_l26; rw [decide_eq_true_eq]
def l26 : FoldL A_l26 (Int) where
  f := 26
  id := 3
  lv := [3, 6, 7, 8]
  lx := [2, 3]
  p := p_l26
  dat := d_l26
  S := fun x j a => [.i (a), .n x.n, .i (x.n : Int), .i (j : Int), .r x.r]
  len := fun x => x.n
  cnd := c_l26
  ini := fun x => x.s
  nx := fun x j a => IntKind.i64.wrap (a + x.r.I j 0)
  Ke := fun x a K => K (.exit 0) ⟨us 3 ++ [i64 ((a))] ++ us 13, [[]], []⟩
def suI (r : Row) : Int := fldN (fun j a => IntKind.i64.wrap (a + r.I j 0)) r.n 0 0
def Fsum : List D → Option (Bool × List D)
  | [.slice [.int .i64] r] => some (decide (r.n ≤ 1000000), [.v (i64 (suI r))])
  | _ => none
def sApp (o : Row) (i : Int) : Row := (winOf o 0 o.n).app (winOf ((Row.zeros 1).setI 0 0 i) 0 1)
def poNx (v r : Row) (n j : Nat) (o : Row) : Row := if IntKind.i64.wrap ((v.R j 0).I j 0 * (n : Int)) < suI (r.R j 0) then sApp o (j : Int) else o
def p_l10 : PSt := { τ := pu 2 ++ [.v (.c (.pointer (some ⟨0, 0, some 0⟩)))] ++ pu 3 ++ [.v (.sl 1)] ++ pu 1 ++ [.v (.sl 2)] ++ pu 11 ++ [.v (.sl 1), .v (.int .i64), .v (.int .i64)] ++ pu 24, saved := [[]], mem := [.box [.v (.sl 3)], .deep [.slice [.int .i64]], .row [.int .i64] true, .row [.slice [.int .i64]] false] }
structure A_l10 where
  n : Nat
  on : Nat
  n_2 : Nat
  len : Int
  j : Int
  rn : Nat
  v : Row
  o : Row
  r : Row
def d_l10 (its : List It) : Option A_l10 := match its with | [.n n, .n on, .n n_2, .i len, .i j, .n rn, .r v, .r o, .r r] => some ⟨n, on, n_2, len, j, rn, v, o, r⟩ | _ => none
def c_l10 (x : A_l10) : Bool := decide (x.j = 0 ∧ x.len = x.n ∧ x.n_2 = x.n ∧ x.on = x.o.n ∧ x.n ≤ 1000 ∧ (∀ i, i < x.n → x.n ≤ (x.v.R i 0).n) ∧ x.n ≤ x.rn ∧ (∀ i, i < x.n → (x.r.R i 0).n ≤ 1000000) ∧ x.o.n = 0)
theorem c_l10_iff {x : A_l10} : c_l10 x = true ↔ x.j = 0 ∧ x.len = x.n ∧ x.n_2 = x.n ∧ x.on = x.o.n ∧ x.n ≤ 1000 ∧ (∀ i, i < x.n → x.n ≤ (x.v.R i 0).n) ∧ x.n ≤ x.rn ∧ (∀ i, i < x.n → (x.r.R i 0).n ≤ 1000000) ∧ x.o.n = 0 := by unfold c_l10; rw [decide_eq_true_eq]
def l10 : FoldL A_l10 (Row) where
  f := 10
  id := 6
  lv := [2, 6, 8, 20, 21, 22, 40008]
  lx := [4, 5, 8]
  p := p_l10
  dat := d_l10
  S := fun x j a => [.n x.n, .n (a.n), .n x.n, .i (x.n : Int), .i (j : Int), .n x.rn, .r x.v, .r (a), .r x.r]
  len := fun x => x.n
  cnd := c_l10
  ini := fun x => x.o
  nx := fun x j a => poNx x.v x.r x.n j a
  Ke := fun x a K => K (.exit 0) ⟨us 8 ++ [.slice (some ⟨0, 0, some 0⟩) ((a.n)) (0)] ++ us 38, [[]], [some (.row [.int .i64] true ((a)))]⟩
noncomputable def C9 : Cx := mkCx Tryz.prog fns [(25, Fvals)] [l9b.C, l9a.C]
noncomputable def C26 : Cx := mkCx Tryz.prog fns [] [l26.C]
noncomputable def C10 : Cx := mkCx Tryz.prog fns [(25, Fvals), (26, Fsum)] [l10.C]
theorem r_l9b (R : St → Option (List D)) (K : X → St → Option (List D)) (q : Nat) (on : Nat) (i : Int) (bn : Nat) (n : Nat) (len : Int) (jo : Int) (bn_2 : Nat) (lem : Int) (k : Int) (o : Row) (be : Nat) (b : Row) (v : Row) : bodyOf C9 9 9 q (Go.Ev.bst p_l9b [.n on, .i i, .n bn, .n n, .i len, .i jo, .n bn_2, .i lem, .i k, .r o, .n be, .r b, .r v]) (rnd [8, 9, 10, 22, 23, 24, 29, 30, 31] (some [4, 5, 8, 22, 23, 24]) R K) =
    br (decide (k < lem)) (br (decide (0 ≤ k) && decide (k < (↑bn_2 : Int))) (br (decide (0 ≤ i) && decide (i < (↑bn : Int))) (br (decide (b.I (0 + k.toNat) 0 > b.I (0 + i.toNat) 0)) (br (decide (on + (winOf (((Row.zeros 1).setI 0 0 i).setI 0 1 k) 0 1).n ≤ 10000000000)) (R ⟨us 8 ++ [.slice (some ⟨0, 0, some 0⟩) (on + 1) (0), i64 (i), .slice (some ⟨1, 0, some 0⟩) (bn) (0)] ++ us 11 ++ [.slice (some ⟨2, 0, some 0⟩) (n) (0), i64 (len), i64 (jo)] ++ us 4 ++ [.slice (some ⟨1, 0, some 0⟩) (bn_2) (0), i64 (lem), i64 (IntKind.i64.wrap (k + 1))] ++ us 19, [[]], [some (.row [.int .i64, .int .i64] true ((winOf o 0 on).app (winOf (((Row.zeros 1).setI 0 0 i).setI 0 1 k) 0 1))), some (.bor 2 (be) 0 [.int .i64] (b)), some (.deep [.slice [.int .i64]] (v) none)]⟩) (none)) (R ⟨us 8 ++ [.slice (some ⟨0, 0, some 0⟩) (on) (0), i64 (i), .slice (some ⟨1, 0, some 0⟩) (bn) (0)] ++ us 11 ++ [.slice (some ⟨2, 0, some 0⟩) (n) (0), i64 (len), i64 (jo)] ++ us 4 ++ [.slice (some ⟨1, 0, some 0⟩) (bn_2) (0), i64 (lem), i64 (IntKind.i64.wrap (k + 1))] ++ us 19, [[]], [some (.row [.int .i64, .int .i64] true (o)), some (.bor 2 (be) 0 [.int .i64] (b)), some (.deep [.slice [.int .i64]] (v) none)]⟩)) (none)) (none)) (K (.exit 2) ⟨us 8 ++ [.slice (some ⟨0, 0, some 0⟩) (on) (0)] ++ us 13 ++ [.slice (some ⟨1, 0, some 0⟩) (n) (0), i64 (len), i64 (jo)] ++ us 26, [[]], [some (.row [.int .i64, .int .i64] true (o)), some (.deep [.slice [.int .i64]] (v) none)]⟩) := by kernel_rfl
theorem r_l9a (R : St → Option (List D)) (K : X → St → Option (List D)) (q : Nat) (on : Nat) (n : Nat) (len : Int) (j : Int) (o : Row) (v : Row) : bodyOf C9 9 6 q (Go.Ev.bst p_l9a [.n on, .n n, .i len, .i j, .r o, .r v]) (rnd [8, 22, 23, 24, 680008] (some [4, 5, 8]) R K) =
    br (decide (j < len)) (br (decide (0 ≤ j) && decide (j < (↑n : Int))) (br (c_l9b { on := on, i := j, bn := (v.R (0 + j.toNat) 0).n, n := n, len := len, jo := j, bn_2 := (v.R (0 + j.toNat) 0).n, lem := (↑(v.R (0 + j.toNat) 0).n : Int), k := 0, o := o, be := 0 + j.toNat, b := v.R (0 + j.toNat) 0, v := v : A_l9b }) (R ⟨us 8 ++ [.slice (some ⟨0, 0, some 0⟩) ((fldN (fun j_1 a => eNx { on := on, i := j, bn := (v.R (0 + j.toNat) 0).n, n := n, len := len, jo := j, bn_2 := (v.R (0 + j.toNat) 0).n, lem := (↑(v.R (0 + j.toNat) 0).n : Int), k := 0, o := o, be := 0 + j.toNat, b := v.R (0 + j.toNat) 0, v := v : A_l9b }.b { on := on, i := j, bn := (v.R (0 + j.toNat) 0).n, n := n, len := len, jo := j, bn_2 := (v.R (0 + j.toNat) 0).n, lem := (↑(v.R (0 + j.toNat) 0).n : Int), k := 0, o := o, be := 0 + j.toNat, b := v.R (0 + j.toNat) 0, v := v : A_l9b }.i j_1 a) (v.R (0 + j.toNat) 0).n 0 o).n) (0)] ++ us 13 ++ [.slice (some ⟨1, 0, some 0⟩) (n) (0), i64 (len), i64 (IntKind.i64.wrap (j + 1))] ++ us 26, [[]], [some (.row [.int .i64, .int .i64] true (fldN (fun j_1 a => eNx { on := on, i := j, bn := (v.R (0 + j.toNat) 0).n, n := n, len := len, jo := j, bn_2 := (v.R (0 + j.toNat) 0).n, lem := (↑(v.R (0 + j.toNat) 0).n : Int), k := 0, o := o, be := 0 + j.toNat, b := v.R (0 + j.toNat) 0, v := v : A_l9b }.b { on := on, i := j, bn := (v.R (0 + j.toNat) 0).n, n := n, len := len, jo := j, bn_2 := (v.R (0 + j.toNat) 0).n, lem := (↑(v.R (0 + j.toNat) 0).n : Int), k := 0, o := o, be := 0 + j.toNat, b := v.R (0 + j.toNat) 0, v := v : A_l9b }.i j_1 a) (v.R (0 + j.toNat) 0).n 0 o)), some (.deep [.slice [.int .i64]] (v) none)]⟩) (none)) (none)) (K (.exit 0) ⟨us 8 ++ [.slice (some ⟨0, 0, some 0⟩) (on) (0)] ++ us 42, [[]], [some (.row [.int .i64, .int .i64] true (o))]⟩) := by kernel_rfl
theorem r_l26 (R : St → Option (List D)) (K : X → St → Option (List D)) (q : Nat) (s : Int) (n : Nat) (len : Int) (j : Int) (r : Row) : bodyOf C26 26 3 q (Go.Ev.bst p_l26 [.i s, .n n, .i len, .i j, .r r]) (rnd [3, 6, 7, 8] (some [2, 3]) R K) =
    br (decide (j < len)) (br (decide (0 ≤ j) && decide (j < (↑n : Int))) (R ⟨us 3 ++ [i64 (IntKind.i64.wrap (s + r.I (0 + j.toNat) 0))] ++ us 2 ++ [.slice (some ⟨0, 0, some 0⟩) (n) (0), i64 (len), i64 (IntKind.i64.wrap (j + 1))] ++ us 8, [[]], [some (.row [.int .i64] false (r))]⟩) (none)) (K (.exit 0) ⟨us 3 ++ [i64 (s)] ++ us 13, [[]], []⟩) := by kernel_rfl
theorem r_l10 (R : St → Option (List D)) (K : X → St → Option (List D)) (q : Nat) (n : Nat) (on : Nat) (n_2 : Nat) (len : Int) (j : Int) (rn : Nat) (v : Row) (o : Row) (r : Row) : bodyOf C10 10 6 q (Go.Ev.bst p_l10 [.n n, .n on, .n n_2, .i len, .i j, .n rn, .r v, .r o, .r r]) (rnd [2, 6, 8, 20, 21, 22, 40008] (some [4, 5, 8]) R K) =
    br (decide (j < len)) (br (decide (0 ≤ j) && decide (j < (↑n_2 : Int))) (br (decide (0 ≤ j) && decide (j < (↑(v.R (0 + j.toNat) 0).n : Int))) (br (decide (0 ≤ j) && decide (j < (↑rn : Int))) (br (decide ((winOf (r.R (0 + j.toNat) 0) 0 (r.R (0 + j.toNat) 0).n).n ≤ 1000000)) (br (decide (IntKind.i64.wrap ((v.R (0 + j.toNat) 0).I (0 + j.toNat) 0 * (↑n : Int)) < suI (winOf (r.R (0 + j.toNat) 0) 0 (r.R (0 + j.toNat) 0).n))) (br (decide (on + (winOf ((Row.zeros 1).setI 0 0 j) 0 1).n ≤ 10000000000)) (R ⟨us 2 ++ [.pointer (some ⟨0, 0, some 0⟩)] ++ us 3 ++ [.slice (some ⟨1, 0, some 0⟩) (n) (0)] ++ us 1 ++ [.slice (some ⟨2, 0, some 0⟩) (on + 1) (0)] ++ us 11 ++ [.slice (some ⟨1, 0, some 0⟩) (n_2) (0), i64 (len), i64 (IntKind.i64.wrap (j + 1))] ++ us 24, [[]], [some (.box [.slice (some ⟨3, 0, some 0⟩) (rn) (0)]), some (.deep [.slice [.int .i64]] (v) none), some (.row [.int .i64] true ((winOf o 0 on).app (winOf ((Row.zeros 1).setI 0 0 j) 0 1))), some (.row [.slice [.int .i64]] false (r))]⟩) (none)) (R ⟨us 2 ++ [.pointer (some ⟨0, 0, some 0⟩)] ++ us 3 ++ [.slice (some ⟨1, 0, some 0⟩) (n) (0)] ++ us 1 ++ [.slice (some ⟨2, 0, some 0⟩) (on) (0)] ++ us 11 ++ [.slice (some ⟨1, 0, some 0⟩) (n_2) (0), i64 (len), i64 (IntKind.i64.wrap (j + 1))] ++ us 24, [[]], [some (.box [.slice (some ⟨3, 0, some 0⟩) (rn) (0)]), some (.deep [.slice [.int .i64]] (v) none), some (.row [.int .i64] true (o)), some (.row [.slice [.int .i64]] false (r))]⟩)) (none)) (none)) (none)) (none)) (K (.exit 0) ⟨us 8 ++ [.slice (some ⟨0, 0, some 0⟩) (on) (0)] ++ us 38, [[]], [some (.row [.int .i64] true (o))]⟩) := by kernel_rfl
theorem u9 (r a : Row) : evF C9 6 9 [.agg [.slice ksV r], .slice ksI a] =
    br (decide ((winOf r 0 r.n).n ≤ 1000000 ∧ (winOf a 0 a.n).n ≤ 1000000)) (br (valE (winOf r 0 r.n) (winOf a 0 a.n) != 0) (some [.slice [.int .i64, .int .i64] (Row.nil), .v (i64 (valE (winOf r 0 r.n) (winOf a 0 a.n)))]) (br (c_l9a { on := 0, n := (valR (winOf r 0 r.n) (winOf a 0 a.n)).n, len := (↑(valR (winOf r 0 r.n) (winOf a 0 a.n)).n : Int), j := 0, o := Row.nil, v := valR (winOf r 0 r.n) (winOf a 0 a.n) : A_l9a }) (some [.slice [.int .i64, .int .i64] (winOf (fldN (fun j a_1 => fldN (eNx ({ on := 0, n := (valR (winOf r 0 r.n) (winOf a 0 a.n)).n, len := (↑(valR (winOf r 0 r.n) (winOf a 0 a.n)).n : Int), j := 0, o := Row.nil, v := valR (winOf r 0 r.n) (winOf a 0 a.n) : A_l9a }.v.R j 0) (↑j : Int)) ({ on := 0, n := (valR (winOf r 0 r.n) (winOf a 0 a.n)).n, len := (↑(valR (winOf r 0 r.n) (winOf a 0 a.n)).n : Int), j := 0, o := Row.nil, v := valR (winOf r 0 r.n) (winOf a 0 a.n) : A_l9a }.v.R j 0).n 0 a_1) (valR (winOf r 0 r.n) (winOf a 0 a.n)).n 0 Row.nil) 0 (fldN (fun j a_1 => fldN (eNx ({ on := 0, n := (valR (winOf r 0 r.n) (winOf a 0 a.n)).n, len := (↑(valR (winOf r 0 r.n) (winOf a 0 a.n)).n : Int), j := 0, o := Row.nil, v := valR (winOf r 0 r.n) (winOf a 0 a.n) : A_l9a }.v.R j 0) (↑j : Int)) ({ on := 0, n := (valR (winOf r 0 r.n) (winOf a 0 a.n)).n, len := (↑(valR (winOf r 0 r.n) (winOf a 0 a.n)).n : Int), j := 0, o := Row.nil, v := valR (winOf r 0 r.n) (winOf a 0 a.n) : A_l9a }.v.R j 0).n 0 a_1) (valR (winOf r 0 r.n) (winOf a 0 a.n)).n 0 Row.nil).n), .v (i64 (0))]) (none))) (none) := by kernel_rfl
theorem u26 (r : Row) : evF C26 6 26 [.slice ksI r] =
    br (c_l26 { s := 0, n := r.n, len := (↑r.n : Int), j := 0, r := r : A_l26 }) (some [.v (i64 (fldN (fun j a => IntKind.i64.wrap (a + { s := 0, n := r.n, len := (↑r.n : Int), j := 0, r := r : A_l26 }.r.I j 0)) r.n 0 0))]) (none) := by kernel_rfl
theorem u10 (r a : Row) : evF C10 6 10 [.agg [.slice ksV r], .slice ksI a] =
    br (decide ((winOf r 0 r.n).n ≤ 1000000 ∧ (winOf a 0 a.n).n ≤ 1000000)) (br (valE (winOf r 0 r.n) (winOf a 0 a.n) != 0) (some [.slice [.int .i64] (Row.nil), .v (i64 (valE (winOf r 0 r.n) (winOf a 0 a.n)))]) (br (c_l10 { n := (valR (winOf r 0 r.n) (winOf a 0 a.n)).n, on := 0, n_2 := (valR (winOf r 0 r.n) (winOf a 0 a.n)).n, len := (↑(valR (winOf r 0 r.n) (winOf a 0 a.n)).n : Int), j := 0, rn := r.n, v := valR (winOf r 0 r.n) (winOf a 0 a.n), o := Row.nil, r := r : A_l10 }) (some [.slice [.int .i64] (winOf (fldN (fun j a_1 => poNx { n := (valR (winOf r 0 r.n) (winOf a 0 a.n)).n, on := 0, n_2 := (valR (winOf r 0 r.n) (winOf a 0 a.n)).n, len := (↑(valR (winOf r 0 r.n) (winOf a 0 a.n)).n : Int), j := 0, rn := r.n, v := valR (winOf r 0 r.n) (winOf a 0 a.n), o := Row.nil, r := r : A_l10 }.v { n := (valR (winOf r 0 r.n) (winOf a 0 a.n)).n, on := 0, n_2 := (valR (winOf r 0 r.n) (winOf a 0 a.n)).n, len := (↑(valR (winOf r 0 r.n) (winOf a 0 a.n)).n : Int), j := 0, rn := r.n, v := valR (winOf r 0 r.n) (winOf a 0 a.n), o := Row.nil, r := r : A_l10 }.r { n := (valR (winOf r 0 r.n) (winOf a 0 a.n)).n, on := 0, n_2 := (valR (winOf r 0 r.n) (winOf a 0 a.n)).n, len := (↑(valR (winOf r 0 r.n) (winOf a 0 a.n)).n : Int), j := 0, rn := r.n, v := valR (winOf r 0 r.n) (winOf a 0 a.n), o := Row.nil, r := r : A_l10 }.n j a_1) (valR (winOf r 0 r.n) (winOf a 0 a.n)).n 0 Row.nil) 0 (fldN (fun j a_1 => poNx { n := (valR (winOf r 0 r.n) (winOf a 0 a.n)).n, on := 0, n_2 := (valR (winOf r 0 r.n) (winOf a 0 a.n)).n, len := (↑(valR (winOf r 0 r.n) (winOf a 0 a.n)).n : Int), j := 0, rn := r.n, v := valR (winOf r 0 r.n) (winOf a 0 a.n), o := Row.nil, r := r : A_l10 }.v { n := (valR (winOf r 0 r.n) (winOf a 0 a.n)).n, on := 0, n_2 := (valR (winOf r 0 r.n) (winOf a 0 a.n)).n, len := (↑(valR (winOf r 0 r.n) (winOf a 0 a.n)).n : Int), j := 0, rn := r.n, v := valR (winOf r 0 r.n) (winOf a 0 a.n), o := Row.nil, r := r : A_l10 }.r { n := (valR (winOf r 0 r.n) (winOf a 0 a.n)).n, on := 0, n_2 := (valR (winOf r 0 r.n) (winOf a 0 a.n)).n, len := (↑(valR (winOf r 0 r.n) (winOf a 0 a.n)).n : Int), j := 0, rn := r.n, v := valR (winOf r 0 r.n) (winOf a 0 a.n), o := Row.nil, r := r : A_l10 }.n j a_1) (valR (winOf r 0 r.n) (winOf a 0 a.n)).n 0 Row.nil).n), .v (i64 (0))]) (none))) (none) := by kernel_rfl
set_option maxRecDepth 100000 in
theorem ok_l9b : LoopOk C9 l9b.C := l9b.ok (fun x j a => a.n ≤ 1000000 + j) (by kernel_rfl)
  (fun its x h hc => by
    replace h : d_l9b its = some x := h
    unfold d_l9b at h
    split at h
    · cases h
      obtain ⟨h1, h2, h3, h4, h5, h6, h7, h8⟩ := c_l9b_iff.1 hc
      dsimp only at h1 h2 h3 h4
      subst h1 h2 h3 h4
      rfl
    · cases h)
  (fun x hc => by have := c_l9b_iff.1 hc; show x.bn < 18446744073709551616; omega)
  (fun x hc => by
    exact (c_l9b_iff.1 hc).2.2.2.2.2.2.2)
  (fun x j a hc hi hI => by
    replace hI : a.n ≤ 1000000 + j := hI
    have := eNx_n x.b x.i j a
    show (eNx x.b x.i j a).n ≤ 1000000 + (j + 1)
    omega)
  (fun q ⟨on0, i, bn, n, len, jo, bn_2, lem0, k0, o0, be, b, v⟩ j a hc hi hI R K => by
    obtain ⟨h1, h2, h3, h4, h5, h6, h7, h8⟩ := c_l9b_iff.1 hc
    dsimp only at *
    replace hi : j < bn := hi
    refine (r_l9b  R K q ((a.n)) (i) (bn) (n) (len) (jo) (bn) ((bn : Int)) ((j : Int)) ((a)) (be) (b) (v)).trans ?_
    replace hI : a.n ≤ 1000000 + j := hI
    rw [Int.toNat_natCast j, Nat.zero_add j, gd j bn hi, ltd j bn hi, wsn (by omega), show (decide (0 ≤ i) && decide (i < (bn : Int))) = true by simp only [Bool.and_eq_true, decide_eq_true_eq]; omega, decide_eq_true (show a.n + (winOf (((Row.zeros 1).setI 0 0 i).setI 0 1 (j : Int)) 0 1).n ≤ 10000000000 from (by show a.n + 1 ≤ 10000000000; omega)), br_true, br_true, br_true, br_true]
    show _ = R (Go.Ev.bst p_l9b (l9b.S _ (j + 1) (eNx b i j a)))
    rw [Nat.zero_add]
    unfold eNx
    cases decide (b.I j 0 > b.I i.toNat 0) <;> rfl)
  (fun q ⟨on0, i, bn, n, len, jo, bn_2, lem0, k0, o0, be, b, v⟩ a hc hI R K => by
    obtain ⟨h1, h2, h3, h4, h5, h6, h7, h8⟩ := c_l9b_iff.1 hc
    dsimp only at *
    refine (r_l9b  R K q ((a.n)) (i) (bn) (n) (len) (jo) (bn) ((bn : Int)) ((bn : Int)) ((a)) (be) (b) (v)).trans ?_
    rw [ltn bn]
    rfl)
set_option maxRecDepth 100000 in
theorem ok_l9a : LoopOk C9 l9a.C := l9a.ok (fun x j a => a.n ≤ x.n * j) (by kernel_rfl)
  (fun its x h hc => by
    replace h : d_l9a its = some x := h
    unfold d_l9a at h
    split at h
    · cases h
      obtain ⟨h1, h2, h3, h4, h5, h6⟩ := c_l9a_iff.1 hc
      dsimp only at h1 h2 h3
      subst h1 h2 h3
      rfl
    · cases h)
  (fun x hc => by have := c_l9a_iff.1 hc; show x.n < 18446744073709551616; omega)
  (fun x hc => by
    show x.o.n ≤ x.n * 0; rw [(c_l9a_iff.1 hc).2.2.2.2.2]; exact Nat.zero_le _)
  (fun x j a hc hi hI => by
    replace hI : a.n ≤ x.n * j := hI
    obtain ⟨h1, h2, h3, h4, h5, h6⟩ := c_l9a_iff.1 hc
    have := eFold_n (x.v.R j 0) (j : Int) (x.v.R j 0).n 0 a
    rw [h5 j hi] at this
    show (fldN (eNx (x.v.R j 0) (j : Int)) (x.v.R j 0).n 0 a).n ≤ x.n * (j + 1)
    rw [h5 j hi, Nat.mul_add, Nat.mul_one]
    omega)
  (fun q ⟨on0, n, len0, j0, o0, v⟩ j a hc hi hI R K => by
    obtain ⟨h1, h2, h3, h4, h5, h6⟩ := c_l9a_iff.1 hc
    dsimp only at *
    replace hi : j < n := hi
    refine (r_l9a  R K q ((a.n)) (n) ((n : Int)) ((j : Int)) ((a)) (v)).trans ?_
    replace hI : a.n ≤ n * j := hI
    have h7 := h5 j hi
    have h8 : n * j ≤ 1000 * 1000 := Nat.mul_le_mul h4 (by omega)
    rw [Int.toNat_natCast j, Nat.zero_add j, gd j n hi, ltd j n hi, wsn (by omega), br_true, br_true, c_l9b_iff.2 ⟨rfl, rfl, rfl, rfl, by dsimp only; omega, by dsimp only; omega, by dsimp only; omega, by dsimp only; omega⟩, br_true]
    rfl)
  (fun q ⟨on0, n, len0, j0, o0, v⟩ a hc hI R K => by
    obtain ⟨h1, h2, h3, h4, h5, h6⟩ := c_l9a_iff.1 hc
    dsimp only at *
    refine (r_l9a  R K q ((a.n)) (n) ((n : Int)) ((n : Int)) ((a)) (v)).trans ?_
    rw [ltn n]
    rfl)
set_option maxRecDepth 100000 in
theorem ok_l26 : LoopOk C26 l26.C := l26.ok (fun x j a => True) (by kernel_rfl)
  (fun its x h hc => by
    replace h : d_l26 its = some x := h
    unfold d_l26 at h
    split at h
    · cases h
      obtain ⟨h1, h2, h3⟩ := c_l26_iff.1 hc
      dsimp only at h1 h2
      subst h1 h2
      rfl
    · cases h)
  (fun x hc => by have := c_l26_iff.1 hc; show x.n < 18446744073709551616; omega)
  (fun x hc => by
    trivial)
  (fun x j a hc hi hI => by
    trivial)
  (fun q ⟨s0, n, len0, j0, r⟩ j a hc hi hI R K => by
    obtain ⟨h1, h2, h3⟩ := c_l26_iff.1 hc
    dsimp only at *
    replace hi : j < n := hi
    refine (r_l26  R K q ((a)) (n) ((n : Int)) ((j : Int)) (r)).trans ?_
    rw [Int.toNat_natCast, Nat.zero_add j, gd j n hi, ltd j n hi, wsn (by omega)]
    rfl)
  (fun q ⟨s0, n, len0, j0, r⟩ a hc hI R K => by
    obtain ⟨h1, h2, h3⟩ := c_l26_iff.1 hc
    dsimp only at *
    refine (r_l26  R K q ((a)) (n) ((n : Int)) ((n : Int)) (r)).trans ?_
    rw [ltn n]
    rfl)
theorem C26_ok : CxOk C26 := mkCx_ok enter mixed (fun p h => by cases h) (fun l h => by
  simp only [List.mem_cons, List.not_mem_nil, or_false] at h
  rcases h with rfl
  exact ok_l26)
theorem den_sum : Den Tryz.prog 26 Fsum := evF_den C26_ok fun ds rs h => by
  unfold Fsum at h
  split at h
  · rename_i r
    simp only [Option.some.injEq, Prod.mk.injEq] at h
    obtain ⟨h0, rfl⟩ := h
    have h0 := of_decide_eq_true h0
    refine (u26 r).trans ?_
    rw [c_l26_iff.2 ⟨rfl, rfl, h0⟩, br_true]
    rfl
  · cases h
set_option maxRecDepth 100000 in
theorem ok_l10 : LoopOk C10 l10.C := l10.ok (fun x j a => a.n ≤ j) (by kernel_rfl)
  (fun its x h hc => by
    replace h : d_l10 its = some x := h
    unfold d_l10 at h
    split at h
    · cases h
      obtain ⟨h1, h2, h3, h4, h5, h6, h7, h8, h9⟩ := c_l10_iff.1 hc
      dsimp only at h1 h2 h3 h4
      subst h1 h2 h3 h4
      rfl
    · cases h)
  (fun x hc => by have := c_l10_iff.1 hc; show x.n < 18446744073709551616; omega)
  (fun x hc => by
    exact Nat.le_of_eq (c_l10_iff.1 hc).2.2.2.2.2.2.2.2)
  (fun x j a hc hi hI => by
    replace hI : a.n ≤ j := hI
    show (poNx x.v x.r x.n j a).n ≤ j + 1
    unfold poNx
    split
    · show a.n + 1 ≤ j + 1
      omega
    · omega)
  (fun q ⟨n, on0, n_2, len0, j0, rn, v, o0, r⟩ j a hc hi hI R K => by
    obtain ⟨h1, h2, h3, h4, h5, h6, h7, h8, h9⟩ := c_l10_iff.1 hc
    dsimp only at *
    replace hi : j < n := hi
    refine (r_l10  R K q (n) ((a.n)) (n) ((n : Int)) ((j : Int)) (rn) (v) ((a)) (r)).trans ?_
    replace hI : a.n ≤ j := hI
    have h10 := h6 j hi
    have h11 := h8 j hi
    rw [Int.toNat_natCast j, Nat.zero_add j, gd j n hi, ltd j n hi, wsn (by omega), gd j (v.R j 0).n (by omega), gd j rn (by omega), decide_eq_true (show (winOf (r.R j 0) 0 (r.R j 0).n).n ≤ 1000000 by rw [winOf_n]; exact h11), decide_eq_true (show a.n + (winOf ((Row.zeros 1).setI 0 0 (j : Int)) 0 1).n ≤ 10000000000 from (by show a.n + 1 ≤ 10000000000; omega)), br_true, br_true, br_true, br_true, br_true, br_true]
    show _ = R (Go.Ev.bst p_l10 (l10.S _ (j + 1) (poNx v r n j a)))
    by_cases hp : IntKind.i64.wrap ((v.R j 0).I j 0 * (n : Int)) < suI (r.R j 0)
    · rw [show poNx v r n j a = sApp a (j : Int) from if_pos hp, decide_eq_true (show IntKind.i64.wrap ((v.R j 0).I j 0 * (n : Int)) < suI (winOf (r.R j 0) 0 (r.R j 0).n) from hp)]
      rfl
    · rw [show poNx v r n j a = a from if_neg hp, decide_eq_false (show ¬ IntKind.i64.wrap ((v.R j 0).I j 0 * (n : Int)) < suI (winOf (r.R j 0) 0 (r.R j 0).n) from hp)]
      rfl)
  (fun q ⟨n, on0, n_2, len0, j0, rn, v, o0, r⟩ a hc hI R K => by
    obtain ⟨h1, h2, h3, h4, h5, h6, h7, h8, h9⟩ := c_l10_iff.1 hc
    dsimp only at *
    refine (r_l10  R K q (n) ((a.n)) (n) ((n : Int)) ((n : Int)) (rn) (v) ((a)) (r)).trans ?_
    rw [ltn n]
    rfl)
theorem C9_ok : CxOk C9 := mkCx_ok enter mixed (fun p h => by
  simp only [List.mem_cons, List.not_mem_nil, or_false] at h
  rcases h with rfl
  exact den_vals) (fun l h => by
  simp only [List.mem_cons, List.not_mem_nil, or_false] at h
  rcases h with rfl | rfl
  · exact ok_l9b
  · exact ok_l9a)
theorem C10_ok : CxOk C10 := mkCx_ok enter mixed (fun p h => by
  simp only [List.mem_cons, List.not_mem_nil, or_false] at h
  rcases h with rfl | rfl
  · exact den_vals
  · exact den_sum) (fun l h => by
  simp only [List.mem_cons, List.not_mem_nil, or_false] at h
  rcases h with rfl
  exact ok_l10)
/-- Who envies whom. -/
def enR (v : Row) : Row := fldN (fun j a => fldN (eNx (v.R j 0) (j : Int)) (v.R j 0).n 0 a) v.n 0 .nil
/-- All pairs lie within n and n. -/
def InR (n : Nat) (o : Row) : Prop := ∀ e, e < o.n → 0 ≤ o.I e 0 ∧ o.I e 0 < (n : Int) ∧ 0 ≤ o.I e 1 ∧ o.I e 1 < (n : Int)
theorem pApp_I {o : Row} {i k : Int} {e : Nat} (he : e < o.n + 1) : ((pApp o i k).I e 0 = if e < o.n then o.I e 0 else i) ∧ ((pApp o i k).I e 1 = if e < o.n then o.I e 1 else k) := by
  have h0 : ∀ j, (pApp o i k).I e j = (bif Nat.blt e o.n then o.I e j else (((Row.zeros 1).setI 0 0 i).setI 0 1 k).I (e - o.n) j) := fun j => rfl
  by_cases c : e < o.n
  · rw [h0, h0, show Nat.blt e o.n = true by rw [Nat.blt_eq]; exact c, if_pos c, if_pos c]
    exact ⟨rfl, rfl⟩
  · have : e - o.n = 0 := by omega
    rw [h0, h0, show Nat.blt e o.n = false from Bool.eq_false_iff.2 (by rw [Ne, Nat.blt_eq]; exact c), if_neg c, if_neg c, this]
    exact ⟨rfl, rfl⟩
theorem eNx_in {n : Nat} {b : Row} {i k : Nat} {o : Row} (hi : i < n) (hk : k < n) (h : InR n o) : InR n (eNx b (i : Int) k o) := by
  unfold eNx
  cases decide (b.I k 0 > b.I (i : Int).toNat 0)
  · exact h
  · intro e he
    replace he : e < o.n + 1 := he
    rw [cond_true, (pApp_I he).1, (pApp_I he).2]
    by_cases c : e < o.n
    · rw [if_pos c, if_pos c]; exact h e c
    · rw [if_neg c, if_neg c]; omega
theorem en_in {v : Row} (h : ∀ i, i < v.n → (v.R i 0).n = v.n) : InR v.n (enR v) ∧ (enR v).n ≤ v.n * v.n :=
  fold_inv (nx := fun j a => fldN (eNx (v.R j 0) (j : Int)) (v.R j 0).n 0 a) (Inv := fun j o => InR v.n o ∧ o.n ≤ v.n * j) (len := v.n) (fun j o hj hI => by
    refine ⟨fold_inv (nx := eNx (v.R j 0) (j : Int)) (Inv := fun _ o => InR v.n o) (len := (v.R j 0).n) (fun k o hk hI => eNx_in hj (by rw [h j hj] at hk; exact hk) hI) (m := (v.R j 0).n) (j := 0) (a := o) (by omega) hI.1, ?_⟩
    have h1 := eFold_n (v.R j 0) (j : Int) (v.R j 0).n 0 o
    have h2 := hI.2
    rw [h j hj] at h1 ⊢
    rw [Nat.mul_add, Nat.mul_one]
    omega) (m := v.n) (j := 0) (a := .nil) (by omega) ⟨fun e he => absurd he (Nat.not_lt_zero e), Nat.zero_le _⟩
def envR (r a : Row) : Row := bif valE r a != 0 then .nil else win0 (enR (valR r a))
def Fenv : List D → Option (Bool × List D)
  | [.agg [.slice [.slice [.int .i64]] r], .slice [.int .i64] a] => some (decide (r.n ≤ 1000000 ∧ a.n ≤ 1000000), [.slice [.int .i64, .int .i64] (envR r a), .v (i64 (valE r a))])
  | _ => none
theorem valR_spec {r a : Row} (h : valE r a = 0) : (valR r a).n = r.n ∧ ∀ i, i < r.n → ((valR r a).R i 0).n = r.n := by
  unfold valR
  rw [h]
  refine ⟨(vals_spec r a).1, fun i hi => ?_⟩
  show ((vals r a).R i 0).n = r.n
  rw [(vals_spec r a).2 i hi, winOf_n]
theorem den_env : Den Tryz.prog 9 Fenv := evF_den C9_ok fun ds rs h => by
  unfold Fenv at h
  split at h
  · rename_i r a
    simp only [Option.some.injEq, Prod.mk.injEq] at h
    obtain ⟨h0, rfl⟩ := h
    have h0 := of_decide_eq_true h0
    refine (u9 r a).trans ?_
    unfold envR
    rw [decide_eq_true (show (winOf r 0 r.n).n ≤ 1000000 ∧ (winOf a 0 a.n).n ≤ 1000000 by rw [winOf_n, winOf_n]; exact h0), br_true]
    show br (valE r a != 0) _ _ = _
    cases c1 : valE r a != 0
    · have c1 : valE r a = 0 := by simpa using c1
      obtain ⟨h1, h2, h3⟩ := val_zero c1
      obtain ⟨h4, h5, h6⟩ := chk_zero h1
      obtain ⟨h7, h8⟩ := valR_spec c1
      rw [br_false]
      show br (c_l9a ⟨0, (valR r a).n, (valR r a).n, 0, .nil, valR r a⟩) _ _ = _
      rw [c_l9a_iff.2 ⟨rfl, rfl, rfl, by dsimp only; omega, fun i hi => by dsimp only at hi ⊢; rw [h7] at hi ⊢; exact h8 i hi, rfl⟩, br_true, c1]
      rfl
    · rfl
  · cases h
def pooR (r a : Row) : Row := bif valE r a != 0 then .nil else win0 (fldN (poNx (valR r a) r (valR r a).n) (valR r a).n 0 .nil)
def Fpoo : List D → Option (Bool × List D)
  | [.agg [.slice [.slice [.int .i64]] r], .slice [.int .i64] a] => some (decide (r.n ≤ 1000000 ∧ a.n ≤ 1000000), [.slice [.int .i64] (pooR r a), .v (i64 (valE r a))])
  | _ => none
theorem den_poor : Den Tryz.prog 10 Fpoo := evF_den C10_ok fun ds rs h => by
  unfold Fpoo at h
  split at h
  · rename_i r a
    simp only [Option.some.injEq, Prod.mk.injEq] at h
    obtain ⟨h0, rfl⟩ := h
    have h0 := of_decide_eq_true h0
    refine (u10 r a).trans ?_
    unfold pooR
    rw [decide_eq_true (show (winOf r 0 r.n).n ≤ 1000000 ∧ (winOf a 0 a.n).n ≤ 1000000 by rw [winOf_n, winOf_n]; exact h0), br_true]
    show br (valE r a != 0) _ _ = _
    cases c1 : valE r a != 0
    · have c1 : valE r a = 0 := by simpa using c1
      obtain ⟨h1, h2, h3⟩ := val_zero c1
      obtain ⟨h4, h5, h6⟩ := chk_zero h1
      obtain ⟨h7, h8⟩ := valR_spec c1
      rw [br_false]
      show br (c_l10 ⟨(valR r a).n, 0, (valR r a).n, (valR r a).n, 0, r.n, valR r a, .nil, r⟩) _ _ = _
      rw [c_l10_iff.2 ⟨rfl, rfl, rfl, rfl, by dsimp only; omega, fun i hi => by dsimp only at hi ⊢; rw [h7] at hi ⊢; rw [h8 i hi]; exact Nat.le_refl _, by dsimp only; omega, fun i hi => by dsimp only at hi ⊢; rw [h7] at hi; have := (h6 i hi).2.1; omega, rfl⟩, br_true, c1]
      rfl
    · rfl
  · cases h
end Go.Proofs.YtlfeobdfgmlmpaaGreatDoor
/- Package near: envies, first, One, Any: contracts. No conditions. -/
namespace Go.Proofs.YtlfeobdfgmlmpaaGreatDoor
open Go.Ev
set_option linter.all false
theorem rg {a : Int} {n : Nat} (h0 : 0 ≤ a) (h1 : a < (n : Int)) : (decide (0 ≤ a) && decide (a < (n : Int))) = true := by simp only [Bool.and_eq_true, decide_eq_true_eq]; exact ⟨h0, h1⟩
def tApp (o : Row) (i k m : Int) : Row := (winOf o 0 o.n).app (winOf ((((Row.zeros 1).setI 0 0 i).setI 0 1 k).setI 0 2 m) 0 1)
def mNx (v p : Row) (j : Nat) (o : Row) : Row := tApp o (p.I j 0) (p.I j 1) (IntKind.i64.wrap ((v.R (p.I j 0).toNat 0).I (p.I j 1).toNat 0 - (v.R (p.I j 0).toNat 0).I (p.I j 0).toNat 0))
def p_l27 : PSt := { τ := pu 6 ++ [.v (.sl 0)] ++ pu 3 ++ [.v (.sl 1)] ++ pu 17 ++ [.v (.sl 2), .v (.int .i64), .v (.int .i64)] ++ pu 32, saved := [[]], mem := [.deep [.slice [.int .i64]], .row [.int .i64, .int .i64, .int .i64] true, .row [.int .i64, .int .i64] true] }
structure A_l27 where
  vn : Nat
  on : Nat
  n : Nat
  len : Int
  j : Int
  v : Row
  o : Row
  p : Row
def d_l27 (its : List It) : Option A_l27 := match its with | [.n vn, .n on, .n n, .i len, .i j, .r v, .r o, .r p] => some ⟨vn, on, n, len, j, v, o, p⟩ | _ => none
def c_l27 (x : A_l27) : Bool := decide (x.j = 0 ∧ x.len = x.n ∧ x.on = x.o.n ∧ x.n ≤ 1000000 ∧ (∀ i, i < x.n → 0 ≤ x.p.I i 0) ∧ (∀ i, i < x.n → x.p.I i 0 < (x.vn : Int)) ∧ (∀ i, i < x.n → 0 ≤ x.p.I i 1) ∧ (∀ i, i < x.n → x.p.I i 1 < (x.vn : Int)) ∧ (∀ i, i < x.vn → (x.v.R i 0).n = x.vn) ∧ x.o.n = 0)
theorem c_l27_iff {x : A_l27} : c_l27 x = true ↔ x.j = 0 ∧ x.len = x.n ∧ x.on = x.o.n ∧ x.n ≤ 1000000 ∧ (∀ i, i < x.n → 0 ≤ x.p.I i 0) ∧ (∀ i, i < x.n → x.p.I i 0 < (x.vn : Int)) ∧ (∀ i, i < x.n → 0 ≤ x.p.I i 1) ∧ (∀ i, i < x.n → x.p.I i 1 < (x.vn : Int)) ∧ (∀ i, i < x.vn → (x.v.R i 0).n = x.vn) ∧ x.o.n = 0 := by unfold c_l27; rw [decide_eq_true_eq]
def l27 : FoldL A_l27 (Row) where
  f := 27
  id := 7
  lv := [6, 10, 28, 29, 30, 10920010]
  lx := [4, 5, 10]
  p := p_l27
  dat := d_l27
  S := fun x j a => [.n x.vn, .n (a.n), .n x.n, .i (x.n : Int), .i (j : Int), .r x.v, .r (a), .r x.p]
  len := fun x => x.n
  cnd := c_l27
  ini := fun x => x.o
  nx := fun x j a => mNx x.v x.p j a
  Ke := fun x a K => K (.exit 0) ⟨us 10 ++ [.slice (some ⟨0, 0, some 0⟩) ((a.n)) (0)] ++ us 52, [[]], [some (.row [.int .i64, .int .i64, .int .i64] true ((a)))]⟩
noncomputable def C27 : Cx := mkCx Tryz.prog fns [(25, Fvals), (9, Fenv)] [l27.C]
def fiB (fx fy fz : Int) (b : Bool) (r a : Row) (j : Nat) : Bool := a.I j 0 == fy && (decide ((r.R fx.toNat 0).I j 0 ≥ fz) == b)
def p_l28 : PSt := { τ := pu 3 ++ [.v (.bool), .v (.c (.pointer (some ⟨0, 0, some 0⟩))), .v (.c (.pointer (some ⟨1, 0, some 0⟩)))] ++ pu 5 ++ [.v (.sl 2), .v (.int .i64), .v (.int .i64)] ++ pu 26, saved := [[]], mem := [.box [.v (.int .i64), .v (.int .i64), .v (.int .i64)], .box [.v (.sl 3)], .row [.int .i64] false, .row [.slice [.int .i64]] false] }
structure A_l28 where
  b : Bool
  n : Nat
  len : Int
  j : Int
  fx : Int
  fy : Int
  fz : Int
  rn : Nat
  a0 : Row
  r : Row
def d_l28 (its : List It) : Option A_l28 := match its with | [.b b, .n n, .i len, .i j, .i fx, .i fy, .i fz, .n rn, .r a0, .r r] => some ⟨b, n, len, j, fx, fy, fz, rn, a0, r⟩ | _ => none
def c_l28 (x : A_l28) : Bool := decide (x.j = 0 ∧ x.len = x.n ∧ x.n ≤ 1000000 ∧ 0 ≤ x.fx ∧ x.fx < (x.rn : Int) ∧ x.n ≤ (x.r.R x.fx.toNat 0).n)
theorem c_l28_iff {x : A_l28} : c_l28 x = true ↔ x.j = 0 ∧ x.len = x.n ∧ x.n ≤ 1000000 ∧ 0 ≤ x.fx ∧ x.fx < (x.rn : Int) ∧ x.n ≤ (x.r.R x.fx.toNat 0).n := by unfold c_l28; rw [decide_eq_true_eq]
def l28 : ScanL A_l28 where
  f := 28
  id := 2
  lv := [3, 4, 5, 11, 12, 13]
  lx := [8]
  p := p_l28
  dat := d_l28
  S := fun x j => [.b x.b, .n x.n, .i (x.n : Int), .i (j : Int), .i x.fx, .i x.fy, .i x.fz, .n x.rn, .r x.a0, .r x.r]
  len := fun x => x.n
  cnd := c_l28
  bad := fun x j => fiB x.fx x.fy x.fz x.b x.r x.a0 j
  Kb := fun x j K => K .ret ⟨us 8 ++ [i64 ((j : Int))] ++ us 31, [[]], []⟩
  Ke := fun x K => K (.exit 0) ⟨us 40, [[]], []⟩
noncomputable def C28 : Cx := mkCx Tryz.prog fns [] [l28.C]
theorem r_l27 (R : St → Option (List D)) (K : X → St → Option (List D)) (q : Nat) (vn : Nat) (on : Nat) (n : Nat) (len : Int) (j : Int) (v : Row) (o : Row) (p : Row) : bodyOf C27 27 7 q (Go.Ev.bst p_l27 [.n vn, .n on, .n n, .i len, .i j, .r v, .r o, .r p]) (rnd [6, 10, 28, 29, 30, 10920010] (some [4, 5, 10]) R K) =
    br (decide (j < len)) (br (decide (0 ≤ j) && decide (j < (↑n : Int))) (br (decide (0 ≤ p.I (0 + j.toNat) 0) && decide (p.I (0 + j.toNat) 0 < (↑vn : Int))) (br (decide (0 ≤ p.I (0 + j.toNat) 1) && decide (p.I (0 + j.toNat) 1 < (↑(v.R (0 + (p.I (0 + j.toNat) 0).toNat) 0).n : Int))) (br (decide (0 ≤ p.I (0 + j.toNat) 0) && decide (p.I (0 + j.toNat) 0 < (↑vn : Int))) (br (decide (0 ≤ p.I (0 + j.toNat) 0) && decide (p.I (0 + j.toNat) 0 < (↑(v.R (0 + (p.I (0 + j.toNat) 0).toNat) 0).n : Int))) (br (decide (on + (winOf ((((Row.zeros 1).setI 0 0 (p.I (0 + j.toNat) 0)).setI 0 1 (p.I (0 + j.toNat) 1)).setI 0 2 (IntKind.i64.wrap ((v.R (0 + (p.I (0 + j.toNat) 0).toNat) 0).I (0 + (p.I (0 + j.toNat) 1).toNat) 0 - (v.R (0 + (p.I (0 + j.toNat) 0).toNat) 0).I (0 + (p.I (0 + j.toNat) 0).toNat) 0))) 0 1).n ≤ 10000000000)) (R ⟨us 6 ++ [.slice (some ⟨0, 0, some 0⟩) (vn) (0)] ++ us 3 ++ [.slice (some ⟨1, 0, some 0⟩) (on + 1) (0)] ++ us 17 ++ [.slice (some ⟨2, 0, some 0⟩) (n) (0), i64 (len), i64 (IntKind.i64.wrap (j + 1))] ++ us 32, [[]], [some (.deep [.slice [.int .i64]] (v) none), some (.row [.int .i64, .int .i64, .int .i64] true ((winOf o 0 on).app (winOf ((((Row.zeros 1).setI 0 0 (p.I (0 + j.toNat) 0)).setI 0 1 (p.I (0 + j.toNat) 1)).setI 0 2 (IntKind.i64.wrap ((v.R (0 + (p.I (0 + j.toNat) 0).toNat) 0).I (0 + (p.I (0 + j.toNat) 1).toNat) 0 - (v.R (0 + (p.I (0 + j.toNat) 0).toNat) 0).I (0 + (p.I (0 + j.toNat) 0).toNat) 0))) 0 1))), some (.row [.int .i64, .int .i64] true (p))]⟩) (none)) (none)) (none)) (none)) (none)) (none)) (K (.exit 0) ⟨us 10 ++ [.slice (some ⟨0, 0, some 0⟩) (on) (0)] ++ us 52, [[]], [some (.row [.int .i64, .int .i64, .int .i64] true (o))]⟩) := by kernel_rfl
theorem r_l28 (R : St → Option (List D)) (K : X → St → Option (List D)) (q : Nat) (b : Bool) (n : Nat) (len : Int) (j : Int) (fx : Int) (fy : Int) (fz : Int) (rn : Nat) (a0 : Row) (r : Row) : bodyOf C28 28 2 q (Go.Ev.bst p_l28 [.b b, .n n, .i len, .i j, .i fx, .i fy, .i fz, .n rn, .r a0, .r r]) (rnd [3, 4, 5, 11, 12, 13] (some [8]) R K) =
    br (decide (j < len)) (br (decide (0 ≤ j) && decide (j < (↑n : Int))) (br (a0.I (0 + j.toNat) 0 == fy) (br (decide (0 ≤ fx) && decide (fx < (↑rn : Int))) (br (decide (0 ≤ j) && decide (j < (↑(r.R (0 + fx.toNat) 0).n : Int))) (br (decide ((r.R (0 + fx.toNat) 0).I (0 + j.toNat) 0 ≥ fz) == b) (K .ret ⟨us 8 ++ [i64 (j)] ++ us 31, [[]], []⟩) (R ⟨us 3 ++ [.bool (b), .pointer (some ⟨0, 0, some 0⟩), .pointer (some ⟨1, 0, some 0⟩)] ++ us 5 ++ [.slice (some ⟨2, 0, some 0⟩) (n) (0), i64 (len), i64 (IntKind.i64.wrap (j + 1))] ++ us 26, [[]], [some (.box [i64 (fx), i64 (fy), i64 (fz)]), some (.box [.slice (some ⟨3, 0, some 0⟩) (rn) (0)]), some (.row [.int .i64] false (a0)), some (.row [.slice [.int .i64]] false (r))]⟩)) (none)) (none)) (R ⟨us 3 ++ [.bool (b), .pointer (some ⟨0, 0, some 0⟩), .pointer (some ⟨1, 0, some 0⟩)] ++ us 5 ++ [.slice (some ⟨2, 0, some 0⟩) (n) (0), i64 (len), i64 (IntKind.i64.wrap (j + 1))] ++ us 26, [[]], [some (.box [i64 (fx), i64 (fy), i64 (fz)]), some (.box [.slice (some ⟨3, 0, some 0⟩) (rn) (0)]), some (.row [.int .i64] false (a0)), some (.row [.slice [.int .i64]] false (r))]⟩)) (none)) (K (.exit 0) ⟨us 40, [[]], []⟩) := by kernel_rfl
theorem u27 (r a : Row) : evF C27 6 27 [.agg [.slice ksV r], .slice ksI a] =
    br (decide ((winOf r 0 r.n).n ≤ 1000000 ∧ (winOf a 0 a.n).n ≤ 1000000)) (br (valE (winOf r 0 r.n) (winOf a 0 a.n) != 0) (some [.slice [.int .i64, .int .i64, .int .i64] (Row.nil), .v (i64 (valE (winOf r 0 r.n) (winOf a 0 a.n)))]) (br (decide ((winOf r 0 r.n).n ≤ 1000000 ∧ (winOf a 0 a.n).n ≤ 1000000)) (br (c_l27 { vn := (valR (winOf r 0 r.n) (winOf a 0 a.n)).n, on := 0, n := (envR (winOf r 0 r.n) (winOf a 0 a.n)).n, len := (↑(envR (winOf r 0 r.n) (winOf a 0 a.n)).n : Int), j := 0, v := valR (winOf r 0 r.n) (winOf a 0 a.n), o := Row.nil, p := envR (winOf r 0 r.n) (winOf a 0 a.n) : A_l27 }) (some [.slice [.int .i64, .int .i64, .int .i64] (winOf (fldN (fun j a_1 => mNx { vn := (valR (winOf r 0 r.n) (winOf a 0 a.n)).n, on := 0, n := (envR (winOf r 0 r.n) (winOf a 0 a.n)).n, len := (↑(envR (winOf r 0 r.n) (winOf a 0 a.n)).n : Int), j := 0, v := valR (winOf r 0 r.n) (winOf a 0 a.n), o := Row.nil, p := envR (winOf r 0 r.n) (winOf a 0 a.n) : A_l27 }.v { vn := (valR (winOf r 0 r.n) (winOf a 0 a.n)).n, on := 0, n := (envR (winOf r 0 r.n) (winOf a 0 a.n)).n, len := (↑(envR (winOf r 0 r.n) (winOf a 0 a.n)).n : Int), j := 0, v := valR (winOf r 0 r.n) (winOf a 0 a.n), o := Row.nil, p := envR (winOf r 0 r.n) (winOf a 0 a.n) : A_l27 }.p j a_1) (envR (winOf r 0 r.n) (winOf a 0 a.n)).n 0 Row.nil) 0 (fldN (fun j a_1 => mNx { vn := (valR (winOf r 0 r.n) (winOf a 0 a.n)).n, on := 0, n := (envR (winOf r 0 r.n) (winOf a 0 a.n)).n, len := (↑(envR (winOf r 0 r.n) (winOf a 0 a.n)).n : Int), j := 0, v := valR (winOf r 0 r.n) (winOf a 0 a.n), o := Row.nil, p := envR (winOf r 0 r.n) (winOf a 0 a.n) : A_l27 }.v { vn := (valR (winOf r 0 r.n) (winOf a 0 a.n)).n, on := 0, n := (envR (winOf r 0 r.n) (winOf a 0 a.n)).n, len := (↑(envR (winOf r 0 r.n) (winOf a 0 a.n)).n : Int), j := 0, v := valR (winOf r 0 r.n) (winOf a 0 a.n), o := Row.nil, p := envR (winOf r 0 r.n) (winOf a 0 a.n) : A_l27 }.p j a_1) (envR (winOf r 0 r.n) (winOf a 0 a.n)).n 0 Row.nil).n), .v (i64 (0))]) (none)) (none))) (none) := by kernel_rfl
theorem u28 (fx fy fz : Int) (b : Bool) (r a : Row) : evF C28 6 28 [.agg [.v (i64 fx), .v (i64 fy), .v (i64 fz)], .agg [.slice ksV r], .slice ksI a, .v (.bool b)] =
    br (c_l28 { b := b, n := a.n, len := (↑a.n : Int), j := 0, fx := fx, fy := fy, fz := fz, rn := r.n, a0 := a, r := r : A_l28 }) (br (anyF (fun j => fiB { b := b, n := a.n, len := (↑a.n : Int), j := 0, fx := fx, fy := fy, fz := fz, rn := r.n, a0 := a, r := r : A_l28 }.fx { b := b, n := a.n, len := (↑a.n : Int), j := 0, fx := fx, fy := fy, fz := fz, rn := r.n, a0 := a, r := r : A_l28 }.fy { b := b, n := a.n, len := (↑a.n : Int), j := 0, fx := fx, fy := fy, fz := fz, rn := r.n, a0 := a, r := r : A_l28 }.fz { b := b, n := a.n, len := (↑a.n : Int), j := 0, fx := fx, fy := fy, fz := fz, rn := r.n, a0 := a, r := r : A_l28 }.b { b := b, n := a.n, len := (↑a.n : Int), j := 0, fx := fx, fy := fy, fz := fz, rn := r.n, a0 := a, r := r : A_l28 }.r { b := b, n := a.n, len := (↑a.n : Int), j := 0, fx := fx, fy := fy, fz := fz, rn := r.n, a0 := a, r := r : A_l28 }.a0 j) a.n 0) (some [.v (i64 ((↑(fstF (fun j => fiB { b := b, n := a.n, len := (↑a.n : Int), j := 0, fx := fx, fy := fy, fz := fz, rn := r.n, a0 := a, r := r : A_l28 }.fx { b := b, n := a.n, len := (↑a.n : Int), j := 0, fx := fx, fy := fy, fz := fz, rn := r.n, a0 := a, r := r : A_l28 }.fy { b := b, n := a.n, len := (↑a.n : Int), j := 0, fx := fx, fy := fy, fz := fz, rn := r.n, a0 := a, r := r : A_l28 }.fz { b := b, n := a.n, len := (↑a.n : Int), j := 0, fx := fx, fy := fy, fz := fz, rn := r.n, a0 := a, r := r : A_l28 }.b { b := b, n := a.n, len := (↑a.n : Int), j := 0, fx := fx, fy := fy, fz := fz, rn := r.n, a0 := a, r := r : A_l28 }.r { b := b, n := a.n, len := (↑a.n : Int), j := 0, fx := fx, fy := fy, fz := fz, rn := r.n, a0 := a, r := r : A_l28 }.a0 j) a.n 0) : Int)))]) (some [.v (i64 (-1))])) (none) := by kernel_rfl
set_option maxRecDepth 100000 in
theorem ok_l27 : LoopOk C27 l27.C := l27.ok (fun x j a => a.n = j) (by kernel_rfl)
  (fun its x h hc => by
    replace h : d_l27 its = some x := h
    unfold d_l27 at h
    split at h
    · cases h
      obtain ⟨h1, h2, h3, h4, h5, h6, h7, h8, h9, h10⟩ := c_l27_iff.1 hc
      dsimp only at h1 h2 h3
      subst h1 h2 h3
      rfl
    · cases h)
  (fun x hc => by have := c_l27_iff.1 hc; show x.n < 18446744073709551616; omega)
  (fun x hc => by
    exact (c_l27_iff.1 hc).2.2.2.2.2.2.2.2.2)
  (fun x j a hc hi hI => by
    replace hI : a.n = j := hI
    show a.n + 1 = j + 1
    omega)
  (fun q ⟨vn, on0, n, len0, j0, v, o0, p⟩ j a hc hi hI R K => by
    obtain ⟨h1, h2, h3, h4, h5, h6, h7, h8, h9, h10⟩ := c_l27_iff.1 hc
    dsimp only at *
    replace hi : j < n := hi
    refine (r_l27  R K q (vn) ((a.n)) (n) ((n : Int)) ((j : Int)) (v) ((a)) (p)).trans ?_
    replace hI : a.n = j := hI
    have k1 := h5 j hi
    have k2 := h6 j hi
    have k3 := h7 j hi
    have k4 := h8 j hi
    have k5 := h9 (p.I j 0).toNat (by omega)
    rw [Int.toNat_natCast j]
    simp only [Nat.zero_add]
    rw [gd j n hi, ltd j n hi, wsn (by omega), rg k1 k2, k5, rg k3 k4, rg k1 k2, winOf_n, decide_eq_true (show a.n + 1 ≤ 10000000000 by omega)]
    rfl)
  (fun q ⟨vn, on0, n, len0, j0, v, o0, p⟩ a hc hI R K => by
    obtain ⟨h1, h2, h3, h4, h5, h6, h7, h8, h9, h10⟩ := c_l27_iff.1 hc
    dsimp only at *
    refine (r_l27  R K q (vn) ((a.n)) (n) ((n : Int)) ((n : Int)) (v) ((a)) (p)).trans ?_
    rw [ltn n]
    rfl)
set_option maxRecDepth 100000 in
theorem ok_l28 : LoopOk C28 l28.C := l28.ok (by kernel_rfl)
  (fun its x h hc => by
    replace h : d_l28 its = some x := h
    unfold d_l28 at h
    split at h
    · cases h
      obtain ⟨h1, h2, h3, h4, h5, h6⟩ := c_l28_iff.1 hc
      dsimp only at h1 h2
      subst h1 h2
      rfl
    · cases h)
  (fun x hc => by have := c_l28_iff.1 hc; show x.n < 18446744073709551616; omega)
  (fun q ⟨b, n, len0, j0, fx, fy, fz, rn, a0, r⟩ j hc hi R K => by
    obtain ⟨h1, h2, h3, h4, h5, h6⟩ := c_l28_iff.1 hc
    dsimp only at *
    replace hi : j < n := hi
    refine (r_l28  R K q (b) (n) ((n : Int)) ((j : Int)) (fx) (fy) (fz) (rn) (a0) (r)).trans ?_
    rw [Int.toNat_natCast j]
    simp only [Nat.zero_add]
    rw [gd j n hi, ltd j n hi, wsn (by omega), rg h4 h5, gd j (r.R fx.toNat 0).n (by omega), br_true, br_true, br_true, br_true]
    show _ = br (a0.I j 0 == fy && (decide ((r.R fx.toNat 0).I j 0 ≥ fz) == b)) _ _
    cases a0.I j 0 == fy
    · rfl
    · rw [Bool.true_and]
      rfl)
  (fun q ⟨b, n, len0, j0, fx, fy, fz, rn, a0, r⟩ hc R K => by
    obtain ⟨h1, h2, h3, h4, h5, h6⟩ := c_l28_iff.1 hc
    dsimp only at *
    refine (r_l28  R K q (b) (n) ((n : Int)) ((n : Int)) (fx) (fy) (fz) (rn) (a0) (r)).trans ?_
    rw [ltn n]
    rfl)
theorem C27_ok : CxOk C27 := mkCx_ok enter mixed (fun p h => by
  simp only [List.mem_cons, List.not_mem_nil, or_false] at h
  rcases h with rfl | rfl
  · exact den_vals
  · exact den_env) (fun l h => by
  simp only [List.mem_cons, List.not_mem_nil, or_false] at h
  rcases h with rfl
  exact ok_l27)
theorem C28_ok : CxOk C28 := mkCx_ok enter mixed (fun p h => by cases h) (fun l h => by
  simp only [List.mem_cons, List.not_mem_nil, or_false] at h
  rcases h with rfl
  exact ok_l28)
def neaR (r a : Row) : Row := bif valE r a != 0 then .nil else win0 (fldN (mNx (valR r a) (envR r a)) (envR r a).n 0 .nil)
def Fnea : List D → Option (Bool × List D)
  | [.agg [.slice [.slice [.int .i64]] r], .slice [.int .i64] a] => some (decide (r.n ≤ 1000000 ∧ a.n ≤ 1000000), [.slice [.int .i64, .int .i64, .int .i64] (neaR r a), .v (i64 (valE r a))])
  | _ => none
theorem envR_spec {r a : Row} (h : valE r a = 0) : InR r.n (envR r a) ∧ (envR r a).n ≤ 36 := by
  obtain ⟨h1, h2, h3⟩ := val_zero h
  obtain ⟨h4, h5, h6⟩ := chk_zero h1
  obtain ⟨h7, h8⟩ := valR_spec h
  unfold envR
  rw [h]
  obtain ⟨k1, k2⟩ := en_in (v := valR r a) (fun i hi => by rw [h7] at hi ⊢; exact h8 i hi)
  rw [h7] at k1 k2
  refine ⟨k1, ?_⟩
  have : r.n * r.n ≤ 6 * 6 := Nat.mul_le_mul h5 h5
  show (enR (valR r a)).n ≤ 36
  omega
theorem den_nea : Den Tryz.prog 27 Fnea := evF_den C27_ok fun ds rs h => by
  unfold Fnea at h
  split at h
  · rename_i r a
    simp only [Option.some.injEq, Prod.mk.injEq] at h
    obtain ⟨h0, rfl⟩ := h
    have h0 := of_decide_eq_true h0
    refine (u27 r a).trans ?_
    unfold neaR
    rw [decide_eq_true (show (winOf r 0 r.n).n ≤ 1000000 ∧ (winOf a 0 a.n).n ≤ 1000000 by rw [winOf_n, winOf_n]; exact h0), br_true]
    show br (valE r a != 0) _ _ = _
    cases c1 : valE r a != 0
    · have c1 : valE r a = 0 := by simpa using c1
      obtain ⟨h1, h2, h3⟩ := val_zero c1
      obtain ⟨h4, h5, h6⟩ := chk_zero h1
      obtain ⟨h7, h8⟩ := valR_spec c1
      obtain ⟨k1, k2⟩ := envR_spec c1
      rw [br_false, br_true]
      show br (c_l27 ⟨(valR r a).n, 0, (envR r a).n, (envR r a).n, 0, valR r a, .nil, envR r a⟩) _ _ = _
      rw [c_l27_iff.2 ⟨rfl, rfl, rfl, by dsimp only; omega, fun i hi => (k1 i hi).1, fun i hi => by dsimp only at hi ⊢; rw [h7]; exact (k1 i hi).2.1, fun i hi => (k1 i hi).2.2.1, fun i hi => by dsimp only at hi ⊢; rw [h7]; exact (k1 i hi).2.2.2, fun i hi => by dsimp only at hi ⊢; rw [h7] at hi ⊢; exact h8 i hi, rfl⟩, br_true, c1]
      rfl
    · rfl
  · cases h
theorem tApp_I {o : Row} {i k m : Int} {e : Nat} (he : e < o.n + 1) : ((tApp o i k m).I e 0 = if e < o.n then o.I e 0 else i) ∧ ((tApp o i k m).I e 1 = if e < o.n then o.I e 1 else k) := by
  have h0 : ∀ j, (tApp o i k m).I e j = (bif Nat.blt e o.n then o.I e j else ((((Row.zeros 1).setI 0 0 i).setI 0 1 k).setI 0 2 m).I (e - o.n) j) := fun j => rfl
  by_cases c : e < o.n
  · rw [h0, h0, show Nat.blt e o.n = true by rw [Nat.blt_eq]; exact c, if_pos c, if_pos c]
    exact ⟨rfl, rfl⟩
  · have : e - o.n = 0 := by omega
    rw [h0, h0, show Nat.blt e o.n = false from Bool.eq_false_iff.2 (by rw [Ne, Nat.blt_eq]; exact c), if_neg c, if_neg c, this]
    exact ⟨rfl, rfl⟩
/-- Who envies whom: the first two numbers are the pairs. -/
theorem neaR_spec {r a : Row} (h : valE r a = 0) : (neaR r a).n = (envR r a).n ∧ ∀ e, e < (envR r a).n → (neaR r a).I e 0 = (envR r a).I e 0 ∧ (neaR r a).I e 1 = (envR r a).I e 1 := by
  unfold neaR
  rw [h]
  exact fold_inv (nx := mNx (valR r a) (envR r a)) (Inv := fun j o => o.n = j ∧ ∀ e, e < j → o.I e 0 = (envR r a).I e 0 ∧ o.I e 1 = (envR r a).I e 1) (len := (envR r a).n) (fun j o hj hI => by
    refine ⟨by rw [← hI.1]; rfl, fun e he => ?_⟩
    unfold mNx
    rw [(tApp_I (by rw [hI.1]; exact he)).1, (tApp_I (by rw [hI.1]; exact he)).2, hI.1]
    by_cases c : e < j
    · rw [if_pos c, if_pos c]; exact hI.2 e c
    · have : e = j := by omega
      subst this
      rw [if_neg c, if_neg c]; exact ⟨rfl, rfl⟩) (m := (envR r a).n) (j := 0) (a := .nil) (by omega) ⟨rfl, fun e he => absurd he (Nat.not_lt_zero e)⟩
def firI (fx fy fz : Int) (b : Bool) (r a : Row) : Int := bif anyF (fiB fx fy fz b r a) a.n 0 then (fstF (fiB fx fy fz b r a) a.n 0 : Int) else -1
def Ffir : List D → Option (Bool × List D)
  | [.agg [.v (.int .i64 fx), .v (.int .i64 fy), .v (.int .i64 fz)], .agg [.slice [.slice [.int .i64]] r], .slice [.int .i64] a, .v (.bool b)] => some (decide (a.n ≤ 1000000 ∧ 0 ≤ fx ∧ fx < (r.n : Int) ∧ a.n ≤ (r.R fx.toNat 0).n), [.v (i64 (firI fx fy fz b r a))])
  | _ => none
theorem den_fir : Den Tryz.prog 28 Ffir := evF_den C28_ok fun ds rs h => by
  unfold Ffir at h
  split at h
  · rename_i fx fy fz r a b
    simp only [Option.some.injEq, Prod.mk.injEq] at h
    obtain ⟨h0, rfl⟩ := h
    have h0 := of_decide_eq_true h0
    refine (u28 fx fy fz b r a).trans ?_
    rw [c_l28_iff.2 ⟨rfl, rfl, h0⟩, br_true]
    unfold firI
    show br (anyF (fiB fx fy fz b r a) a.n 0) _ _ = _
    cases anyF (fiB fx fy fz b r a) a.n 0 <;> rfl
  · cases h
def oNx (t r a : Row) (j : Nat) (p : Row × Row) : Row × Row := bif decide (firI (t.I j 0) (t.I j 1) (t.I j 2) true r a ≥ 0) then (tApp p.1 (t.I j 0) (t.I j 1) (firI (t.I j 0) (t.I j 1) (t.I j 2) true r a), p.2) else (p.1, pApp p.2 (t.I j 0) (t.I j 1))
def aNx (t r a : Row) (j : Nat) (o : Row) : Row := bif decide (firI (t.I j 0) (t.I j 1) (t.I j 2) false r a ≥ 0) then tApp o (t.I j 0) (t.I j 1) (firI (t.I j 0) (t.I j 1) (t.I j 2) false r a) else o
def p_l11 : PSt := { τ := pu 1 ++ [.v (.sl 0), .v (.c (.pointer (some ⟨1, 0, some 0⟩)))] ++ pu 1 ++ [.v (.sl 2), .v (.sl 3)] ++ pu 14 ++ [.v (.sl 4), .v (.int .i64), .v (.int .i64)] ++ pu 29, saved := [[]], mem := [.row [.int .i64] false, .box [.v (.sl 5)], .row [.int .i64, .int .i64, .int .i64] true, .row [.int .i64, .int .i64] true, .row [.int .i64, .int .i64, .int .i64] true, .row [.slice [.int .i64]] false] }
structure A_l11 where
  an : Nat
  mn : Nat
  kn : Nat
  n : Nat
  len : Int
  j : Int
  a0 : Row
  rn : Nat
  m0 : Row
  k0 : Row
  t : Row
  r : Row
def d_l11 (its : List It) : Option A_l11 := match its with | [.n an, .n mn, .n kn, .n n, .i len, .i j, .r a0, .n rn, .r m0, .r k0, .r t, .r r] => some ⟨an, mn, kn, n, len, j, a0, rn, m0, k0, t, r⟩ | _ => none
def c_l11 (x : A_l11) : Bool := decide (x.j = 0 ∧ x.len = x.n ∧ x.mn = x.m0.n ∧ x.kn = x.k0.n ∧ x.n ≤ 1000 ∧ x.an ≤ 1000000 ∧ (∀ i, i < x.n → 0 ≤ x.t.I i 0) ∧ (∀ i, i < x.n → x.t.I i 0 < (x.rn : Int)) ∧ (∀ i, i < x.rn → x.an ≤ (x.r.R i 0).n) ∧ x.m0.n = 0 ∧ x.k0.n = 0)
theorem c_l11_iff {x : A_l11} : c_l11 x = true ↔ x.j = 0 ∧ x.len = x.n ∧ x.mn = x.m0.n ∧ x.kn = x.k0.n ∧ x.n ≤ 1000 ∧ x.an ≤ 1000000 ∧ (∀ i, i < x.n → 0 ≤ x.t.I i 0) ∧ (∀ i, i < x.n → x.t.I i 0 < (x.rn : Int)) ∧ (∀ i, i < x.rn → x.an ≤ (x.r.R i 0).n) ∧ x.m0.n = 0 ∧ x.k0.n = 0 := by unfold c_l11; rw [decide_eq_true_eq]
def l11 : FoldL A_l11 (Row × Row) where
  f := 11
  id := 5
  lv := [1, 2, 4, 5, 20, 21, 22, 10920004, 680005]
  lx := [4, 5, 6]
  p := p_l11
  dat := d_l11
  S := fun x j a => [.n x.an, .n (a.1.n), .n (a.2.n), .n x.n, .i (x.n : Int), .i (j : Int), .r x.a0, .n x.rn, .r (a.1), .r (a.2), .r x.t, .r x.r]
  len := fun x => x.n
  cnd := c_l11
  ini := fun x => (x.m0, x.k0)
  nx := fun x j a => oNx x.t (winOf x.r 0 x.rn) (winOf x.a0 0 x.an) j a
  Ke := fun x a K => K (.exit 0) ⟨us 4 ++ [.slice (some ⟨0, 0, some 0⟩) ((a.1.n)) (0), .slice (some ⟨1, 0, some 0⟩) ((a.2.n)) (0)] ++ us 46, [[]], [some (.row [.int .i64, .int .i64, .int .i64] true ((a.1))), some (.row [.int .i64, .int .i64] true ((a.2)))]⟩
def p_l12 : PSt := { τ := pu 1 ++ [.v (.sl 0), .v (.c (.pointer (some ⟨1, 0, some 0⟩)))] ++ pu 5 ++ [.v (.sl 2)] ++ pu 12 ++ [.v (.sl 3), .v (.int .i64), .v (.int .i64)] ++ pu 20, saved := [[]], mem := [.row [.int .i64] false, .box [.v (.sl 4)], .row [.int .i64, .int .i64, .int .i64] true, .row [.int .i64, .int .i64, .int .i64] true, .row [.slice [.int .i64]] false] }
structure A_l12 where
  an : Nat
  on : Nat
  n : Nat
  len : Int
  j : Int
  a0 : Row
  rn : Nat
  o : Row
  t : Row
  r : Row
def d_l12 (its : List It) : Option A_l12 := match its with | [.n an, .n on, .n n, .i len, .i j, .r a0, .n rn, .r o, .r t, .r r] => some ⟨an, on, n, len, j, a0, rn, o, t, r⟩ | _ => none
def c_l12 (x : A_l12) : Bool := decide (x.j = 0 ∧ x.len = x.n ∧ x.on = x.o.n ∧ x.n ≤ 1000 ∧ x.an ≤ 1000000 ∧ (∀ i, i < x.n → 0 ≤ x.t.I i 0) ∧ (∀ i, i < x.n → x.t.I i 0 < (x.rn : Int)) ∧ (∀ i, i < x.rn → x.an ≤ (x.r.R i 0).n) ∧ x.o.n = 0)
theorem c_l12_iff {x : A_l12} : c_l12 x = true ↔ x.j = 0 ∧ x.len = x.n ∧ x.on = x.o.n ∧ x.n ≤ 1000 ∧ x.an ≤ 1000000 ∧ (∀ i, i < x.n → 0 ≤ x.t.I i 0) ∧ (∀ i, i < x.n → x.t.I i 0 < (x.rn : Int)) ∧ (∀ i, i < x.rn → x.an ≤ (x.r.R i 0).n) ∧ x.o.n = 0 := by unfold c_l12; rw [decide_eq_true_eq]
def l12 : FoldL A_l12 (Row) where
  f := 12
  id := 6
  lv := [1, 2, 8, 21, 22, 23, 10920008]
  lx := [4, 5, 8]
  p := p_l12
  dat := d_l12
  S := fun x j a => [.n x.an, .n (a.n), .n x.n, .i (x.n : Int), .i (j : Int), .r x.a0, .n x.rn, .r (a), .r x.t, .r x.r]
  len := fun x => x.n
  cnd := c_l12
  ini := fun x => x.o
  nx := fun x j a => aNx x.t (winOf x.r 0 x.rn) (winOf x.a0 0 x.an) j a
  Ke := fun x a K => K (.exit 0) ⟨us 8 ++ [.slice (some ⟨0, 0, some 0⟩) ((a.n)) (0)] ++ us 35, [[]], [some (.row [.int .i64, .int .i64, .int .i64] true ((a)))]⟩
noncomputable def C11 : Cx := mkCx Tryz.prog fns [(27, Fnea), (28, Ffir)] [l11.C]
noncomputable def C12 : Cx := mkCx Tryz.prog fns [(27, Fnea), (28, Ffir)] [l12.C]
theorem r_l11 (R : St → Option (List D)) (K : X → St → Option (List D)) (q : Nat) (an : Nat) (mn : Nat) (kn : Nat) (n : Nat) (len : Int) (j : Int) (a0 : Row) (rn : Nat) (m0 : Row) (k0 : Row) (t : Row) (r : Row) : bodyOf C11 11 5 q (Go.Ev.bst p_l11 [.n an, .n mn, .n kn, .n n, .i len, .i j, .r a0, .n rn, .r m0, .r k0, .r t, .r r]) (rnd [1, 2, 4, 5, 20, 21, 22, 10920004, 680005] (some [4, 5, 6]) R K) =
    br (decide (j < len)) (br (decide (0 ≤ j) && decide (j < (↑n : Int))) (br (decide ((winOf a0 0 an).n ≤ 1000000 ∧ 0 ≤ t.I (0 + j.toNat) 0 ∧ t.I (0 + j.toNat) 0 < (↑(winOf r 0 rn).n : Int) ∧ (winOf a0 0 an).n ≤ ((winOf r 0 rn).R (t.I (0 + j.toNat) 0).toNat 0).n)) (br (decide (firI (t.I (0 + j.toNat) 0) (t.I (0 + j.toNat) 1) (t.I (0 + j.toNat) 2) true (winOf r 0 rn) (winOf a0 0 an) ≥ 0)) (br (decide (mn + (winOf ((((Row.zeros 1).setI 0 0 (t.I (0 + j.toNat) 0)).setI 0 1 (t.I (0 + j.toNat) 1)).setI 0 2 (firI (t.I (0 + j.toNat) 0) (t.I (0 + j.toNat) 1) (t.I (0 + j.toNat) 2) true (winOf r 0 rn) (winOf a0 0 an))) 0 1).n ≤ 10000000000)) (R ⟨us 1 ++ [.slice (some ⟨0, 0, some 0⟩) (an) (0), .pointer (some ⟨1, 0, some 0⟩)] ++ us 1 ++ [.slice (some ⟨2, 0, some 0⟩) (mn + 1) (0), .slice (some ⟨3, 0, some 0⟩) (kn) (0)] ++ us 14 ++ [.slice (some ⟨4, 0, some 0⟩) (n) (0), i64 (len), i64 (IntKind.i64.wrap (j + 1))] ++ us 29, [[]], [some (.row [.int .i64] false (a0)), some (.box [.slice (some ⟨5, 0, some 0⟩) (rn) (0)]), some (.row [.int .i64, .int .i64, .int .i64] true ((winOf m0 0 mn).app (winOf ((((Row.zeros 1).setI 0 0 (t.I (0 + j.toNat) 0)).setI 0 1 (t.I (0 + j.toNat) 1)).setI 0 2 (firI (t.I (0 + j.toNat) 0) (t.I (0 + j.toNat) 1) (t.I (0 + j.toNat) 2) true (winOf r 0 rn) (winOf a0 0 an))) 0 1))), some (.row [.int .i64, .int .i64] true (k0)), some (.row [.int .i64, .int .i64, .int .i64] true (t)), some (.row [.slice [.int .i64]] false (r))]⟩) (none)) (br (decide (kn + (winOf (((Row.zeros 1).setI 0 0 (t.I (0 + j.toNat) 0)).setI 0 1 (t.I (0 + j.toNat) 1)) 0 1).n ≤ 10000000000)) (R ⟨us 1 ++ [.slice (some ⟨0, 0, some 0⟩) (an) (0), .pointer (some ⟨1, 0, some 0⟩)] ++ us 1 ++ [.slice (some ⟨2, 0, some 0⟩) (mn) (0), .slice (some ⟨3, 0, some 0⟩) (kn + 1) (0)] ++ us 14 ++ [.slice (some ⟨4, 0, some 0⟩) (n) (0), i64 (len), i64 (IntKind.i64.wrap (j + 1))] ++ us 29, [[]], [some (.row [.int .i64] false (a0)), some (.box [.slice (some ⟨5, 0, some 0⟩) (rn) (0)]), some (.row [.int .i64, .int .i64, .int .i64] true (m0)), some (.row [.int .i64, .int .i64] true ((winOf k0 0 kn).app (winOf (((Row.zeros 1).setI 0 0 (t.I (0 + j.toNat) 0)).setI 0 1 (t.I (0 + j.toNat) 1)) 0 1))), some (.row [.int .i64, .int .i64, .int .i64] true (t)), some (.row [.slice [.int .i64]] false (r))]⟩) (none))) (none)) (none)) (K (.exit 0) ⟨us 4 ++ [.slice (some ⟨0, 0, some 0⟩) (mn) (0), .slice (some ⟨1, 0, some 0⟩) (kn) (0)] ++ us 46, [[]], [some (.row [.int .i64, .int .i64, .int .i64] true (m0)), some (.row [.int .i64, .int .i64] true (k0))]⟩) := by kernel_rfl
theorem r_l12 (R : St → Option (List D)) (K : X → St → Option (List D)) (q : Nat) (an : Nat) (on : Nat) (n : Nat) (len : Int) (j : Int) (a0 : Row) (rn : Nat) (o : Row) (t : Row) (r : Row) : bodyOf C12 12 6 q (Go.Ev.bst p_l12 [.n an, .n on, .n n, .i len, .i j, .r a0, .n rn, .r o, .r t, .r r]) (rnd [1, 2, 8, 21, 22, 23, 10920008] (some [4, 5, 8]) R K) =
    br (decide (j < len)) (br (decide (0 ≤ j) && decide (j < (↑n : Int))) (br (decide ((winOf a0 0 an).n ≤ 1000000 ∧ 0 ≤ t.I (0 + j.toNat) 0 ∧ t.I (0 + j.toNat) 0 < (↑(winOf r 0 rn).n : Int) ∧ (winOf a0 0 an).n ≤ ((winOf r 0 rn).R (t.I (0 + j.toNat) 0).toNat 0).n)) (br (decide (firI (t.I (0 + j.toNat) 0) (t.I (0 + j.toNat) 1) (t.I (0 + j.toNat) 2) false (winOf r 0 rn) (winOf a0 0 an) ≥ 0)) (br (decide (on + (winOf ((((Row.zeros 1).setI 0 0 (t.I (0 + j.toNat) 0)).setI 0 1 (t.I (0 + j.toNat) 1)).setI 0 2 (firI (t.I (0 + j.toNat) 0) (t.I (0 + j.toNat) 1) (t.I (0 + j.toNat) 2) false (winOf r 0 rn) (winOf a0 0 an))) 0 1).n ≤ 10000000000)) (R ⟨us 1 ++ [.slice (some ⟨0, 0, some 0⟩) (an) (0), .pointer (some ⟨1, 0, some 0⟩)] ++ us 5 ++ [.slice (some ⟨2, 0, some 0⟩) (on + 1) (0)] ++ us 12 ++ [.slice (some ⟨3, 0, some 0⟩) (n) (0), i64 (len), i64 (IntKind.i64.wrap (j + 1))] ++ us 20, [[]], [some (.row [.int .i64] false (a0)), some (.box [.slice (some ⟨4, 0, some 0⟩) (rn) (0)]), some (.row [.int .i64, .int .i64, .int .i64] true ((winOf o 0 on).app (winOf ((((Row.zeros 1).setI 0 0 (t.I (0 + j.toNat) 0)).setI 0 1 (t.I (0 + j.toNat) 1)).setI 0 2 (firI (t.I (0 + j.toNat) 0) (t.I (0 + j.toNat) 1) (t.I (0 + j.toNat) 2) false (winOf r 0 rn) (winOf a0 0 an))) 0 1))), some (.row [.int .i64, .int .i64, .int .i64] true (t)), some (.row [.slice [.int .i64]] false (r))]⟩) (none)) (R ⟨us 1 ++ [.slice (some ⟨0, 0, some 0⟩) (an) (0), .pointer (some ⟨1, 0, some 0⟩)] ++ us 5 ++ [.slice (some ⟨2, 0, some 0⟩) (on) (0)] ++ us 12 ++ [.slice (some ⟨3, 0, some 0⟩) (n) (0), i64 (len), i64 (IntKind.i64.wrap (j + 1))] ++ us 20, [[]], [some (.row [.int .i64] false (a0)), some (.box [.slice (some ⟨4, 0, some 0⟩) (rn) (0)]), some (.row [.int .i64, .int .i64, .int .i64] true (o)), some (.row [.int .i64, .int .i64, .int .i64] true (t)), some (.row [.slice [.int .i64]] false (r))]⟩)) (none)) (none)) (K (.exit 0) ⟨us 8 ++ [.slice (some ⟨0, 0, some 0⟩) (on) (0)] ++ us 35, [[]], [some (.row [.int .i64, .int .i64, .int .i64] true (o))]⟩) := by kernel_rfl
theorem u11 (r a : Row) : evF C11 6 11 [.agg [.slice ksV r], .slice ksI a] =
    br (decide ((winOf r 0 r.n).n ≤ 1000000 ∧ (winOf a 0 a.n).n ≤ 1000000)) (br (valE (winOf r 0 r.n) (winOf a 0 a.n) != 0) (some [.slice [.int .i64, .int .i64, .int .i64] (Row.nil), .slice [.int .i64, .int .i64] (Row.nil), .v (i64 (valE (winOf r 0 r.n) (winOf a 0 a.n)))]) (br (c_l11 { an := a.n, mn := 0, kn := 0, n := (neaR (winOf r 0 r.n) (winOf a 0 a.n)).n, len := (↑(neaR (winOf r 0 r.n) (winOf a 0 a.n)).n : Int), j := 0, a0 := a, rn := r.n, m0 := Row.nil, k0 := Row.nil, t := neaR (winOf r 0 r.n) (winOf a 0 a.n), r := r : A_l11 }) (some [.slice [.int .i64, .int .i64, .int .i64] (winOf (fldN (l11.nx { an := a.n, mn := 0, kn := 0, n := (neaR (winOf r 0 r.n) (winOf a 0 a.n)).n, len := (↑(neaR (winOf r 0 r.n) (winOf a 0 a.n)).n : Int), j := 0, a0 := a, rn := r.n, m0 := Row.nil, k0 := Row.nil, t := neaR (winOf r 0 r.n) (winOf a 0 a.n), r := r : A_l11 }) (l11.len { an := a.n, mn := 0, kn := 0, n := (neaR (winOf r 0 r.n) (winOf a 0 a.n)).n, len := (↑(neaR (winOf r 0 r.n) (winOf a 0 a.n)).n : Int), j := 0, a0 := a, rn := r.n, m0 := Row.nil, k0 := Row.nil, t := neaR (winOf r 0 r.n) (winOf a 0 a.n), r := r : A_l11 }) 0 (l11.ini { an := a.n, mn := 0, kn := 0, n := (neaR (winOf r 0 r.n) (winOf a 0 a.n)).n, len := (↑(neaR (winOf r 0 r.n) (winOf a 0 a.n)).n : Int), j := 0, a0 := a, rn := r.n, m0 := Row.nil, k0 := Row.nil, t := neaR (winOf r 0 r.n) (winOf a 0 a.n), r := r : A_l11 })).1 0 (fldN (l11.nx { an := a.n, mn := 0, kn := 0, n := (neaR (winOf r 0 r.n) (winOf a 0 a.n)).n, len := (↑(neaR (winOf r 0 r.n) (winOf a 0 a.n)).n : Int), j := 0, a0 := a, rn := r.n, m0 := Row.nil, k0 := Row.nil, t := neaR (winOf r 0 r.n) (winOf a 0 a.n), r := r : A_l11 }) (l11.len { an := a.n, mn := 0, kn := 0, n := (neaR (winOf r 0 r.n) (winOf a 0 a.n)).n, len := (↑(neaR (winOf r 0 r.n) (winOf a 0 a.n)).n : Int), j := 0, a0 := a, rn := r.n, m0 := Row.nil, k0 := Row.nil, t := neaR (winOf r 0 r.n) (winOf a 0 a.n), r := r : A_l11 }) 0 (l11.ini { an := a.n, mn := 0, kn := 0, n := (neaR (winOf r 0 r.n) (winOf a 0 a.n)).n, len := (↑(neaR (winOf r 0 r.n) (winOf a 0 a.n)).n : Int), j := 0, a0 := a, rn := r.n, m0 := Row.nil, k0 := Row.nil, t := neaR (winOf r 0 r.n) (winOf a 0 a.n), r := r : A_l11 })).1.n), .slice [.int .i64, .int .i64] (winOf (fldN (l11.nx { an := a.n, mn := 0, kn := 0, n := (neaR (winOf r 0 r.n) (winOf a 0 a.n)).n, len := (↑(neaR (winOf r 0 r.n) (winOf a 0 a.n)).n : Int), j := 0, a0 := a, rn := r.n, m0 := Row.nil, k0 := Row.nil, t := neaR (winOf r 0 r.n) (winOf a 0 a.n), r := r : A_l11 }) (l11.len { an := a.n, mn := 0, kn := 0, n := (neaR (winOf r 0 r.n) (winOf a 0 a.n)).n, len := (↑(neaR (winOf r 0 r.n) (winOf a 0 a.n)).n : Int), j := 0, a0 := a, rn := r.n, m0 := Row.nil, k0 := Row.nil, t := neaR (winOf r 0 r.n) (winOf a 0 a.n), r := r : A_l11 }) 0 (l11.ini { an := a.n, mn := 0, kn := 0, n := (neaR (winOf r 0 r.n) (winOf a 0 a.n)).n, len := (↑(neaR (winOf r 0 r.n) (winOf a 0 a.n)).n : Int), j := 0, a0 := a, rn := r.n, m0 := Row.nil, k0 := Row.nil, t := neaR (winOf r 0 r.n) (winOf a 0 a.n), r := r : A_l11 })).2 0 (fldN (l11.nx { an := a.n, mn := 0, kn := 0, n := (neaR (winOf r 0 r.n) (winOf a 0 a.n)).n, len := (↑(neaR (winOf r 0 r.n) (winOf a 0 a.n)).n : Int), j := 0, a0 := a, rn := r.n, m0 := Row.nil, k0 := Row.nil, t := neaR (winOf r 0 r.n) (winOf a 0 a.n), r := r : A_l11 }) (l11.len { an := a.n, mn := 0, kn := 0, n := (neaR (winOf r 0 r.n) (winOf a 0 a.n)).n, len := (↑(neaR (winOf r 0 r.n) (winOf a 0 a.n)).n : Int), j := 0, a0 := a, rn := r.n, m0 := Row.nil, k0 := Row.nil, t := neaR (winOf r 0 r.n) (winOf a 0 a.n), r := r : A_l11 }) 0 (l11.ini { an := a.n, mn := 0, kn := 0, n := (neaR (winOf r 0 r.n) (winOf a 0 a.n)).n, len := (↑(neaR (winOf r 0 r.n) (winOf a 0 a.n)).n : Int), j := 0, a0 := a, rn := r.n, m0 := Row.nil, k0 := Row.nil, t := neaR (winOf r 0 r.n) (winOf a 0 a.n), r := r : A_l11 })).2.n), .v (i64 (0))]) (none))) (none) := by kernel_rfl
theorem u12 (r a : Row) : evF C12 6 12 [.agg [.slice ksV r], .slice ksI a] =
    br (decide ((winOf r 0 r.n).n ≤ 1000000 ∧ (winOf a 0 a.n).n ≤ 1000000)) (br (valE (winOf r 0 r.n) (winOf a 0 a.n) != 0) (some [.slice [.int .i64, .int .i64, .int .i64] (Row.nil), .v (i64 (valE (winOf r 0 r.n) (winOf a 0 a.n)))]) (br (c_l12 { an := a.n, on := 0, n := (neaR (winOf r 0 r.n) (winOf a 0 a.n)).n, len := (↑(neaR (winOf r 0 r.n) (winOf a 0 a.n)).n : Int), j := 0, a0 := a, rn := r.n, o := Row.nil, t := neaR (winOf r 0 r.n) (winOf a 0 a.n), r := r : A_l12 }) (some [.slice [.int .i64, .int .i64, .int .i64] (winOf (fldN (fun j a_1 => aNx { an := a.n, on := 0, n := (neaR (winOf r 0 r.n) (winOf a 0 a.n)).n, len := (↑(neaR (winOf r 0 r.n) (winOf a 0 a.n)).n : Int), j := 0, a0 := a, rn := r.n, o := Row.nil, t := neaR (winOf r 0 r.n) (winOf a 0 a.n), r := r : A_l12 }.t (winOf { an := a.n, on := 0, n := (neaR (winOf r 0 r.n) (winOf a 0 a.n)).n, len := (↑(neaR (winOf r 0 r.n) (winOf a 0 a.n)).n : Int), j := 0, a0 := a, rn := r.n, o := Row.nil, t := neaR (winOf r 0 r.n) (winOf a 0 a.n), r := r : A_l12 }.r 0 { an := a.n, on := 0, n := (neaR (winOf r 0 r.n) (winOf a 0 a.n)).n, len := (↑(neaR (winOf r 0 r.n) (winOf a 0 a.n)).n : Int), j := 0, a0 := a, rn := r.n, o := Row.nil, t := neaR (winOf r 0 r.n) (winOf a 0 a.n), r := r : A_l12 }.rn) (winOf { an := a.n, on := 0, n := (neaR (winOf r 0 r.n) (winOf a 0 a.n)).n, len := (↑(neaR (winOf r 0 r.n) (winOf a 0 a.n)).n : Int), j := 0, a0 := a, rn := r.n, o := Row.nil, t := neaR (winOf r 0 r.n) (winOf a 0 a.n), r := r : A_l12 }.a0 0 { an := a.n, on := 0, n := (neaR (winOf r 0 r.n) (winOf a 0 a.n)).n, len := (↑(neaR (winOf r 0 r.n) (winOf a 0 a.n)).n : Int), j := 0, a0 := a, rn := r.n, o := Row.nil, t := neaR (winOf r 0 r.n) (winOf a 0 a.n), r := r : A_l12 }.an) j a_1) (neaR (winOf r 0 r.n) (winOf a 0 a.n)).n 0 Row.nil) 0 (fldN (fun j a_1 => aNx { an := a.n, on := 0, n := (neaR (winOf r 0 r.n) (winOf a 0 a.n)).n, len := (↑(neaR (winOf r 0 r.n) (winOf a 0 a.n)).n : Int), j := 0, a0 := a, rn := r.n, o := Row.nil, t := neaR (winOf r 0 r.n) (winOf a 0 a.n), r := r : A_l12 }.t (winOf { an := a.n, on := 0, n := (neaR (winOf r 0 r.n) (winOf a 0 a.n)).n, len := (↑(neaR (winOf r 0 r.n) (winOf a 0 a.n)).n : Int), j := 0, a0 := a, rn := r.n, o := Row.nil, t := neaR (winOf r 0 r.n) (winOf a 0 a.n), r := r : A_l12 }.r 0 { an := a.n, on := 0, n := (neaR (winOf r 0 r.n) (winOf a 0 a.n)).n, len := (↑(neaR (winOf r 0 r.n) (winOf a 0 a.n)).n : Int), j := 0, a0 := a, rn := r.n, o := Row.nil, t := neaR (winOf r 0 r.n) (winOf a 0 a.n), r := r : A_l12 }.rn) (winOf { an := a.n, on := 0, n := (neaR (winOf r 0 r.n) (winOf a 0 a.n)).n, len := (↑(neaR (winOf r 0 r.n) (winOf a 0 a.n)).n : Int), j := 0, a0 := a, rn := r.n, o := Row.nil, t := neaR (winOf r 0 r.n) (winOf a 0 a.n), r := r : A_l12 }.a0 0 { an := a.n, on := 0, n := (neaR (winOf r 0 r.n) (winOf a 0 a.n)).n, len := (↑(neaR (winOf r 0 r.n) (winOf a 0 a.n)).n : Int), j := 0, a0 := a, rn := r.n, o := Row.nil, t := neaR (winOf r 0 r.n) (winOf a 0 a.n), r := r : A_l12 }.an) j a_1) (neaR (winOf r 0 r.n) (winOf a 0 a.n)).n 0 Row.nil).n), .v (i64 (0))]) (none))) (none) := by kernel_rfl
set_option maxRecDepth 100000 in
theorem ok_l11 : LoopOk C11 l11.C := l11.ok (fun x j a => a.1.n ≤ j ∧ a.2.n ≤ j) (by kernel_rfl)
  (fun its x h hc => by
    replace h : d_l11 its = some x := h
    unfold d_l11 at h
    split at h
    · cases h
      obtain ⟨h1, h2, h3, h4, h5, h6, h7, h8, h9, h10, h11⟩ := c_l11_iff.1 hc
      dsimp only at h1 h2 h3 h4
      subst h1 h2 h3 h4
      rfl
    · cases h)
  (fun x hc => by have := c_l11_iff.1 hc; show x.n < 18446744073709551616; omega)
  (fun x hc => by
    have h := c_l11_iff.1 hc
    exact ⟨Nat.le_of_eq h.2.2.2.2.2.2.2.2.2.1, Nat.le_of_eq h.2.2.2.2.2.2.2.2.2.2⟩)
  (fun x j a hc hi hI => by
    replace hI : a.1.n ≤ j ∧ a.2.n ≤ j := hI
    show (oNx x.t (winOf x.r 0 x.rn) (winOf x.a0 0 x.an) j a).1.n ≤ j + 1 ∧ (oNx x.t (winOf x.r 0 x.rn) (winOf x.a0 0 x.an) j a).2.n ≤ j + 1
    unfold oNx
    cases decide (firI (x.t.I j 0) (x.t.I j 1) (x.t.I j 2) true (winOf x.r 0 x.rn) (winOf x.a0 0 x.an) ≥ 0)
    · show a.1.n ≤ j + 1 ∧ a.2.n + 1 ≤ j + 1
      omega
    · show a.1.n + 1 ≤ j + 1 ∧ a.2.n ≤ j + 1
      omega)
  (fun q ⟨an, mn0, kn0, n, len0, j0, a0, rn, m00, k00, t, r⟩ j a hc hi hI R K => by
    obtain ⟨h1, h2, h3, h4, h5, h6, h7, h8, h9, h10, h11⟩ := c_l11_iff.1 hc
    dsimp only at *
    replace hi : j < n := hi
    refine (r_l11  R K q (an) ((a.1.n)) ((a.2.n)) (n) ((n : Int)) ((j : Int)) (a0) (rn) ((a.1)) ((a.2)) (t) (r)).trans ?_
    replace hI : a.1.n ≤ j ∧ a.2.n ≤ j := hI
    have k1 := h7 j hi
    have k2 := h8 j hi
    have k3 := h9 (t.I j 0).toNat (by omega)
    rw [Int.toNat_natCast j]
    simp only [Nat.zero_add]
    rw [gd j n hi, ltd j n hi, wsn (by omega), decide_eq_true (show (winOf a0 0 an).n ≤ 1000000 ∧ 0 ≤ t.I j 0 ∧ t.I j 0 < ((winOf r 0 rn).n : Int) ∧ (winOf a0 0 an).n ≤ ((winOf r 0 rn).R (t.I j 0).toNat 0).n from ⟨by rw [winOf_n]; exact h6, k1, by rw [winOf_n]; exact k2, by rw [winOf_n]; exact k3⟩), winOf_n, decide_eq_true (show a.1.n + 1 ≤ 10000000000 by omega), winOf_n, decide_eq_true (show a.2.n + 1 ≤ 10000000000 by omega), br_true, br_true, br_true]
    show _ = R (Go.Ev.bst p_l11 (l11.S _ (j + 1) (oNx t (winOf r 0 rn) (winOf a0 0 an) j a)))
    unfold oNx
    cases decide (firI (t.I j 0) (t.I j 1) (t.I j 2) true (winOf r 0 rn) (winOf a0 0 an) ≥ 0) <;> rfl)
  (fun q ⟨an, mn0, kn0, n, len0, j0, a0, rn, m00, k00, t, r⟩ a hc hI R K => by
    obtain ⟨h1, h2, h3, h4, h5, h6, h7, h8, h9, h10, h11⟩ := c_l11_iff.1 hc
    dsimp only at *
    refine (r_l11  R K q (an) ((a.1.n)) ((a.2.n)) (n) ((n : Int)) ((n : Int)) (a0) (rn) ((a.1)) ((a.2)) (t) (r)).trans ?_
    rw [ltn n]
    rfl)
set_option maxRecDepth 100000 in
theorem ok_l12 : LoopOk C12 l12.C := l12.ok (fun x j a => a.n ≤ j) (by kernel_rfl)
  (fun its x h hc => by
    replace h : d_l12 its = some x := h
    unfold d_l12 at h
    split at h
    · cases h
      obtain ⟨h1, h2, h3, h4, h5, h6, h7, h8, h9⟩ := c_l12_iff.1 hc
      dsimp only at h1 h2 h3
      subst h1 h2 h3
      rfl
    · cases h)
  (fun x hc => by have := c_l12_iff.1 hc; show x.n < 18446744073709551616; omega)
  (fun x hc => by
    have h := c_l12_iff.1 hc
    exact Nat.le_of_eq h.2.2.2.2.2.2.2.2)
  (fun x j a hc hi hI => by
    replace hI : a.n ≤ j := hI
    show (aNx x.t (winOf x.r 0 x.rn) (winOf x.a0 0 x.an) j a).n ≤ j + 1
    unfold aNx
    cases decide (firI (x.t.I j 0) (x.t.I j 1) (x.t.I j 2) false (winOf x.r 0 x.rn) (winOf x.a0 0 x.an) ≥ 0)
    · show a.n ≤ j + 1
      omega
    · show a.n + 1 ≤ j + 1
      omega)
  (fun q ⟨an, on0, n, len0, j0, a0, rn, o0, t, r⟩ j a hc hi hI R K => by
    obtain ⟨h1, h2, h3, h4, h5, h6, h7, h8, h9⟩ := c_l12_iff.1 hc
    dsimp only at *
    replace hi : j < n := hi
    refine (r_l12  R K q (an) ((a.n)) (n) ((n : Int)) ((j : Int)) (a0) (rn) ((a)) (t) (r)).trans ?_
    replace hI : a.n ≤ j := hI
    have k1 := h6 j hi
    have k2 := h7 j hi
    have k3 := h8 (t.I j 0).toNat (by omega)
    rw [Int.toNat_natCast j]
    simp only [Nat.zero_add]
    rw [gd j n hi, ltd j n hi, wsn (by omega), decide_eq_true (show (winOf a0 0 an).n ≤ 1000000 ∧ 0 ≤ t.I j 0 ∧ t.I j 0 < ((winOf r 0 rn).n : Int) ∧ (winOf a0 0 an).n ≤ ((winOf r 0 rn).R (t.I j 0).toNat 0).n from ⟨by rw [winOf_n]; exact h5, k1, by rw [winOf_n]; exact k2, by rw [winOf_n]; exact k3⟩), winOf_n, decide_eq_true (show a.n + 1 ≤ 10000000000 by omega), br_true, br_true, br_true]
    show _ = R (Go.Ev.bst p_l12 (l12.S _ (j + 1) (aNx t (winOf r 0 rn) (winOf a0 0 an) j a)))
    unfold aNx
    cases decide (firI (t.I j 0) (t.I j 1) (t.I j 2) false (winOf r 0 rn) (winOf a0 0 an) ≥ 0) <;> rfl)
  (fun q ⟨an, on0, n, len0, j0, a0, rn, o0, t, r⟩ a hc hI R K => by
    obtain ⟨h1, h2, h3, h4, h5, h6, h7, h8, h9⟩ := c_l12_iff.1 hc
    dsimp only at *
    refine (r_l12  R K q (an) ((a.n)) (n) ((n : Int)) ((n : Int)) (a0) (rn) ((a)) (t) (r)).trans ?_
    rw [ltn n]
    rfl)
theorem C11_ok : CxOk C11 := mkCx_ok enter mixed (fun p h => by
  simp only [List.mem_cons, List.not_mem_nil, or_false] at h
  rcases h with rfl | rfl
  · exact den_nea
  · exact den_fir) (fun l h => by
  simp only [List.mem_cons, List.not_mem_nil, or_false] at h
  rcases h with rfl
  exact ok_l11)
theorem C12_ok : CxOk C12 := mkCx_ok enter mixed (fun p h => by
  simp only [List.mem_cons, List.not_mem_nil, or_false] at h
  rcases h with rfl | rfl
  · exact den_nea
  · exact den_fir) (fun l h => by
  simp only [List.mem_cons, List.not_mem_nil, or_false] at h
  rcases h with rfl
  exact ok_l12)
def onR (r a : Row) : Row × Row := fldN (oNx (neaR r a) (win0 r) (win0 a)) (neaR r a).n 0 (.nil, .nil)
def onM (r a : Row) : Row := bif valE r a != 0 then .nil else win0 (onR r a).1
def onK (r a : Row) : Row := bif valE r a != 0 then .nil else win0 (onR r a).2
def anyR (r a : Row) : Row := bif valE r a != 0 then .nil else win0 (fldN (aNx (neaR r a) (win0 r) (win0 a)) (neaR r a).n 0 .nil)
def Fone : List D → Option (Bool × List D)
  | [.agg [.slice [.slice [.int .i64]] r], .slice [.int .i64] a] => some (decide (r.n ≤ 1000000 ∧ a.n ≤ 1000000), [.slice [.int .i64, .int .i64, .int .i64] (onM r a), .slice [.int .i64, .int .i64] (onK r a), .v (i64 (valE r a))])
  | _ => none
def Fany : List D → Option (Bool × List D)
  | [.agg [.slice [.slice [.int .i64]] r], .slice [.int .i64] a] => some (decide (r.n ≤ 1000000 ∧ a.n ≤ 1000000), [.slice [.int .i64, .int .i64, .int .i64] (anyR r a), .v (i64 (valE r a))])
  | _ => none
theorem near_c {r a : Row} (h : valE r a = 0) : a.n ≤ 10 ∧ (neaR r a).n ≤ 36 ∧ (∀ i, i < (neaR r a).n → 0 ≤ (neaR r a).I i 0) ∧ (∀ i, i < (neaR r a).n → (neaR r a).I i 0 < (r.n : Int)) ∧ ∀ i, i < r.n → a.n ≤ (r.R i 0).n := by
  obtain ⟨h1, h2, h3⟩ := val_zero h
  obtain ⟨h4, h5, h6⟩ := chk_zero h1
  obtain ⟨k1, k2⟩ := envR_spec h
  obtain ⟨k3, k4⟩ := neaR_spec h
  refine ⟨by have := (h6 0 (by omega)).2.1; omega, by omega, fun i hi => ?_, fun i hi => ?_, fun i hi => by rw [(h6 i hi).1, h2]; exact Nat.le_refl _⟩
  · rw [(k4 i (by omega)).1]; exact (k1 i (by omega)).1
  · rw [(k4 i (by omega)).1]; exact (k1 i (by omega)).2.1
theorem den_one : Den Tryz.prog 11 Fone := evF_den C11_ok fun ds rs h => by
  unfold Fone at h
  split at h
  · rename_i r a
    simp only [Option.some.injEq, Prod.mk.injEq] at h
    obtain ⟨h0, rfl⟩ := h
    have h0 := of_decide_eq_true h0
    refine (u11 r a).trans ?_
    unfold onM onK
    rw [decide_eq_true (show (winOf r 0 r.n).n ≤ 1000000 ∧ (winOf a 0 a.n).n ≤ 1000000 by rw [winOf_n, winOf_n]; exact h0), br_true]
    show br (valE r a != 0) _ _ = _
    cases c1 : valE r a != 0
    · have c1 : valE r a = 0 := by simpa using c1
      obtain ⟨k1, k2, k3, k4, k5⟩ := near_c c1
      rw [br_false]
      show br (c_l11 ⟨a.n, 0, 0, (neaR r a).n, (neaR r a).n, 0, a, r.n, .nil, .nil, neaR r a, r⟩) _ _ = _
      rw [c_l11_iff.2 ⟨rfl, rfl, rfl, rfl, by dsimp only; omega, by dsimp only; omega, k3, k4, k5, rfl, rfl⟩, br_true, c1]
      rfl
    · rfl
  · cases h
theorem den_any : Den Tryz.prog 12 Fany := evF_den C12_ok fun ds rs h => by
  unfold Fany at h
  split at h
  · rename_i r a
    simp only [Option.some.injEq, Prod.mk.injEq] at h
    obtain ⟨h0, rfl⟩ := h
    have h0 := of_decide_eq_true h0
    refine (u12 r a).trans ?_
    unfold anyR
    rw [decide_eq_true (show (winOf r 0 r.n).n ≤ 1000000 ∧ (winOf a 0 a.n).n ≤ 1000000 by rw [winOf_n, winOf_n]; exact h0), br_true]
    show br (valE r a != 0) _ _ = _
    cases c1 : valE r a != 0
    · have c1 : valE r a = 0 := by simpa using c1
      obtain ⟨k1, k2, k3, k4, k5⟩ := near_c c1
      rw [br_false]
      show br (c_l12 ⟨a.n, 0, (neaR r a).n, (neaR r a).n, 0, a, r.n, .nil, neaR r a, r⟩) _ _ = _
      rw [c_l12_iff.2 ⟨rfl, rfl, rfl, by dsimp only; omega, by dsimp only; omega, k3, k4, k5, rfl⟩, br_true, c1]
      rfl
    · rfl
  · cases h
end Go.Proofs.YtlfeobdfgmlmpaaGreatDoor
/- Copies, comparisons, what is great or complete, the document of an allocation. No conditions. -/
namespace Go.Proofs.YtlfeobdfgmlmpaaGreatDoor
open Go.Ev
set_option linter.all false
/-- A copy of a row. -/
def cpy (s : Row) : Row := winOf (Row.nil.app (winOf s 0 s.n)) 0 (0 + (winOf s 0 s.n).n)
theorem cpy_n (s : Row) : (cpy s).n = s.n := by unfold cpy; rw [winOf_n, winOf_n, Nat.zero_add]
theorem cpy_I (s : Row) (e j : Nat) : (cpy s).I e j = s.I e j := rfl
def p_l19 : PSt := { τ := pu 3 ++ [.v (.sl 0)] ++ pu 2 ++ [.v (.sl 1), .v (.int .i64), .v (.int .i64)] ++ pu 11, saved := [[]], mem := [.deep [.slice [.int .i64]], .row [.slice [.int .i64]] false] }
structure A_l19 where
  on : Nat
  n : Nat
  len : Int
  j : Int
  o : Row
  r : Row
def d_l19 (its : List It) : Option A_l19 := match its with | [.n on, .n n, .i len, .i j, .r o, .r r] => some ⟨on, n, len, j, o, r⟩ | _ => none
def c_l19 (x : A_l19) : Bool := decide (x.j = 0 ∧ x.len = x.n ∧ x.on = x.o.n ∧ x.n ≤ 1000000 ∧ (∀ i, i < x.n → (x.r.R i 0).n ≤ 1000000) ∧ x.o.n = 0)
theorem c_l19_iff {x : A_l19} : c_l19 x = true ↔ x.j = 0 ∧ x.len = x.n ∧ x.on = x.o.n ∧ x.n ≤ 1000000 ∧ (∀ i, i < x.n → (x.r.R i 0).n ≤ 1000000) ∧ x.o.n = 0 := by unfold c_l19; rw [decide_eq_true_eq]
def l19 : FoldL A_l19 (Row) where
  f := 19
  id := 3
  lv := [3, 6, 7, 8, 31470003]
  lx := [2, 3]
  p := p_l19
  dat := d_l19
  S := fun x j a => [.n (a.n), .n x.n, .i (x.n : Int), .i (j : Int), .r (a), .r x.r]
  len := fun x => x.n
  cnd := c_l19
  ini := fun x => x.o
  nx := fun x j a => vApp a (cpy (x.r.R j 0))
  Ke := fun x a K => K (.exit 0) ⟨us 3 ++ [.slice (some ⟨0, 0, some 0⟩) ((a.n)) (0)] ++ us 16, [[]], [some (.deep [.slice [.int .i64]] ((a)) none)]⟩
noncomputable def C19 : Cx := mkCx Tryz.prog fns [] [l19.C]
def p_l15 : PSt := { τ := [.v (.sl 0), .v (.sl 1)] ++ pu 3 ++ [.v (.int .i64)] ++ pu 20, saved := [[]], mem := [.row [.int .i64] false, .row [.int .i64] false] }
structure A_l15 where
  n : Nat
  n_2 : Nat
  j : Int
  r : Row
  s : Row
def d_l15 (its : List It) : Option A_l15 := match its with | [.n n, .n n_2, .i j, .r r, .r s] => some ⟨n, n_2, j, r, s⟩ | _ => none
def c_l15 (x : A_l15) : Bool := decide (x.j = 0 ∧ x.n_2 = x.n ∧ x.n ≤ 1000000)
theorem c_l15_iff {x : A_l15} : c_l15 x = true ↔ x.j = 0 ∧ x.n_2 = x.n ∧ x.n ≤ 1000000 := by unfold c_l15; rw [decide_eq_true_eq]
def l15 : ScanL A_l15 where
  f := 15
  id := 4
  lv := [0, 1, 5]
  lx := [4]
  p := p_l15
  dat := d_l15
  S := fun x j => [.n x.n, .n x.n, .i (j : Int), .r x.r, .r x.s]
  len := fun x => x.n
  cnd := c_l15
  bad := fun x j => x.r.I j 0 != x.s.I j 0
  Kb := fun x j K => K .ret ⟨us 4 ++ [.bool (false)] ++ us 21, [[]], []⟩
  Ke := fun x K => K (.exit 0) ⟨us 26, [[]], []⟩
noncomputable def C15 : Cx := mkCx Tryz.prog fns [] [l15.C]
def samI (r s : Row) : Bool := (r.n : Int) == (s.n : Int) && !anyF (fun j => r.I j 0 != s.I j 0) r.n 0
def Fsam : List D → Option (Bool × List D)
  | [.slice [.int .i64] r, .slice [.int .i64] s] => some (decide (r.n ≤ 1000000), [.v (.bool (samI r s))])
  | _ => none
def p_l14 : PSt := { τ := [.v (.sl 0), .v (.sl 1)] ++ pu 3 ++ [.v (.int .i64)] ++ pu 21, saved := [[]], mem := [.row [.slice [.int .i64]] false, .row [.slice [.int .i64]] false] }
structure A_l14 where
  n : Nat
  n_2 : Nat
  j : Int
  r : Row
  s : Row
def d_l14 (its : List It) : Option A_l14 := match its with | [.n n, .n n_2, .i j, .r r, .r s] => some ⟨n, n_2, j, r, s⟩ | _ => none
def c_l14 (x : A_l14) : Bool := decide (x.j = 0 ∧ x.n_2 = x.n ∧ x.n ≤ 1000000 ∧ (∀ i, i < x.n → (x.r.R i 0).n ≤ 1000000))
theorem c_l14_iff {x : A_l14} : c_l14 x = true ↔ x.j = 0 ∧ x.n_2 = x.n ∧ x.n ≤ 1000000 ∧ (∀ i, i < x.n → (x.r.R i 0).n ≤ 1000000) := by unfold c_l14; rw [decide_eq_true_eq]
def l14 : ScanL A_l14 where
  f := 14
  id := 4
  lv := [0, 1, 5]
  lx := [4]
  p := p_l14
  dat := d_l14
  S := fun x j => [.n x.n, .n x.n, .i (j : Int), .r x.r, .r x.s]
  len := fun x => x.n
  cnd := c_l14
  bad := fun x j => !samI (x.r.R j 0) (x.s.R j 0)
  Kb := fun x j K => K .ret ⟨us 4 ++ [.bool (false)] ++ us 22, [[]], []⟩
  Ke := fun x K => K (.exit 0) ⟨us 27, [[]], []⟩
noncomputable def C14 : Cx := mkCx Tryz.prog fns [(15, Fsam)] [l14.C]
def p_l16 : PSt := { τ := [.v (.sl 0)] ++ pu 2 ++ [.v (.int .i64)] ++ pu 11, saved := [[]], mem := [.row [.int .i64] false] }
structure A_l16 where
  n : Nat
  j : Int
  r : Row
def d_l16 (its : List It) : Option A_l16 := match its with | [.n n, .i j, .r r] => some ⟨n, j, r⟩ | _ => none
def c_l16 (x : A_l16) : Bool := decide (x.j = 0 ∧ x.n ≤ 1000000)
theorem c_l16_iff {x : A_l16} : c_l16 x = true ↔ x.j = 0 ∧ x.n ≤ 1000000 := by unfold c_l16; rw [decide_eq_true_eq]
def l16 : ScanL A_l16 where
  f := 16
  id := 2
  lv := [0, 3]
  lx := [2]
  p := p_l16
  dat := d_l16
  S := fun x j => [.n x.n, .i (j : Int), .r x.r]
  len := fun x => x.n
  cnd := c_l16
  bad := fun x j => decide (x.r.I j 0 < 0)
  Kb := fun x j K => K .ret ⟨us 2 ++ [.bool (false)] ++ us 12, [[]], []⟩
  Ke := fun x K => K (.exit 0) ⟨us 15, [[]], []⟩
noncomputable def C16 : Cx := mkCx Tryz.prog fns [] [l16.C]
def p_l5 : PSt := { τ := pu 1 ++ [.v (.sl 0), .v (.c (.pointer (some ⟨1, 0, some 0⟩)))] ++ pu 2 ++ [.v (.int .i64)] ++ pu 27, saved := [[]], mem := [.row [.int .i64] false, .box [.v (.sl 2)], .row [.slice [.int .i64]] false] }
structure A_l5 where
  an : Nat
  j : Int
  a0 : Row
  rn : Nat
  r : Row
def d_l5 (its : List It) : Option A_l5 := match its with | [.n an, .i j, .r a0, .n rn, .r r] => some ⟨an, j, a0, rn, r⟩ | _ => none
def c_l5 (x : A_l5) : Bool := decide (x.j = 0 ∧ x.an = x.an)
theorem c_l5_iff {x : A_l5} : c_l5 x = true ↔ x.j = 0 ∧ x.an = x.an := by unfold c_l5; rw [decide_eq_true_eq]
def l5 : ScanL A_l5 where
  f := 5
  id := 2
  lv := [1, 2, 5]
  lx := [1, 2, 4]
  p := p_l5
  dat := d_l5
  S := fun x j => [.n x.an, .i (j : Int), .r x.a0, .n x.rn, .r x.r]
  len := fun x => min x.rn 20
  cnd := c_l5
  bad := fun x j => decide (((x.r.R j 0).n : Int) > 50)
  Kb := fun x j K => K .ret ⟨us 1 ++ [.slice (some ⟨0, 0, some 0⟩) (x.an) (0), .pointer (some ⟨1, 0, some 0⟩)] ++ us 1 ++ [.bool (true)] ++ us 28, [[]], [some (.row [.int .i64] false (x.a0)), some (.box [.slice (some ⟨2, 0, some 0⟩) (x.rn) (0)]), some (.row [.slice [.int .i64]] false (x.r))]⟩
  Ke := fun x K => K (.exit 0) ⟨us 1 ++ [.slice (some ⟨0, 0, some 0⟩) (x.an) (0), .pointer (some ⟨1, 0, some 0⟩)] ++ us 30, [[]], [some (.row [.int .i64] false (x.a0)), some (.box [.slice (some ⟨2, 0, some 0⟩) (x.rn) (0)]), some (.row [.slice [.int .i64]] false (x.r))]⟩
noncomputable def C5 : Cx := mkCx Tryz.prog fns [] [l5.C]
def p_l6 : PSt := { τ := pu 4 ++ [.v (.c (.pointer (some ⟨0, 0, some 0⟩)))] ++ pu 1 ++ [.v (.sl 1)] ++ pu 1 ++ [.v (.sl 2)] ++ pu 2 ++ [.v (.sl 3)] ++ pu 1 ++ [.v (.sl 4)] ++ pu 1 ++ [.v (.c (.pointer (some ⟨5, 0, some 0⟩)))] ++ pu 39 ++ [.v (.sl 6), .v (.int .i64), .v (.int .i64)] ++ pu 36, saved := [[]], mem := [.box [.v (.c (.int .u8 (0))), .v (.c (.slice none (0) (0))), .v (.c (.slice none (0) (0))), .v (.c (.int .u8 (0))), .v (.c (.slice none (0) (0))), .v (.c (.slice none (0) (0))), .v (.c (.slice none (0) (0))), .v (.c (.slice none (0) (0))), .v (.c (.int .i64 (0))), .v (.c (.slice none (0) (0))), .v (.c (.slice none (0) (0))), .v (.c (.int .i64 (0))), .v (.c (.slice none (0) (0))), .v (.c (.slice none (0) (0))), .v (.c (.int .u8 (0)))], .row [.int .i64, .int .i64] true, .row [.int .i64] true, .row [.int .i64, .int .i64] true, .row [.int .i64, .int .i64, .int .i64] true, .box [.v (.c (.int .u8 (2))), .v (.c (.slice none (0) (0))), .v (.c (.slice none (0) (0))), .v (.c (.int .u8 (0))), .v (.c (.slice none (0) (0))), .v (.sl 7), .v (.sl 8), .v (.c (.slice none (0) (0))), .v (.c (.int .i64 (0))), .v (.c (.slice none (0) (0))), .v (.c (.slice none (0) (0))), .v (.c (.int .i64 (0))), .v (.c (.slice none (0) (0))), .v (.c (.slice none (0) (0))), .v (.int .u8)], .row [.int .i64] false, .deep [.slice [.int .i64]], .row [.int .i64] true] }
structure A_l6 where
  en : Nat
  pn : Nat
  kn : Nat
  yn : Nat
  n : Nat
  len : Int
  j : Int
  ev : Row
  po : Row
  ki : Row
  ya : Row
  tn : Nat
  bn : Nat
  c : Int
  a0 : Row
  t : Row
  b : Row
def d_l6 (its : List It) : Option A_l6 := match its with | [.n en, .n pn, .n kn, .n yn, .n n, .i len, .i j, .r ev, .r po, .r ki, .r ya, .n tn, .n bn, .i c, .r a0, .r t, .r b] => some ⟨en, pn, kn, yn, n, len, j, ev, po, ki, ya, tn, bn, c, a0, t, b⟩ | _ => none
def c_l6 (x : A_l6) : Bool := decide (x.j = 0 ∧ x.len = x.n ∧ x.n ≤ 1000000)
theorem c_l6_iff {x : A_l6} : c_l6 x = true ↔ x.j = 0 ∧ x.len = x.n ∧ x.n ≤ 1000000 := by unfold c_l6; rw [decide_eq_true_eq]
def l6 : FoldL A_l6 (Int) where
  f := 6
  id := 9
  lv := [4, 6, 8, 11, 13, 15, 55, 56, 57]
  lx := [4, 5, 6, 8, 11, 13, 15]
  p := p_l6
  dat := d_l6
  S := fun x j a => [.n x.en, .n x.pn, .n x.kn, .n x.yn, .n x.n, .i (x.n : Int), .i (j : Int), .r x.ev, .r x.po, .r x.ki, .r x.ya, .n x.tn, .n x.bn, .i (a), .r x.a0, .r x.t, .r x.b]
  len := fun x => x.n
  cnd := c_l6
  ini := fun x => x.c
  nx := fun x j a => bif x.a0.I j 0 == -1 then 0 else a
  Ke := fun x a K => K (.exit 0) ⟨us 4 ++ [.pointer (some ⟨0, 0, some 0⟩)] ++ us 1 ++ [.slice (some ⟨1, 0, some 0⟩) (x.en) (0)] ++ us 1 ++ [.slice (some ⟨2, 0, some 0⟩) (x.pn) (0)] ++ us 2 ++ [.slice (some ⟨3, 0, some 0⟩) (x.kn) (0)] ++ us 1 ++ [.slice (some ⟨4, 0, some 0⟩) (x.yn) (0)] ++ us 1 ++ [.pointer (some ⟨5, 0, some 0⟩)] ++ us 78, [[]], [some (.box [.int .u8 (0), .slice none (0) (0), .slice none (0) (0), .int .u8 (0), .slice none (0) (0), .slice none (0) (0), .slice none (0) (0), .slice none (0) (0), i64 (0), .slice none (0) (0), .slice none (0) (0), i64 (0), .slice none (0) (0), .slice none (0) (0), .int .u8 (0)]), some (.row [.int .i64, .int .i64] true (x.ev)), some (.row [.int .i64] true (x.po)), some (.row [.int .i64, .int .i64] true (x.ki)), some (.row [.int .i64, .int .i64, .int .i64] true (x.ya)), some (.box [.int .u8 (2), .slice none (0) (0), .slice none (0) (0), .int .u8 (0), .slice none (0) (0), .slice (some ⟨6, 0, some 0⟩) (x.tn) (0), .slice (some ⟨7, 0, some 0⟩) (x.bn) (0), .slice none (0) (0), i64 (0), .slice none (0) (0), .slice none (0) (0), i64 (0), .slice none (0) (0), .slice none (0) (0), .int .u8 ((a))]), some (.deep [.slice [.int .i64]] (x.t) none), some (.row [.int .i64] true (x.b))]⟩
def twR (r : Row) : Row := win0 (fldN (fun j o => vApp o (cpy (r.R j 0))) r.n 0 .nil)
def Ftwi : List D → Option (Bool × List D)
  | [.slice [.slice [.int .i64]] r] => some (decide (r.n ≤ 1000000 ∧ ∀ i, i < r.n → (r.R i 0).n ≤ 1000000), [.slice [.slice [.int .i64]] (twR r)])
  | _ => none
noncomputable def C6 : Cx := mkCx Tryz.prog fns [(9, Fenv), (10, Fpoo), (11, Fone), (12, Fany), (19, Ftwi)] [l6.C]
def p_l32 : PSt := { τ := pu 5 ++ [.v (.sl 0), .v (.int .i64), .v (.int .i64)] ++ pu 7, saved := [[]], mem := [.row [.int .i64] false] }
structure A_l32 where
  n : Nat
  len : Int
  j : Int
  r : Row
def d_l32 (its : List It) : Option A_l32 := match its with | [.n n, .i len, .i j, .r r] => some ⟨n, len, j, r⟩ | _ => none
def c_l32 (x : A_l32) : Bool := decide (x.j = 0 ∧ x.len = x.n ∧ x.n ≤ 1000000)
theorem c_l32_iff {x : A_l32} : c_l32 x = true ↔ x.j = 0 ∧ x.len = x.n ∧ x.n ≤ 1000000 := by unfold c_l32; rw [decide_eq_true_eq]
def l32 : ScanL A_l32 where
  f := 32
  id := 2
  lv := [5, 6, 7]
  lx := [2]
  p := p_l32
  dat := d_l32
  S := fun x j => [.n x.n, .i (x.n : Int), .i (j : Int), .r x.r]
  len := fun x => x.n
  cnd := c_l32
  bad := fun x j => x.r.I j 0 != 0
  Kb := fun x j K => K .ret ⟨us 2 ++ [i64 (x.r.I j 0)] ++ us 12, [[]], []⟩
  Ke := fun x K => K (.exit 0) ⟨us 15, [[]], []⟩
noncomputable def C32 : Cx := mkCx Tryz.prog fns [] [l32.C]
theorem r_l19 (R : St → Option (List D)) (K : X → St → Option (List D)) (q : Nat) (on : Nat) (n : Nat) (len : Int) (j : Int) (o : Row) (r : Row) : bodyOf C19 19 3 q (Go.Ev.bst p_l19 [.n on, .n n, .i len, .i j, .r o, .r r]) (rnd [3, 6, 7, 8, 31470003] (some [2, 3]) R K) =
    br (decide (j < len)) (br (decide (0 ≤ j) && decide (j < (↑n : Int))) (br (decide (0 + (winOf (r.R (0 + j.toNat) 0) 0 (r.R (0 + j.toNat) 0).n).n ≤ 10000000000)) (br (decide (on + 1 ≤ 10000000000)) (R ⟨us 3 ++ [.slice (some ⟨0, 0, some 0⟩) (on + 1) (0)] ++ us 2 ++ [.slice (some ⟨1, 0, some 0⟩) (n) (0), i64 (len), i64 (IntKind.i64.wrap (j + 1))] ++ us 11, [[]], [some (.deep [.slice [.int .i64]] ((winOf o 0 on).app (winOf ((Row.zeros 1).setR 0 0 (winOf (Row.nil.app (winOf (r.R (0 + j.toNat) 0) 0 (r.R (0 + j.toNat) 0).n)) 0 (0 + (winOf (r.R (0 + j.toNat) 0) 0 (r.R (0 + j.toNat) 0).n).n))) 0 1)) none), some (.row [.slice [.int .i64]] false (r))]⟩) (none)) (none)) (none)) (K (.exit 0) ⟨us 3 ++ [.slice (some ⟨0, 0, some 0⟩) (on) (0)] ++ us 16, [[]], [some (.deep [.slice [.int .i64]] (o) none)]⟩) := by kernel_rfl
theorem r_l15 (R : St → Option (List D)) (K : X → St → Option (List D)) (q : Nat) (n : Nat) (n_2 : Nat) (j : Int) (r : Row) (s : Row) : bodyOf C15 15 4 q (Go.Ev.bst p_l15 [.n n, .n n_2, .i j, .r r, .r s]) (rnd [0, 1, 5] (some [4]) R K) =
    br (decide (j < (↑n : Int))) (br (decide (0 ≤ j) && decide (j < (↑n : Int))) (br (decide (0 ≤ j) && decide (j < (↑n_2 : Int))) (br (r.I (0 + j.toNat) 0 != s.I (0 + j.toNat) 0) (K .ret ⟨us 4 ++ [.bool (false)] ++ us 21, [[]], []⟩) (R ⟨[.slice (some ⟨0, 0, some 0⟩) (n) (0), .slice (some ⟨1, 0, some 0⟩) (n_2) (0)] ++ us 3 ++ [i64 (IntKind.i64.wrap (j + 1))] ++ us 20, [[]], [some (.row [.int .i64] false (r)), some (.row [.int .i64] false (s))]⟩)) (none)) (none)) (K (.exit 0) ⟨us 26, [[]], []⟩) := by kernel_rfl
theorem r_l14 (R : St → Option (List D)) (K : X → St → Option (List D)) (q : Nat) (n : Nat) (n_2 : Nat) (j : Int) (r : Row) (s : Row) : bodyOf C14 14 4 q (Go.Ev.bst p_l14 [.n n, .n n_2, .i j, .r r, .r s]) (rnd [0, 1, 5] (some [4]) R K) =
    br (decide (j < (↑n : Int))) (br (decide (0 ≤ j) && decide (j < (↑n : Int))) (br (decide (0 ≤ j) && decide (j < (↑n_2 : Int))) (br (decide ((winOf (r.R (0 + j.toNat) 0) 0 (r.R (0 + j.toNat) 0).n).n ≤ 1000000)) (br (!samI (winOf (r.R (0 + j.toNat) 0) 0 (r.R (0 + j.toNat) 0).n) (winOf (s.R (0 + j.toNat) 0) 0 (s.R (0 + j.toNat) 0).n)) (K .ret ⟨us 4 ++ [.bool (false)] ++ us 22, [[]], []⟩) (R ⟨[.slice (some ⟨0, 0, some 0⟩) (n) (0), .slice (some ⟨1, 0, some 0⟩) (n_2) (0)] ++ us 3 ++ [i64 (IntKind.i64.wrap (j + 1))] ++ us 21, [[]], [some (.row [.slice [.int .i64]] false (r)), some (.row [.slice [.int .i64]] false (s))]⟩)) (none)) (none)) (none)) (K (.exit 0) ⟨us 27, [[]], []⟩) := by kernel_rfl
theorem r_l16 (R : St → Option (List D)) (K : X → St → Option (List D)) (q : Nat) (n : Nat) (j : Int) (r : Row) : bodyOf C16 16 2 q (Go.Ev.bst p_l16 [.n n, .i j, .r r]) (rnd [0, 3] (some [2]) R K) =
    br (decide (j < (↑n : Int))) (br (decide (0 ≤ j) && decide (j < (↑n : Int))) (br (decide (r.I (0 + j.toNat) 0 < 0)) (K .ret ⟨us 2 ++ [.bool (false)] ++ us 12, [[]], []⟩) (R ⟨[.slice (some ⟨0, 0, some 0⟩) (n) (0)] ++ us 2 ++ [i64 (IntKind.i64.wrap (j + 1))] ++ us 11, [[]], [some (.row [.int .i64] false (r))]⟩)) (none)) (K (.exit 0) ⟨us 15, [[]], []⟩) := by kernel_rfl
theorem r_l5 (R : St → Option (List D)) (K : X → St → Option (List D)) (q : Nat) (an : Nat) (j : Int) (a0 : Row) (rn : Nat) (r : Row) : bodyOf C5 5 2 q (Go.Ev.bst p_l5 [.n an, .i j, .r a0, .n rn, .r r]) (rnd [1, 2, 5] (some [1, 2, 4]) R K) =
    br (decide (j < (↑rn : Int))) (br (decide (j < 20)) (br (decide (0 ≤ j) && decide (j < (↑rn : Int))) (br (decide ((↑(r.R (0 + j.toNat) 0).n : Int) > 50)) (K .ret ⟨us 1 ++ [.slice (some ⟨0, 0, some 0⟩) (an) (0), .pointer (some ⟨1, 0, some 0⟩)] ++ us 1 ++ [.bool (true)] ++ us 28, [[]], [some (.row [.int .i64] false (a0)), some (.box [.slice (some ⟨2, 0, some 0⟩) (rn) (0)]), some (.row [.slice [.int .i64]] false (r))]⟩) (R ⟨us 1 ++ [.slice (some ⟨0, 0, some 0⟩) (an) (0), .pointer (some ⟨1, 0, some 0⟩)] ++ us 2 ++ [i64 (IntKind.i64.wrap (j + 1))] ++ us 27, [[]], [some (.row [.int .i64] false (a0)), some (.box [.slice (some ⟨2, 0, some 0⟩) (rn) (0)]), some (.row [.slice [.int .i64]] false (r))]⟩)) (none)) (K (.exit 0) ⟨us 1 ++ [.slice (some ⟨0, 0, some 0⟩) (an) (0), .pointer (some ⟨1, 0, some 0⟩)] ++ us 30, [[]], [some (.row [.int .i64] false (a0)), some (.box [.slice (some ⟨2, 0, some 0⟩) (rn) (0)]), some (.row [.slice [.int .i64]] false (r))]⟩)) (K (.exit 0) ⟨us 1 ++ [.slice (some ⟨0, 0, some 0⟩) (an) (0), .pointer (some ⟨1, 0, some 0⟩)] ++ us 30, [[]], [some (.row [.int .i64] false (a0)), some (.box [.slice (some ⟨2, 0, some 0⟩) (rn) (0)]), some (.row [.slice [.int .i64]] false (r))]⟩) := by kernel_rfl
theorem r_l6 (R : St → Option (List D)) (K : X → St → Option (List D)) (q : Nat) (en : Nat) (pn : Nat) (kn : Nat) (yn : Nat) (n : Nat) (len : Int) (j : Int) (ev : Row) (po : Row) (ki : Row) (ya : Row) (tn : Nat) (bn : Nat) (c : Int) (a0 : Row) (t : Row) (b : Row) : bodyOf C6 6 9 q (Go.Ev.bst p_l6 [.n en, .n pn, .n kn, .n yn, .n n, .i len, .i j, .r ev, .r po, .r ki, .r ya, .n tn, .n bn, .i c, .r a0, .r t, .r b]) (rnd [4, 6, 8, 11, 13, 15, 55, 56, 57] (some [4, 5, 6, 8, 11, 13, 15]) R K) =
    br (decide (j < len)) (br (decide (0 ≤ j) && decide (j < (↑n : Int))) (br (a0.I (0 + j.toNat) 0 == -1) (R ⟨us 4 ++ [.pointer (some ⟨0, 0, some 0⟩)] ++ us 1 ++ [.slice (some ⟨1, 0, some 0⟩) (en) (0)] ++ us 1 ++ [.slice (some ⟨2, 0, some 0⟩) (pn) (0)] ++ us 2 ++ [.slice (some ⟨3, 0, some 0⟩) (kn) (0)] ++ us 1 ++ [.slice (some ⟨4, 0, some 0⟩) (yn) (0)] ++ us 1 ++ [.pointer (some ⟨5, 0, some 0⟩)] ++ us 39 ++ [.slice (some ⟨6, 0, some 0⟩) (n) (0), i64 (len), i64 (IntKind.i64.wrap (j + 1))] ++ us 36, [[]], [some (.box [.int .u8 (0), .slice none (0) (0), .slice none (0) (0), .int .u8 (0), .slice none (0) (0), .slice none (0) (0), .slice none (0) (0), .slice none (0) (0), i64 (0), .slice none (0) (0), .slice none (0) (0), i64 (0), .slice none (0) (0), .slice none (0) (0), .int .u8 (0)]), some (.row [.int .i64, .int .i64] true (ev)), some (.row [.int .i64] true (po)), some (.row [.int .i64, .int .i64] true (ki)), some (.row [.int .i64, .int .i64, .int .i64] true (ya)), some (.box [.int .u8 (2), .slice none (0) (0), .slice none (0) (0), .int .u8 (0), .slice none (0) (0), .slice (some ⟨7, 0, some 0⟩) (tn) (0), .slice (some ⟨8, 0, some 0⟩) (bn) (0), .slice none (0) (0), i64 (0), .slice none (0) (0), .slice none (0) (0), i64 (0), .slice none (0) (0), .slice none (0) (0), .int .u8 (0)]), some (.row [.int .i64] false (a0)), some (.deep [.slice [.int .i64]] (t) none), some (.row [.int .i64] true (b))]⟩) (R ⟨us 4 ++ [.pointer (some ⟨0, 0, some 0⟩)] ++ us 1 ++ [.slice (some ⟨1, 0, some 0⟩) (en) (0)] ++ us 1 ++ [.slice (some ⟨2, 0, some 0⟩) (pn) (0)] ++ us 2 ++ [.slice (some ⟨3, 0, some 0⟩) (kn) (0)] ++ us 1 ++ [.slice (some ⟨4, 0, some 0⟩) (yn) (0)] ++ us 1 ++ [.pointer (some ⟨5, 0, some 0⟩)] ++ us 39 ++ [.slice (some ⟨6, 0, some 0⟩) (n) (0), i64 (len), i64 (IntKind.i64.wrap (j + 1))] ++ us 36, [[]], [some (.box [.int .u8 (0), .slice none (0) (0), .slice none (0) (0), .int .u8 (0), .slice none (0) (0), .slice none (0) (0), .slice none (0) (0), .slice none (0) (0), i64 (0), .slice none (0) (0), .slice none (0) (0), i64 (0), .slice none (0) (0), .slice none (0) (0), .int .u8 (0)]), some (.row [.int .i64, .int .i64] true (ev)), some (.row [.int .i64] true (po)), some (.row [.int .i64, .int .i64] true (ki)), some (.row [.int .i64, .int .i64, .int .i64] true (ya)), some (.box [.int .u8 (2), .slice none (0) (0), .slice none (0) (0), .int .u8 (0), .slice none (0) (0), .slice (some ⟨7, 0, some 0⟩) (tn) (0), .slice (some ⟨8, 0, some 0⟩) (bn) (0), .slice none (0) (0), i64 (0), .slice none (0) (0), .slice none (0) (0), i64 (0), .slice none (0) (0), .slice none (0) (0), .int .u8 (c)]), some (.row [.int .i64] false (a0)), some (.deep [.slice [.int .i64]] (t) none), some (.row [.int .i64] true (b))]⟩)) (none)) (K (.exit 0) ⟨us 4 ++ [.pointer (some ⟨0, 0, some 0⟩)] ++ us 1 ++ [.slice (some ⟨1, 0, some 0⟩) (en) (0)] ++ us 1 ++ [.slice (some ⟨2, 0, some 0⟩) (pn) (0)] ++ us 2 ++ [.slice (some ⟨3, 0, some 0⟩) (kn) (0)] ++ us 1 ++ [.slice (some ⟨4, 0, some 0⟩) (yn) (0)] ++ us 1 ++ [.pointer (some ⟨5, 0, some 0⟩)] ++ us 78, [[]], [some (.box [.int .u8 (0), .slice none (0) (0), .slice none (0) (0), .int .u8 (0), .slice none (0) (0), .slice none (0) (0), .slice none (0) (0), .slice none (0) (0), i64 (0), .slice none (0) (0), .slice none (0) (0), i64 (0), .slice none (0) (0), .slice none (0) (0), .int .u8 (0)]), some (.row [.int .i64, .int .i64] true (ev)), some (.row [.int .i64] true (po)), some (.row [.int .i64, .int .i64] true (ki)), some (.row [.int .i64, .int .i64, .int .i64] true (ya)), some (.box [.int .u8 (2), .slice none (0) (0), .slice none (0) (0), .int .u8 (0), .slice none (0) (0), .slice (some ⟨6, 0, some 0⟩) (tn) (0), .slice (some ⟨7, 0, some 0⟩) (bn) (0), .slice none (0) (0), i64 (0), .slice none (0) (0), .slice none (0) (0), i64 (0), .slice none (0) (0), .slice none (0) (0), .int .u8 (c)]), some (.deep [.slice [.int .i64]] (t) none), some (.row [.int .i64] true (b))]⟩) := by kernel_rfl
theorem r_l32 (R : St → Option (List D)) (K : X → St → Option (List D)) (q : Nat) (n : Nat) (len : Int) (j : Int) (r : Row) : bodyOf C32 32 2 q (Go.Ev.bst p_l32 [.n n, .i len, .i j, .r r]) (rnd [5, 6, 7] (some [2]) R K) =
    br (decide (j < len)) (br (decide (0 ≤ j) && decide (j < (↑n : Int))) (br (r.I (0 + j.toNat) 0 != 0) (K .ret ⟨us 2 ++ [i64 (r.I (0 + j.toNat) 0)] ++ us 12, [[]], []⟩) (R ⟨us 5 ++ [.slice (some ⟨0, 0, some 0⟩) (n) (0), i64 (len), i64 (IntKind.i64.wrap (j + 1))] ++ us 7, [[]], [some (.row [.int .i64] false (r))]⟩)) (none)) (K (.exit 0) ⟨us 15, [[]], []⟩) := by kernel_rfl
theorem u32 (r : Row) : evF C32 6 32 [.slice ksI r] =
    br (c_l32 { n := r.n, len := (↑r.n : Int), j := 0, r := r : A_l32 }) (br (anyF (fun j => { n := r.n, len := (↑r.n : Int), j := 0, r := r : A_l32 }.r.I j 0 != 0) r.n 0) (some [.v (i64 (r.I (fstF (fun j => { n := r.n, len := (↑r.n : Int), j := 0, r := r : A_l32 }.r.I j 0 != 0) r.n 0) 0))]) (some [.v (i64 (0))])) (none) := by kernel_rfl
theorem u19 (r : Row) : evF C19 6 19 [.slice ksV r] =
    br (c_l19 { on := 0, n := r.n, len := (↑r.n : Int), j := 0, o := Row.nil, r := r : A_l19 }) (some [.slice [.slice [.int .i64]] (winOf (fldN (fun j a => vApp a (cpy ({ on := 0, n := r.n, len := (↑r.n : Int), j := 0, o := Row.nil, r := r : A_l19 }.r.R j 0))) r.n 0 Row.nil) 0 (fldN (fun j a => vApp a (cpy ({ on := 0, n := r.n, len := (↑r.n : Int), j := 0, o := Row.nil, r := r : A_l19 }.r.R j 0))) r.n 0 Row.nil).n)]) (none) := by kernel_rfl
theorem u15 (r s : Row) : evF C15 6 15 [.slice ksI r, .slice ksI s] =
    br ((↑r.n : Int) != (↑s.n : Int)) (some [.v (.bool (false))]) (br (c_l15 { n := r.n, n_2 := s.n, j := 0, r := r, s := s : A_l15 }) (br (anyF (fun j => { n := r.n, n_2 := s.n, j := 0, r := r, s := s : A_l15 }.r.I j 0 != { n := r.n, n_2 := s.n, j := 0, r := r, s := s : A_l15 }.s.I j 0) r.n 0) (some [.v (.bool (false))]) (some [.v (.bool (true))])) (none)) := by kernel_rfl
theorem u14 (r s : Row) : evF C14 6 14 [.slice ksV r, .slice ksV s] =
    br ((↑r.n : Int) != (↑s.n : Int)) (some [.v (.bool (false))]) (br (c_l14 { n := r.n, n_2 := s.n, j := 0, r := r, s := s : A_l14 }) (br (anyF (fun j => !samI ({ n := r.n, n_2 := s.n, j := 0, r := r, s := s : A_l14 }.r.R j 0) ({ n := r.n, n_2 := s.n, j := 0, r := r, s := s : A_l14 }.s.R j 0)) r.n 0) (some [.v (.bool (false))]) (some [.v (.bool (true))])) (none)) := by kernel_rfl
theorem u16 (r : Row) : evF C16 6 16 [.slice ksI r] =
    br (c_l16 { n := r.n, j := 0, r := r : A_l16 }) (br (anyF (fun j => decide ({ n := r.n, j := 0, r := r : A_l16 }.r.I j 0 < 0)) r.n 0) (some [.v (.bool (false))]) (some [.v (.bool (true))])) (none) := by kernel_rfl
theorem u5 (r a : Row) : evF C5 6 5 [.agg [.slice ksV r], .slice ksI a] =
    br (c_l5 { an := a.n, j := 0, a0 := a, rn := r.n, r := r : A_l5 }) (br (anyF (fun j => decide ((↑({ an := a.n, j := 0, a0 := a, rn := r.n, r := r : A_l5 }.r.R j 0).n : Int) > 50)) (min r.n 20) 0) (some [.v (.bool (true))]) (br (decide ((↑{ an := a.n, j := 0, a0 := a, rn := r.n, r := r : A_l5 }.rn : Int) > 20)) (some [.v (.bool (true))]) (some [.v (.bool (decide ((↑{ an := a.n, j := 0, a0 := a, rn := r.n, r := r : A_l5 }.an : Int) > 50)))]))) (none) := by kernel_rfl
theorem u6 (r a : Row) : evF C6 6 6 [.agg [.slice ksV r], .slice ksI a] =
    br (decide ((winOf r 0 r.n).n ≤ 1000000 ∧ (winOf a 0 a.n).n ≤ 1000000)) (br (valE (winOf r 0 r.n) (winOf a 0 a.n) != 0) (some [.agg [.v (.int .u8 (0)), .slice [.int .i64, .slice [.int .i64], .slice [.int .i64]] (Row.nil), .slice [.slice [.int .i64, .int .i64, .int .i64, .int .i64]] (Row.nil), .v (.int .u8 (0)), .slice [.slice [.int .i64, .int .i64]] (Row.nil), .slice [.slice [.int .i64]] (Row.nil), .slice [.int .i64] (Row.nil), .slice [.slice [.int .i64]] (Row.nil), .v (i64 (0)), .slice [.int .i64] (Row.nil), .slice [.int .i64] (Row.nil), .v (i64 (0)), .slice [.int .i64] (Row.nil), .slice [.int .i64, .int .i64, .int .i64] (Row.nil), .v (.int .u8 (0))], .v (i64 (valE (winOf r 0 r.n) (winOf a 0 a.n)))]) (br (decide ((winOf r 0 r.n).n ≤ 1000000 ∧ (winOf a 0 a.n).n ≤ 1000000)) (br (decide ((winOf r 0 r.n).n ≤ 1000000 ∧ (winOf a 0 a.n).n ≤ 1000000)) (br (decide ((winOf r 0 r.n).n ≤ 1000000 ∧ (winOf a 0 a.n).n ≤ 1000000)) (br (decide ((winOf r 0 r.n).n ≤ 1000000 ∧ ∀ (i : Nat), i < (winOf r 0 r.n).n → ((winOf r 0 r.n).R i 0).n ≤ 1000000)) (br (decide (0 + (winOf a 0 a.n).n ≤ 10000000000)) (br (c_l6 { en := (envR (winOf r 0 r.n) (winOf a 0 a.n)).n, pn := (pooR (winOf r 0 r.n) (winOf a 0 a.n)).n, kn := (onK (winOf r 0 r.n) (winOf a 0 a.n)).n, yn := (anyR (winOf r 0 r.n) (winOf a 0 a.n)).n, n := a.n, len := (↑a.n : Int), j := 0, ev := envR (winOf r 0 r.n) (winOf a 0 a.n), po := pooR (winOf r 0 r.n) (winOf a 0 a.n), ki := onK (winOf r 0 r.n) (winOf a 0 a.n), ya := anyR (winOf r 0 r.n) (winOf a 0 a.n), tn := (twR (winOf r 0 r.n)).n, bn := 0 + (winOf a 0 a.n).n, c := 1, a0 := a, t := twR (winOf r 0 r.n), b := Row.nil.app (winOf a 0 a.n) : A_l6 }) (br ((↑(envR (winOf r 0 r.n) (winOf a 0 a.n)).n : Int) == 0) (br ((↑(pooR (winOf r 0 r.n) (winOf a 0 a.n)).n : Int) == 0) (br ((↑(onK (winOf r 0 r.n) (winOf a 0 a.n)).n : Int) == 0) (br ((↑(anyR (winOf r 0 r.n) (winOf a 0 a.n)).n : Int) == 0) (some [.agg [.v (.int .u8 (2)), .slice [.int .i64, .slice [.int .i64], .slice [.int .i64]] (Row.nil), .slice [.slice [.int .i64, .int .i64, .int .i64, .int .i64]] (Row.nil), .v (.int .u8 (0)), .slice [.slice [.int .i64, .int .i64]] (Row.nil), .slice [.slice [.int .i64]] (winOf (twR (winOf r 0 r.n)) 0 (twR (winOf r 0 r.n)).n), .slice [.int .i64] (winOf (Row.nil.app (winOf a 0 a.n)) 0 (0 + (winOf a 0 a.n).n)), .slice [.slice [.int .i64]] (Row.nil), .v (i64 (0)), .slice [.int .i64] (Row.nil), .slice [.int .i64] (Row.nil), .v (i64 (0)), .slice [.int .i64] (Row.nil), .slice [.int .i64, .int .i64, .int .i64] (Row.nil), .v (.int .u8 (IntKind.u8.wrap (↑(BitVec.ofInt 8 (IntKind.u8.wrap (↑(BitVec.ofInt 8 (IntKind.u8.wrap (↑(BitVec.ofInt 8 (IntKind.u8.wrap (↑(BitVec.ofInt 8 (fldN (fun j a_1 => bif { en := (envR (winOf r 0 r.n) (winOf a 0 a.n)).n, pn := (pooR (winOf r 0 r.n) (winOf a 0 a.n)).n, kn := (onK (winOf r 0 r.n) (winOf a 0 a.n)).n, yn := (anyR (winOf r 0 r.n) (winOf a 0 a.n)).n, n := a.n, len := (↑a.n : Int), j := 0, ev := envR (winOf r 0 r.n) (winOf a 0 a.n), po := pooR (winOf r 0 r.n) (winOf a 0 a.n), ki := onK (winOf r 0 r.n) (winOf a 0 a.n), ya := anyR (winOf r 0 r.n) (winOf a 0 a.n), tn := (twR (winOf r 0 r.n)).n, bn := 0 + (winOf a 0 a.n).n, c := 1, a0 := a, t := twR (winOf r 0 r.n), b := Row.nil.app (winOf a 0 a.n) : A_l6 }.a0.I j 0 == -1 then 0 else a_1) a.n 0 1) ||| BitVec.ofInt 8 2).toNat : Int)) ||| BitVec.ofInt 8 4).toNat : Int)) ||| BitVec.ofInt 8 8).toNat : Int)) ||| BitVec.ofInt 8 16).toNat : Int)))], .v (i64 (0))]) (some [.agg [.v (.int .u8 (2)), .slice [.int .i64, .slice [.int .i64], .slice [.int .i64]] (Row.nil), .slice [.slice [.int .i64, .int .i64, .int .i64, .int .i64]] (Row.nil), .v (.int .u8 (0)), .slice [.slice [.int .i64, .int .i64]] (Row.nil), .slice [.slice [.int .i64]] (winOf (twR (winOf r 0 r.n)) 0 (twR (winOf r 0 r.n)).n), .slice [.int .i64] (winOf (Row.nil.app (winOf a 0 a.n)) 0 (0 + (winOf a 0 a.n).n)), .slice [.slice [.int .i64]] (Row.nil), .v (i64 (0)), .slice [.int .i64] (Row.nil), .slice [.int .i64] (Row.nil), .v (i64 (0)), .slice [.int .i64] (Row.nil), .slice [.int .i64, .int .i64, .int .i64] (Row.nil), .v (.int .u8 (IntKind.u8.wrap (↑(BitVec.ofInt 8 (IntKind.u8.wrap (↑(BitVec.ofInt 8 (IntKind.u8.wrap (↑(BitVec.ofInt 8 (fldN (fun j a_1 => bif { en := (envR (winOf r 0 r.n) (winOf a 0 a.n)).n, pn := (pooR (winOf r 0 r.n) (winOf a 0 a.n)).n, kn := (onK (winOf r 0 r.n) (winOf a 0 a.n)).n, yn := (anyR (winOf r 0 r.n) (winOf a 0 a.n)).n, n := a.n, len := (↑a.n : Int), j := 0, ev := envR (winOf r 0 r.n) (winOf a 0 a.n), po := pooR (winOf r 0 r.n) (winOf a 0 a.n), ki := onK (winOf r 0 r.n) (winOf a 0 a.n), ya := anyR (winOf r 0 r.n) (winOf a 0 a.n), tn := (twR (winOf r 0 r.n)).n, bn := 0 + (winOf a 0 a.n).n, c := 1, a0 := a, t := twR (winOf r 0 r.n), b := Row.nil.app (winOf a 0 a.n) : A_l6 }.a0.I j 0 == -1 then 0 else a_1) a.n 0 1) ||| BitVec.ofInt 8 2).toNat : Int)) ||| BitVec.ofInt 8 4).toNat : Int)) ||| BitVec.ofInt 8 8).toNat : Int)))], .v (i64 (0))])) (br ((↑(anyR (winOf r 0 r.n) (winOf a 0 a.n)).n : Int) == 0) (some [.agg [.v (.int .u8 (2)), .slice [.int .i64, .slice [.int .i64], .slice [.int .i64]] (Row.nil), .slice [.slice [.int .i64, .int .i64, .int .i64, .int .i64]] (Row.nil), .v (.int .u8 (0)), .slice [.slice [.int .i64, .int .i64]] (Row.nil), .slice [.slice [.int .i64]] (winOf (twR (winOf r 0 r.n)) 0 (twR (winOf r 0 r.n)).n), .slice [.int .i64] (winOf (Row.nil.app (winOf a 0 a.n)) 0 (0 + (winOf a 0 a.n).n)), .slice [.slice [.int .i64]] (Row.nil), .v (i64 (0)), .slice [.int .i64] (Row.nil), .slice [.int .i64] (Row.nil), .v (i64 (0)), .slice [.int .i64] (Row.nil), .slice [.int .i64, .int .i64, .int .i64] (Row.nil), .v (.int .u8 (IntKind.u8.wrap (↑(BitVec.ofInt 8 (IntKind.u8.wrap (↑(BitVec.ofInt 8 (IntKind.u8.wrap (↑(BitVec.ofInt 8 (fldN (fun j a_1 => bif { en := (envR (winOf r 0 r.n) (winOf a 0 a.n)).n, pn := (pooR (winOf r 0 r.n) (winOf a 0 a.n)).n, kn := (onK (winOf r 0 r.n) (winOf a 0 a.n)).n, yn := (anyR (winOf r 0 r.n) (winOf a 0 a.n)).n, n := a.n, len := (↑a.n : Int), j := 0, ev := envR (winOf r 0 r.n) (winOf a 0 a.n), po := pooR (winOf r 0 r.n) (winOf a 0 a.n), ki := onK (winOf r 0 r.n) (winOf a 0 a.n), ya := anyR (winOf r 0 r.n) (winOf a 0 a.n), tn := (twR (winOf r 0 r.n)).n, bn := 0 + (winOf a 0 a.n).n, c := 1, a0 := a, t := twR (winOf r 0 r.n), b := Row.nil.app (winOf a 0 a.n) : A_l6 }.a0.I j 0 == -1 then 0 else a_1) a.n 0 1) ||| BitVec.ofInt 8 2).toNat : Int)) ||| BitVec.ofInt 8 4).toNat : Int)) ||| BitVec.ofInt 8 16).toNat : Int)))], .v (i64 (0))]) (some [.agg [.v (.int .u8 (2)), .slice [.int .i64, .slice [.int .i64], .slice [.int .i64]] (Row.nil), .slice [.slice [.int .i64, .int .i64, .int .i64, .int .i64]] (Row.nil), .v (.int .u8 (0)), .slice [.slice [.int .i64, .int .i64]] (Row.nil), .slice [.slice [.int .i64]] (winOf (twR (winOf r 0 r.n)) 0 (twR (winOf r 0 r.n)).n), .slice [.int .i64] (winOf (Row.nil.app (winOf a 0 a.n)) 0 (0 + (winOf a 0 a.n).n)), .slice [.slice [.int .i64]] (Row.nil), .v (i64 (0)), .slice [.int .i64] (Row.nil), .slice [.int .i64] (Row.nil), .v (i64 (0)), .slice [.int .i64] (Row.nil), .slice [.int .i64, .int .i64, .int .i64] (Row.nil), .v (.int .u8 (IntKind.u8.wrap (↑(BitVec.ofInt 8 (IntKind.u8.wrap (↑(BitVec.ofInt 8 (fldN (fun j a_1 => bif { en := (envR (winOf r 0 r.n) (winOf a 0 a.n)).n, pn := (pooR (winOf r 0 r.n) (winOf a 0 a.n)).n, kn := (onK (winOf r 0 r.n) (winOf a 0 a.n)).n, yn := (anyR (winOf r 0 r.n) (winOf a 0 a.n)).n, n := a.n, len := (↑a.n : Int), j := 0, ev := envR (winOf r 0 r.n) (winOf a 0 a.n), po := pooR (winOf r 0 r.n) (winOf a 0 a.n), ki := onK (winOf r 0 r.n) (winOf a 0 a.n), ya := anyR (winOf r 0 r.n) (winOf a 0 a.n), tn := (twR (winOf r 0 r.n)).n, bn := 0 + (winOf a 0 a.n).n, c := 1, a0 := a, t := twR (winOf r 0 r.n), b := Row.nil.app (winOf a 0 a.n) : A_l6 }.a0.I j 0 == -1 then 0 else a_1) a.n 0 1) ||| BitVec.ofInt 8 2).toNat : Int)) ||| BitVec.ofInt 8 4).toNat : Int)))], .v (i64 (0))]))) (br ((↑(onK (winOf r 0 r.n) (winOf a 0 a.n)).n : Int) == 0) (br ((↑(anyR (winOf r 0 r.n) (winOf a 0 a.n)).n : Int) == 0) (some [.agg [.v (.int .u8 (2)), .slice [.int .i64, .slice [.int .i64], .slice [.int .i64]] (Row.nil), .slice [.slice [.int .i64, .int .i64, .int .i64, .int .i64]] (Row.nil), .v (.int .u8 (0)), .slice [.slice [.int .i64, .int .i64]] (Row.nil), .slice [.slice [.int .i64]] (winOf (twR (winOf r 0 r.n)) 0 (twR (winOf r 0 r.n)).n), .slice [.int .i64] (winOf (Row.nil.app (winOf a 0 a.n)) 0 (0 + (winOf a 0 a.n).n)), .slice [.slice [.int .i64]] (Row.nil), .v (i64 (0)), .slice [.int .i64] (Row.nil), .slice [.int .i64] (Row.nil), .v (i64 (0)), .slice [.int .i64] (Row.nil), .slice [.int .i64, .int .i64, .int .i64] (Row.nil), .v (.int .u8 (IntKind.u8.wrap (↑(BitVec.ofInt 8 (IntKind.u8.wrap (↑(BitVec.ofInt 8 (IntKind.u8.wrap (↑(BitVec.ofInt 8 (fldN (fun j a_1 => bif { en := (envR (winOf r 0 r.n) (winOf a 0 a.n)).n, pn := (pooR (winOf r 0 r.n) (winOf a 0 a.n)).n, kn := (onK (winOf r 0 r.n) (winOf a 0 a.n)).n, yn := (anyR (winOf r 0 r.n) (winOf a 0 a.n)).n, n := a.n, len := (↑a.n : Int), j := 0, ev := envR (winOf r 0 r.n) (winOf a 0 a.n), po := pooR (winOf r 0 r.n) (winOf a 0 a.n), ki := onK (winOf r 0 r.n) (winOf a 0 a.n), ya := anyR (winOf r 0 r.n) (winOf a 0 a.n), tn := (twR (winOf r 0 r.n)).n, bn := 0 + (winOf a 0 a.n).n, c := 1, a0 := a, t := twR (winOf r 0 r.n), b := Row.nil.app (winOf a 0 a.n) : A_l6 }.a0.I j 0 == -1 then 0 else a_1) a.n 0 1) ||| BitVec.ofInt 8 2).toNat : Int)) ||| BitVec.ofInt 8 8).toNat : Int)) ||| BitVec.ofInt 8 16).toNat : Int)))], .v (i64 (0))]) (some [.agg [.v (.int .u8 (2)), .slice [.int .i64, .slice [.int .i64], .slice [.int .i64]] (Row.nil), .slice [.slice [.int .i64, .int .i64, .int .i64, .int .i64]] (Row.nil), .v (.int .u8 (0)), .slice [.slice [.int .i64, .int .i64]] (Row.nil), .slice [.slice [.int .i64]] (winOf (twR (winOf r 0 r.n)) 0 (twR (winOf r 0 r.n)).n), .slice [.int .i64] (winOf (Row.nil.app (winOf a 0 a.n)) 0 (0 + (winOf a 0 a.n).n)), .slice [.slice [.int .i64]] (Row.nil), .v (i64 (0)), .slice [.int .i64] (Row.nil), .slice [.int .i64] (Row.nil), .v (i64 (0)), .slice [.int .i64] (Row.nil), .slice [.int .i64, .int .i64, .int .i64] (Row.nil), .v (.int .u8 (IntKind.u8.wrap (↑(BitVec.ofInt 8 (IntKind.u8.wrap (↑(BitVec.ofInt 8 (fldN (fun j a_1 => bif { en := (envR (winOf r 0 r.n) (winOf a 0 a.n)).n, pn := (pooR (winOf r 0 r.n) (winOf a 0 a.n)).n, kn := (onK (winOf r 0 r.n) (winOf a 0 a.n)).n, yn := (anyR (winOf r 0 r.n) (winOf a 0 a.n)).n, n := a.n, len := (↑a.n : Int), j := 0, ev := envR (winOf r 0 r.n) (winOf a 0 a.n), po := pooR (winOf r 0 r.n) (winOf a 0 a.n), ki := onK (winOf r 0 r.n) (winOf a 0 a.n), ya := anyR (winOf r 0 r.n) (winOf a 0 a.n), tn := (twR (winOf r 0 r.n)).n, bn := 0 + (winOf a 0 a.n).n, c := 1, a0 := a, t := twR (winOf r 0 r.n), b := Row.nil.app (winOf a 0 a.n) : A_l6 }.a0.I j 0 == -1 then 0 else a_1) a.n 0 1) ||| BitVec.ofInt 8 2).toNat : Int)) ||| BitVec.ofInt 8 8).toNat : Int)))], .v (i64 (0))])) (br ((↑(anyR (winOf r 0 r.n) (winOf a 0 a.n)).n : Int) == 0) (some [.agg [.v (.int .u8 (2)), .slice [.int .i64, .slice [.int .i64], .slice [.int .i64]] (Row.nil), .slice [.slice [.int .i64, .int .i64, .int .i64, .int .i64]] (Row.nil), .v (.int .u8 (0)), .slice [.slice [.int .i64, .int .i64]] (Row.nil), .slice [.slice [.int .i64]] (winOf (twR (winOf r 0 r.n)) 0 (twR (winOf r 0 r.n)).n), .slice [.int .i64] (winOf (Row.nil.app (winOf a 0 a.n)) 0 (0 + (winOf a 0 a.n).n)), .slice [.slice [.int .i64]] (Row.nil), .v (i64 (0)), .slice [.int .i64] (Row.nil), .slice [.int .i64] (Row.nil), .v (i64 (0)), .slice [.int .i64] (Row.nil), .slice [.int .i64, .int .i64, .int .i64] (Row.nil), .v (.int .u8 (IntKind.u8.wrap (↑(BitVec.ofInt 8 (IntKind.u8.wrap (↑(BitVec.ofInt 8 (fldN (fun j a_1 => bif { en := (envR (winOf r 0 r.n) (winOf a 0 a.n)).n, pn := (pooR (winOf r 0 r.n) (winOf a 0 a.n)).n, kn := (onK (winOf r 0 r.n) (winOf a 0 a.n)).n, yn := (anyR (winOf r 0 r.n) (winOf a 0 a.n)).n, n := a.n, len := (↑a.n : Int), j := 0, ev := envR (winOf r 0 r.n) (winOf a 0 a.n), po := pooR (winOf r 0 r.n) (winOf a 0 a.n), ki := onK (winOf r 0 r.n) (winOf a 0 a.n), ya := anyR (winOf r 0 r.n) (winOf a 0 a.n), tn := (twR (winOf r 0 r.n)).n, bn := 0 + (winOf a 0 a.n).n, c := 1, a0 := a, t := twR (winOf r 0 r.n), b := Row.nil.app (winOf a 0 a.n) : A_l6 }.a0.I j 0 == -1 then 0 else a_1) a.n 0 1) ||| BitVec.ofInt 8 2).toNat : Int)) ||| BitVec.ofInt 8 16).toNat : Int)))], .v (i64 (0))]) (some [.agg [.v (.int .u8 (2)), .slice [.int .i64, .slice [.int .i64], .slice [.int .i64]] (Row.nil), .slice [.slice [.int .i64, .int .i64, .int .i64, .int .i64]] (Row.nil), .v (.int .u8 (0)), .slice [.slice [.int .i64, .int .i64]] (Row.nil), .slice [.slice [.int .i64]] (winOf (twR (winOf r 0 r.n)) 0 (twR (winOf r 0 r.n)).n), .slice [.int .i64] (winOf (Row.nil.app (winOf a 0 a.n)) 0 (0 + (winOf a 0 a.n).n)), .slice [.slice [.int .i64]] (Row.nil), .v (i64 (0)), .slice [.int .i64] (Row.nil), .slice [.int .i64] (Row.nil), .v (i64 (0)), .slice [.int .i64] (Row.nil), .slice [.int .i64, .int .i64, .int .i64] (Row.nil), .v (.int .u8 (IntKind.u8.wrap (↑(BitVec.ofInt 8 (fldN (fun j a_1 => bif { en := (envR (winOf r 0 r.n) (winOf a 0 a.n)).n, pn := (pooR (winOf r 0 r.n) (winOf a 0 a.n)).n, kn := (onK (winOf r 0 r.n) (winOf a 0 a.n)).n, yn := (anyR (winOf r 0 r.n) (winOf a 0 a.n)).n, n := a.n, len := (↑a.n : Int), j := 0, ev := envR (winOf r 0 r.n) (winOf a 0 a.n), po := pooR (winOf r 0 r.n) (winOf a 0 a.n), ki := onK (winOf r 0 r.n) (winOf a 0 a.n), ya := anyR (winOf r 0 r.n) (winOf a 0 a.n), tn := (twR (winOf r 0 r.n)).n, bn := 0 + (winOf a 0 a.n).n, c := 1, a0 := a, t := twR (winOf r 0 r.n), b := Row.nil.app (winOf a 0 a.n) : A_l6 }.a0.I j 0 == -1 then 0 else a_1) a.n 0 1) ||| BitVec.ofInt 8 2).toNat : Int)))], .v (i64 (0))])))) (br ((↑(pooR (winOf r 0 r.n) (winOf a 0 a.n)).n : Int) == 0) (br ((↑(onK (winOf r 0 r.n) (winOf a 0 a.n)).n : Int) == 0) (br ((↑(anyR (winOf r 0 r.n) (winOf a 0 a.n)).n : Int) == 0) (some [.agg [.v (.int .u8 (2)), .slice [.int .i64, .slice [.int .i64], .slice [.int .i64]] (Row.nil), .slice [.slice [.int .i64, .int .i64, .int .i64, .int .i64]] (Row.nil), .v (.int .u8 (0)), .slice [.slice [.int .i64, .int .i64]] (Row.nil), .slice [.slice [.int .i64]] (winOf (twR (winOf r 0 r.n)) 0 (twR (winOf r 0 r.n)).n), .slice [.int .i64] (winOf (Row.nil.app (winOf a 0 a.n)) 0 (0 + (winOf a 0 a.n).n)), .slice [.slice [.int .i64]] (Row.nil), .v (i64 (0)), .slice [.int .i64] (Row.nil), .slice [.int .i64] (Row.nil), .v (i64 (0)), .slice [.int .i64] (Row.nil), .slice [.int .i64, .int .i64, .int .i64] (Row.nil), .v (.int .u8 (IntKind.u8.wrap (↑(BitVec.ofInt 8 (IntKind.u8.wrap (↑(BitVec.ofInt 8 (IntKind.u8.wrap (↑(BitVec.ofInt 8 (fldN (fun j a_1 => bif { en := (envR (winOf r 0 r.n) (winOf a 0 a.n)).n, pn := (pooR (winOf r 0 r.n) (winOf a 0 a.n)).n, kn := (onK (winOf r 0 r.n) (winOf a 0 a.n)).n, yn := (anyR (winOf r 0 r.n) (winOf a 0 a.n)).n, n := a.n, len := (↑a.n : Int), j := 0, ev := envR (winOf r 0 r.n) (winOf a 0 a.n), po := pooR (winOf r 0 r.n) (winOf a 0 a.n), ki := onK (winOf r 0 r.n) (winOf a 0 a.n), ya := anyR (winOf r 0 r.n) (winOf a 0 a.n), tn := (twR (winOf r 0 r.n)).n, bn := 0 + (winOf a 0 a.n).n, c := 1, a0 := a, t := twR (winOf r 0 r.n), b := Row.nil.app (winOf a 0 a.n) : A_l6 }.a0.I j 0 == -1 then 0 else a_1) a.n 0 1) ||| BitVec.ofInt 8 4).toNat : Int)) ||| BitVec.ofInt 8 8).toNat : Int)) ||| BitVec.ofInt 8 16).toNat : Int)))], .v (i64 (0))]) (some [.agg [.v (.int .u8 (2)), .slice [.int .i64, .slice [.int .i64], .slice [.int .i64]] (Row.nil), .slice [.slice [.int .i64, .int .i64, .int .i64, .int .i64]] (Row.nil), .v (.int .u8 (0)), .slice [.slice [.int .i64, .int .i64]] (Row.nil), .slice [.slice [.int .i64]] (winOf (twR (winOf r 0 r.n)) 0 (twR (winOf r 0 r.n)).n), .slice [.int .i64] (winOf (Row.nil.app (winOf a 0 a.n)) 0 (0 + (winOf a 0 a.n).n)), .slice [.slice [.int .i64]] (Row.nil), .v (i64 (0)), .slice [.int .i64] (Row.nil), .slice [.int .i64] (Row.nil), .v (i64 (0)), .slice [.int .i64] (Row.nil), .slice [.int .i64, .int .i64, .int .i64] (Row.nil), .v (.int .u8 (IntKind.u8.wrap (↑(BitVec.ofInt 8 (IntKind.u8.wrap (↑(BitVec.ofInt 8 (fldN (fun j a_1 => bif { en := (envR (winOf r 0 r.n) (winOf a 0 a.n)).n, pn := (pooR (winOf r 0 r.n) (winOf a 0 a.n)).n, kn := (onK (winOf r 0 r.n) (winOf a 0 a.n)).n, yn := (anyR (winOf r 0 r.n) (winOf a 0 a.n)).n, n := a.n, len := (↑a.n : Int), j := 0, ev := envR (winOf r 0 r.n) (winOf a 0 a.n), po := pooR (winOf r 0 r.n) (winOf a 0 a.n), ki := onK (winOf r 0 r.n) (winOf a 0 a.n), ya := anyR (winOf r 0 r.n) (winOf a 0 a.n), tn := (twR (winOf r 0 r.n)).n, bn := 0 + (winOf a 0 a.n).n, c := 1, a0 := a, t := twR (winOf r 0 r.n), b := Row.nil.app (winOf a 0 a.n) : A_l6 }.a0.I j 0 == -1 then 0 else a_1) a.n 0 1) ||| BitVec.ofInt 8 4).toNat : Int)) ||| BitVec.ofInt 8 8).toNat : Int)))], .v (i64 (0))])) (br ((↑(anyR (winOf r 0 r.n) (winOf a 0 a.n)).n : Int) == 0) (some [.agg [.v (.int .u8 (2)), .slice [.int .i64, .slice [.int .i64], .slice [.int .i64]] (Row.nil), .slice [.slice [.int .i64, .int .i64, .int .i64, .int .i64]] (Row.nil), .v (.int .u8 (0)), .slice [.slice [.int .i64, .int .i64]] (Row.nil), .slice [.slice [.int .i64]] (winOf (twR (winOf r 0 r.n)) 0 (twR (winOf r 0 r.n)).n), .slice [.int .i64] (winOf (Row.nil.app (winOf a 0 a.n)) 0 (0 + (winOf a 0 a.n).n)), .slice [.slice [.int .i64]] (Row.nil), .v (i64 (0)), .slice [.int .i64] (Row.nil), .slice [.int .i64] (Row.nil), .v (i64 (0)), .slice [.int .i64] (Row.nil), .slice [.int .i64, .int .i64, .int .i64] (Row.nil), .v (.int .u8 (IntKind.u8.wrap (↑(BitVec.ofInt 8 (IntKind.u8.wrap (↑(BitVec.ofInt 8 (fldN (fun j a_1 => bif { en := (envR (winOf r 0 r.n) (winOf a 0 a.n)).n, pn := (pooR (winOf r 0 r.n) (winOf a 0 a.n)).n, kn := (onK (winOf r 0 r.n) (winOf a 0 a.n)).n, yn := (anyR (winOf r 0 r.n) (winOf a 0 a.n)).n, n := a.n, len := (↑a.n : Int), j := 0, ev := envR (winOf r 0 r.n) (winOf a 0 a.n), po := pooR (winOf r 0 r.n) (winOf a 0 a.n), ki := onK (winOf r 0 r.n) (winOf a 0 a.n), ya := anyR (winOf r 0 r.n) (winOf a 0 a.n), tn := (twR (winOf r 0 r.n)).n, bn := 0 + (winOf a 0 a.n).n, c := 1, a0 := a, t := twR (winOf r 0 r.n), b := Row.nil.app (winOf a 0 a.n) : A_l6 }.a0.I j 0 == -1 then 0 else a_1) a.n 0 1) ||| BitVec.ofInt 8 4).toNat : Int)) ||| BitVec.ofInt 8 16).toNat : Int)))], .v (i64 (0))]) (some [.agg [.v (.int .u8 (2)), .slice [.int .i64, .slice [.int .i64], .slice [.int .i64]] (Row.nil), .slice [.slice [.int .i64, .int .i64, .int .i64, .int .i64]] (Row.nil), .v (.int .u8 (0)), .slice [.slice [.int .i64, .int .i64]] (Row.nil), .slice [.slice [.int .i64]] (winOf (twR (winOf r 0 r.n)) 0 (twR (winOf r 0 r.n)).n), .slice [.int .i64] (winOf (Row.nil.app (winOf a 0 a.n)) 0 (0 + (winOf a 0 a.n).n)), .slice [.slice [.int .i64]] (Row.nil), .v (i64 (0)), .slice [.int .i64] (Row.nil), .slice [.int .i64] (Row.nil), .v (i64 (0)), .slice [.int .i64] (Row.nil), .slice [.int .i64, .int .i64, .int .i64] (Row.nil), .v (.int .u8 (IntKind.u8.wrap (↑(BitVec.ofInt 8 (fldN (fun j a_1 => bif { en := (envR (winOf r 0 r.n) (winOf a 0 a.n)).n, pn := (pooR (winOf r 0 r.n) (winOf a 0 a.n)).n, kn := (onK (winOf r 0 r.n) (winOf a 0 a.n)).n, yn := (anyR (winOf r 0 r.n) (winOf a 0 a.n)).n, n := a.n, len := (↑a.n : Int), j := 0, ev := envR (winOf r 0 r.n) (winOf a 0 a.n), po := pooR (winOf r 0 r.n) (winOf a 0 a.n), ki := onK (winOf r 0 r.n) (winOf a 0 a.n), ya := anyR (winOf r 0 r.n) (winOf a 0 a.n), tn := (twR (winOf r 0 r.n)).n, bn := 0 + (winOf a 0 a.n).n, c := 1, a0 := a, t := twR (winOf r 0 r.n), b := Row.nil.app (winOf a 0 a.n) : A_l6 }.a0.I j 0 == -1 then 0 else a_1) a.n 0 1) ||| BitVec.ofInt 8 4).toNat : Int)))], .v (i64 (0))]))) (br ((↑(onK (winOf r 0 r.n) (winOf a 0 a.n)).n : Int) == 0) (br ((↑(anyR (winOf r 0 r.n) (winOf a 0 a.n)).n : Int) == 0) (some [.agg [.v (.int .u8 (2)), .slice [.int .i64, .slice [.int .i64], .slice [.int .i64]] (Row.nil), .slice [.slice [.int .i64, .int .i64, .int .i64, .int .i64]] (Row.nil), .v (.int .u8 (0)), .slice [.slice [.int .i64, .int .i64]] (Row.nil), .slice [.slice [.int .i64]] (winOf (twR (winOf r 0 r.n)) 0 (twR (winOf r 0 r.n)).n), .slice [.int .i64] (winOf (Row.nil.app (winOf a 0 a.n)) 0 (0 + (winOf a 0 a.n).n)), .slice [.slice [.int .i64]] (Row.nil), .v (i64 (0)), .slice [.int .i64] (Row.nil), .slice [.int .i64] (Row.nil), .v (i64 (0)), .slice [.int .i64] (Row.nil), .slice [.int .i64, .int .i64, .int .i64] (Row.nil), .v (.int .u8 (IntKind.u8.wrap (↑(BitVec.ofInt 8 (IntKind.u8.wrap (↑(BitVec.ofInt 8 (fldN (fun j a_1 => bif { en := (envR (winOf r 0 r.n) (winOf a 0 a.n)).n, pn := (pooR (winOf r 0 r.n) (winOf a 0 a.n)).n, kn := (onK (winOf r 0 r.n) (winOf a 0 a.n)).n, yn := (anyR (winOf r 0 r.n) (winOf a 0 a.n)).n, n := a.n, len := (↑a.n : Int), j := 0, ev := envR (winOf r 0 r.n) (winOf a 0 a.n), po := pooR (winOf r 0 r.n) (winOf a 0 a.n), ki := onK (winOf r 0 r.n) (winOf a 0 a.n), ya := anyR (winOf r 0 r.n) (winOf a 0 a.n), tn := (twR (winOf r 0 r.n)).n, bn := 0 + (winOf a 0 a.n).n, c := 1, a0 := a, t := twR (winOf r 0 r.n), b := Row.nil.app (winOf a 0 a.n) : A_l6 }.a0.I j 0 == -1 then 0 else a_1) a.n 0 1) ||| BitVec.ofInt 8 8).toNat : Int)) ||| BitVec.ofInt 8 16).toNat : Int)))], .v (i64 (0))]) (some [.agg [.v (.int .u8 (2)), .slice [.int .i64, .slice [.int .i64], .slice [.int .i64]] (Row.nil), .slice [.slice [.int .i64, .int .i64, .int .i64, .int .i64]] (Row.nil), .v (.int .u8 (0)), .slice [.slice [.int .i64, .int .i64]] (Row.nil), .slice [.slice [.int .i64]] (winOf (twR (winOf r 0 r.n)) 0 (twR (winOf r 0 r.n)).n), .slice [.int .i64] (winOf (Row.nil.app (winOf a 0 a.n)) 0 (0 + (winOf a 0 a.n).n)), .slice [.slice [.int .i64]] (Row.nil), .v (i64 (0)), .slice [.int .i64] (Row.nil), .slice [.int .i64] (Row.nil), .v (i64 (0)), .slice [.int .i64] (Row.nil), .slice [.int .i64, .int .i64, .int .i64] (Row.nil), .v (.int .u8 (IntKind.u8.wrap (↑(BitVec.ofInt 8 (fldN (fun j a_1 => bif { en := (envR (winOf r 0 r.n) (winOf a 0 a.n)).n, pn := (pooR (winOf r 0 r.n) (winOf a 0 a.n)).n, kn := (onK (winOf r 0 r.n) (winOf a 0 a.n)).n, yn := (anyR (winOf r 0 r.n) (winOf a 0 a.n)).n, n := a.n, len := (↑a.n : Int), j := 0, ev := envR (winOf r 0 r.n) (winOf a 0 a.n), po := pooR (winOf r 0 r.n) (winOf a 0 a.n), ki := onK (winOf r 0 r.n) (winOf a 0 a.n), ya := anyR (winOf r 0 r.n) (winOf a 0 a.n), tn := (twR (winOf r 0 r.n)).n, bn := 0 + (winOf a 0 a.n).n, c := 1, a0 := a, t := twR (winOf r 0 r.n), b := Row.nil.app (winOf a 0 a.n) : A_l6 }.a0.I j 0 == -1 then 0 else a_1) a.n 0 1) ||| BitVec.ofInt 8 8).toNat : Int)))], .v (i64 (0))])) (br ((↑(anyR (winOf r 0 r.n) (winOf a 0 a.n)).n : Int) == 0) (some [.agg [.v (.int .u8 (2)), .slice [.int .i64, .slice [.int .i64], .slice [.int .i64]] (Row.nil), .slice [.slice [.int .i64, .int .i64, .int .i64, .int .i64]] (Row.nil), .v (.int .u8 (0)), .slice [.slice [.int .i64, .int .i64]] (Row.nil), .slice [.slice [.int .i64]] (winOf (twR (winOf r 0 r.n)) 0 (twR (winOf r 0 r.n)).n), .slice [.int .i64] (winOf (Row.nil.app (winOf a 0 a.n)) 0 (0 + (winOf a 0 a.n).n)), .slice [.slice [.int .i64]] (Row.nil), .v (i64 (0)), .slice [.int .i64] (Row.nil), .slice [.int .i64] (Row.nil), .v (i64 (0)), .slice [.int .i64] (Row.nil), .slice [.int .i64, .int .i64, .int .i64] (Row.nil), .v (.int .u8 (IntKind.u8.wrap (↑(BitVec.ofInt 8 (fldN (fun j a_1 => bif { en := (envR (winOf r 0 r.n) (winOf a 0 a.n)).n, pn := (pooR (winOf r 0 r.n) (winOf a 0 a.n)).n, kn := (onK (winOf r 0 r.n) (winOf a 0 a.n)).n, yn := (anyR (winOf r 0 r.n) (winOf a 0 a.n)).n, n := a.n, len := (↑a.n : Int), j := 0, ev := envR (winOf r 0 r.n) (winOf a 0 a.n), po := pooR (winOf r 0 r.n) (winOf a 0 a.n), ki := onK (winOf r 0 r.n) (winOf a 0 a.n), ya := anyR (winOf r 0 r.n) (winOf a 0 a.n), tn := (twR (winOf r 0 r.n)).n, bn := 0 + (winOf a 0 a.n).n, c := 1, a0 := a, t := twR (winOf r 0 r.n), b := Row.nil.app (winOf a 0 a.n) : A_l6 }.a0.I j 0 == -1 then 0 else a_1) a.n 0 1) ||| BitVec.ofInt 8 16).toNat : Int)))], .v (i64 (0))]) (some [.agg [.v (.int .u8 (2)), .slice [.int .i64, .slice [.int .i64], .slice [.int .i64]] (Row.nil), .slice [.slice [.int .i64, .int .i64, .int .i64, .int .i64]] (Row.nil), .v (.int .u8 (0)), .slice [.slice [.int .i64, .int .i64]] (Row.nil), .slice [.slice [.int .i64]] (winOf (twR (winOf r 0 r.n)) 0 (twR (winOf r 0 r.n)).n), .slice [.int .i64] (winOf (Row.nil.app (winOf a 0 a.n)) 0 (0 + (winOf a 0 a.n).n)), .slice [.slice [.int .i64]] (Row.nil), .v (i64 (0)), .slice [.int .i64] (Row.nil), .slice [.int .i64] (Row.nil), .v (i64 (0)), .slice [.int .i64] (Row.nil), .slice [.int .i64, .int .i64, .int .i64] (Row.nil), .v (.int .u8 (fldN (fun j a_1 => bif { en := (envR (winOf r 0 r.n) (winOf a 0 a.n)).n, pn := (pooR (winOf r 0 r.n) (winOf a 0 a.n)).n, kn := (onK (winOf r 0 r.n) (winOf a 0 a.n)).n, yn := (anyR (winOf r 0 r.n) (winOf a 0 a.n)).n, n := a.n, len := (↑a.n : Int), j := 0, ev := envR (winOf r 0 r.n) (winOf a 0 a.n), po := pooR (winOf r 0 r.n) (winOf a 0 a.n), ki := onK (winOf r 0 r.n) (winOf a 0 a.n), ya := anyR (winOf r 0 r.n) (winOf a 0 a.n), tn := (twR (winOf r 0 r.n)).n, bn := 0 + (winOf a 0 a.n).n, c := 1, a0 := a, t := twR (winOf r 0 r.n), b := Row.nil.app (winOf a 0 a.n) : A_l6 }.a0.I j 0 == -1 then 0 else a_1) a.n 0 1))], .v (i64 (0))]))))) (none)) (none)) (none)) (none)) (none)) (none))) (none) := by kernel_rfl
set_option maxRecDepth 100000 in
theorem ok_l19 : LoopOk C19 l19.C := l19.ok (fun x j a => a.n = j) (by kernel_rfl)
  (fun its x h hc => by
    replace h : d_l19 its = some x := h
    unfold d_l19 at h
    split at h
    · cases h
      obtain ⟨h1, h2, h3, h4, h5, h6⟩ := c_l19_iff.1 hc
      dsimp only at h1 h2 h3
      subst h1 h2 h3
      rfl
    · cases h)
  (fun x hc => by have := c_l19_iff.1 hc; show x.n < 18446744073709551616; omega)
  (fun x hc => by
    exact (c_l19_iff.1 hc).2.2.2.2.2)
  (fun x j a hc hi hI => by
    replace hI : a.n = j := hI
    show a.n + 1 = j + 1
    omega)
  (fun q ⟨on0, n, len0, j0, o0, r⟩ j a hc hi hI R K => by
    obtain ⟨h1, h2, h3, h4, h5, h6⟩ := c_l19_iff.1 hc
    dsimp only at *
    replace hi : j < n := hi
    refine (r_l19  R K q ((a.n)) (n) ((n : Int)) ((j : Int)) ((a)) (r)).trans ?_
    replace hI : a.n = j := hI
    have k1 := h5 j hi
    rw [Int.toNat_natCast j, Nat.zero_add j, gd j n hi, ltd j n hi, wsn (by omega), decide_eq_true (show 0 + (winOf (r.R j 0) 0 (r.R j 0).n).n ≤ 10000000000 by rw [winOf_n]; omega), decide_eq_true (show a.n + 1 ≤ 10000000000 by omega)]
    rfl)
  (fun q ⟨on0, n, len0, j0, o0, r⟩ a hc hI R K => by
    obtain ⟨h1, h2, h3, h4, h5, h6⟩ := c_l19_iff.1 hc
    dsimp only at *
    refine (r_l19  R K q ((a.n)) (n) ((n : Int)) ((n : Int)) ((a)) (r)).trans ?_
    rw [ltn n]
    rfl)
set_option maxRecDepth 100000 in
theorem ok_l15 : LoopOk C15 l15.C := l15.ok (by kernel_rfl)
  (fun its x h hc => by
    replace h : d_l15 its = some x := h
    unfold d_l15 at h
    split at h
    · cases h
      obtain ⟨h1, h2, h3⟩ := c_l15_iff.1 hc
      dsimp only at h1 h2
      subst h1 h2
      rfl
    · cases h)
  (fun x hc => by have := c_l15_iff.1 hc; show x.n < 18446744073709551616; omega)
  (fun q ⟨n, n_2, j0, r, s⟩ j hc hi R K => by
    obtain ⟨h1, h2, h3⟩ := c_l15_iff.1 hc
    dsimp only at *
    replace hi : j < n := hi
    refine (r_l15  R K q (n) (n) ((j : Int)) (r) (s)).trans ?_
    rw [Int.toNat_natCast j, Nat.zero_add j, gd j n hi, ltd j n hi, wsn (by omega)]
    rfl)
  (fun q ⟨n, n_2, j0, r, s⟩ hc R K => by
    obtain ⟨h1, h2, h3⟩ := c_l15_iff.1 hc
    dsimp only at *
    refine (r_l15  R K q (n) (n) ((n : Int)) (r) (s)).trans ?_
    rw [ltn n]
    rfl)
set_option maxRecDepth 100000 in
theorem ok_l14 : LoopOk C14 l14.C := l14.ok (by kernel_rfl)
  (fun its x h hc => by
    replace h : d_l14 its = some x := h
    unfold d_l14 at h
    split at h
    · cases h
      obtain ⟨h1, h2, h3, h4⟩ := c_l14_iff.1 hc
      dsimp only at h1 h2
      subst h1 h2
      rfl
    · cases h)
  (fun x hc => by have := c_l14_iff.1 hc; show x.n < 18446744073709551616; omega)
  (fun q ⟨n, n_2, j0, r, s⟩ j hc hi R K => by
    obtain ⟨h1, h2, h3, h4⟩ := c_l14_iff.1 hc
    dsimp only at *
    replace hi : j < n := hi
    refine (r_l14  R K q (n) (n) ((j : Int)) (r) (s)).trans ?_
    have k1 := h4 j hi
    rw [Int.toNat_natCast j, Nat.zero_add j, gd j n hi, ltd j n hi, wsn (by omega), decide_eq_true (show (winOf (r.R j 0) 0 (r.R j 0).n).n ≤ 1000000 by rw [winOf_n]; exact k1)]
    rfl)
  (fun q ⟨n, n_2, j0, r, s⟩ hc R K => by
    obtain ⟨h1, h2, h3, h4⟩ := c_l14_iff.1 hc
    dsimp only at *
    refine (r_l14  R K q (n) (n) ((n : Int)) (r) (s)).trans ?_
    rw [ltn n]
    rfl)
set_option maxRecDepth 100000 in
theorem ok_l16 : LoopOk C16 l16.C := l16.ok (by kernel_rfl)
  (fun its x h hc => by
    replace h : d_l16 its = some x := h
    unfold d_l16 at h
    split at h
    · cases h
      obtain ⟨h1, h2⟩ := c_l16_iff.1 hc
      dsimp only at h1
      subst h1
      rfl
    · cases h)
  (fun x hc => by have := c_l16_iff.1 hc; show x.n < 18446744073709551616; omega)
  (fun q ⟨n, j0, r⟩ j hc hi R K => by
    obtain ⟨h1, h2⟩ := c_l16_iff.1 hc
    dsimp only at *
    replace hi : j < n := hi
    refine (r_l16  R K q (n) ((j : Int)) (r)).trans ?_
    rw [Int.toNat_natCast, Nat.zero_add j, gd j n hi, ltd j n hi, wsn (by omega)]
    rfl)
  (fun q ⟨n, j0, r⟩ hc R K => by
    obtain ⟨h1, h2⟩ := c_l16_iff.1 hc
    dsimp only at *
    refine (r_l16  R K q (n) ((n : Int)) (r)).trans ?_
    rw [ltn n]
    rfl)
set_option maxRecDepth 100000 in
theorem ok_l5 : LoopOk C5 l5.C := l5.ok (by kernel_rfl)
  (fun its x h hc => by
    replace h : d_l5 its = some x := h
    unfold d_l5 at h
    split at h
    · cases h
      obtain ⟨h1, h2⟩ := c_l5_iff.1 hc
      dsimp only at h1
      subst h1
      rfl
    · cases h)
  (fun x hc => by have := c_l5_iff.1 hc; show min x.rn 20 < 18446744073709551616; omega)
  (fun q ⟨an, j0, a0, rn, r⟩ j hc hi R K => by
    obtain ⟨h1, h2⟩ := c_l5_iff.1 hc
    dsimp only at *
    replace hi : j < min rn 20 := hi
    refine (r_l5  R K q (an) ((j : Int)) (a0) (rn) (r)).trans ?_
    rw [Int.toNat_natCast j, Nat.zero_add j, gd j rn (by omega), ltd j rn (by omega), wsn (by omega), decide_eq_true (show (j : Int) < 20 by omega)]
    rfl)
  (fun q ⟨an, j0, a0, rn, r⟩ hc R K => by
    obtain ⟨h1, h2⟩ := c_l5_iff.1 hc
    dsimp only at *
    refine (r_l5  R K q (an) (((min rn 20 : Nat) : Int)) (a0) (rn) (r)).trans ?_
    by_cases k : rn ≤ 20
    · rw [Nat.min_eq_left k, ltn rn]
      rfl
    · rw [Nat.min_eq_right (by omega), decide_eq_true (show ((20 : Nat) : Int) < (rn : Int) by omega), decide_eq_false (show ¬ ((20 : Nat) : Int) < 20 by omega)]
      rfl)
set_option maxRecDepth 100000 in
theorem ok_l6 : LoopOk C6 l6.C := l6.ok (fun x j a => True) (by kernel_rfl)
  (fun its x h hc => by
    replace h : d_l6 its = some x := h
    unfold d_l6 at h
    split at h
    · cases h
      obtain ⟨h1, h2, h3⟩ := c_l6_iff.1 hc
      dsimp only at h1 h2
      subst h1 h2
      rfl
    · cases h)
  (fun x hc => by have := c_l6_iff.1 hc; show x.n < 18446744073709551616; omega)
  (fun x hc => by
    trivial)
  (fun x j a hc hi hI => by
    trivial)
  (fun q ⟨en, pn, kn, yn, n, len0, j0, ev, po, ki, ya, tn, bn, c0, a0, t, b⟩ j a hc hi hI R K => by
    obtain ⟨h1, h2, h3⟩ := c_l6_iff.1 hc
    dsimp only at *
    replace hi : j < n := hi
    refine (r_l6  R K q (en) (pn) (kn) (yn) (n) ((n : Int)) ((j : Int)) (ev) (po) (ki) (ya) (tn) (bn) ((a)) (a0) (t) (b)).trans ?_
    rw [Int.toNat_natCast j, Nat.zero_add j, gd j n hi, ltd j n hi, wsn (by omega)]
    show _ = R (Go.Ev.bst p_l6 (l6.S _ (j + 1) (bif a0.I j 0 == -1 then 0 else a)))
    cases a0.I j 0 == -1 <;> rfl)
  (fun q ⟨en, pn, kn, yn, n, len0, j0, ev, po, ki, ya, tn, bn, c0, a0, t, b⟩ a hc hI R K => by
    obtain ⟨h1, h2, h3⟩ := c_l6_iff.1 hc
    dsimp only at *
    refine (r_l6  R K q (en) (pn) (kn) (yn) (n) ((n : Int)) ((n : Int)) (ev) (po) (ki) (ya) (tn) (bn) ((a)) (a0) (t) (b)).trans ?_
    rw [ltn n]
    rfl)
set_option maxRecDepth 100000 in
theorem ok_l32 : LoopOk C32 l32.C := l32.ok (by kernel_rfl)
  (fun its x h hc => by
    replace h : d_l32 its = some x := h
    unfold d_l32 at h
    split at h
    · cases h
      obtain ⟨h1, h2, h3⟩ := c_l32_iff.1 hc
      dsimp only at h1 h2
      subst h1 h2
      rfl
    · cases h)
  (fun x hc => by have := c_l32_iff.1 hc; show x.n < 18446744073709551616; omega)
  (fun q ⟨n, len0, j0, r⟩ j hc hi R K => by
    obtain ⟨h1, h2, h3⟩ := c_l32_iff.1 hc
    dsimp only at *
    replace hi : j < n := hi
    refine (r_l32  R K q (n) ((n : Int)) ((j : Int)) (r)).trans ?_
    rw [Int.toNat_natCast, Nat.zero_add j, gd j n hi, ltd j n hi, wsn (by omega)]
    rfl)
  (fun q ⟨n, len0, j0, r⟩ hc R K => by
    obtain ⟨h1, h2, h3⟩ := c_l32_iff.1 hc
    dsimp only at *
    refine (r_l32  R K q (n) ((n : Int)) ((n : Int)) (r)).trans ?_
    rw [ltn n]
    rfl)
theorem C19_ok : CxOk C19 := mkCx_ok enter mixed (fun p h => by cases h) (fun l h => by
  simp only [List.mem_cons, List.not_mem_nil, or_false] at h
  rcases h with rfl
  exact ok_l19)
theorem C15_ok : CxOk C15 := mkCx_ok enter mixed (fun p h => by cases h) (fun l h => by
  simp only [List.mem_cons, List.not_mem_nil, or_false] at h
  rcases h with rfl
  exact ok_l15)
theorem C16_ok : CxOk C16 := mkCx_ok enter mixed (fun p h => by cases h) (fun l h => by
  simp only [List.mem_cons, List.not_mem_nil, or_false] at h
  rcases h with rfl
  exact ok_l16)
theorem C5_ok : CxOk C5 := mkCx_ok enter mixed (fun p h => by cases h) (fun l h => by
  simp only [List.mem_cons, List.not_mem_nil, or_false] at h
  rcases h with rfl
  exact ok_l5)
theorem C32_ok : CxOk C32 := mkCx_ok enter mixed (fun p h => by cases h) (fun l h => by
  simp only [List.mem_cons, List.not_mem_nil, or_false] at h
  rcases h with rfl
  exact ok_l32)
theorem den_tw : Den Tryz.prog 19 Ftwi := evF_den C19_ok fun ds rs h => by
  unfold Ftwi at h
  split at h
  · rename_i r
    simp only [Option.some.injEq, Prod.mk.injEq] at h
    obtain ⟨h0, rfl⟩ := h
    have h0 := of_decide_eq_true h0
    refine (u19 r).trans ?_
    rw [c_l19_iff.2 ⟨rfl, rfl, rfl, h0.1, h0.2, rfl⟩, br_true]
    rfl
  · cases h
theorem tw_spec (r : Row) : (twR r).n = r.n ∧ ∀ i, i < r.n → (twR r).R i 0 = cpy (r.R i 0) :=
  fold_inv (nx := fun j o => vApp o (cpy (r.R j 0))) (Inv := fun j o => o.n = j ∧ ∀ i, i < j → o.R i 0 = cpy (r.R i 0)) (len := r.n) (fun j o hj hI => by
    refine ⟨by rw [← hI.1]; rfl, fun i hi => ?_⟩
    by_cases c : i = j
    · subst c; exact vApp_eq hI.1.symm
    · rw [vApp_lt (by rw [hI.1]; omega)]; exact hI.2 i (by omega)) (m := r.n) (j := 0) (a := .nil) (by omega) ⟨rfl, fun i hi => absurd hi (Nat.not_lt_zero i)⟩
theorem c15_ne {r s : Row} (c : r.n = s.n) : ((r.n : Int) != (s.n : Int)) = false := by rw [c]; simp
theorem den_sam : Den Tryz.prog 15 Fsam := evF_den C15_ok fun ds rs h => by
  unfold Fsam at h
  split at h
  · rename_i r s
    simp only [Option.some.injEq, Prod.mk.injEq] at h
    obtain ⟨h0, rfl⟩ := h
    have h0 := of_decide_eq_true h0
    refine (u15 r s).trans ?_
    unfold samI
    by_cases c : r.n = s.n
    · rw [c15_ne c, br_false, c_l15_iff.2 ⟨rfl, c.symm, h0⟩, br_true, show ((r.n : Int) == (s.n : Int)) = true by rw [c]; exact beq_self_eq_true _, Bool.true_and]
      show br (anyF (fun j => r.I j 0 != s.I j 0) r.n 0) _ _ = _
      cases anyF (fun j => r.I j 0 != s.I j 0) r.n 0 <;> rfl
    · rw [show ((r.n : Int) != (s.n : Int)) = true by simp; omega, show ((r.n : Int) == (s.n : Int)) = false by simp; omega]
      rfl
  · cases h
theorem C14_ok : CxOk C14 := mkCx_ok enter mixed (fun p h => by
  simp only [List.mem_cons, List.not_mem_nil, or_false] at h
  rcases h with rfl
  exact den_sam) (fun l h => by
  simp only [List.mem_cons, List.not_mem_nil, or_false] at h
  rcases h with rfl
  exact ok_l14)
def samL (r s : Row) : Bool := (r.n : Int) == (s.n : Int) && !anyF (fun j => !samI (r.R j 0) (s.R j 0)) r.n 0
def FsamL : List D → Option (Bool × List D)
  | [.slice [.slice [.int .i64]] r, .slice [.slice [.int .i64]] s] => some (decide (r.n ≤ 1000000 ∧ ∀ i, i < r.n → (r.R i 0).n ≤ 1000000), [.v (.bool (samL r s))])
  | _ => none
def Fcom : List D → Option (Bool × List D)
  | [.slice [.int .i64] r] => some (decide (r.n ≤ 1000000), [.v (.bool (!anyF (fun j => decide (r.I j 0 < 0)) r.n 0))])
  | _ => none
def greB (r a : Row) : Bool := anyF (fun j => decide (((r.R j 0).n : Int) > 50)) (min r.n 20) 0 || (decide ((r.n : Int) > 20) || decide ((a.n : Int) > 50))
def Fgre : List D → Option (Bool × List D)
  | [.agg [.slice [.slice [.int .i64]] r], .slice [.int .i64] a] => some (decide (r.n = r.n), [.v (.bool (greB r a))])
  | _ => none
def firE (r : Row) : Int := bif anyF (fun j => r.I j 0 != 0) r.n 0 then r.I (fstF (fun j => r.I j 0 != 0) r.n 0) 0 else 0
def Ffst : List D → Option (Bool × List D)
  | [.slice [.int .i64] r] => some (decide (r.n ≤ 1000000), [.v (i64 (firE r))])
  | _ => none
theorem den_samL : Den Tryz.prog 14 FsamL := evF_den C14_ok fun ds rs h => by
  unfold FsamL at h
  split at h
  · rename_i r s
    simp only [Option.some.injEq, Prod.mk.injEq] at h
    obtain ⟨h0, rfl⟩ := h
    have h0 := of_decide_eq_true h0
    refine (u14 r s).trans ?_
    unfold samL
    by_cases c : r.n = s.n
    · rw [c15_ne c, br_false, c_l14_iff.2 ⟨rfl, c.symm, h0.1, h0.2⟩, br_true, show ((r.n : Int) == (s.n : Int)) = true by rw [c]; exact beq_self_eq_true _, Bool.true_and]
      show br (anyF (fun j => !samI (r.R j 0) (s.R j 0)) r.n 0) _ _ = _
      cases anyF (fun j => !samI (r.R j 0) (s.R j 0)) r.n 0 <;> rfl
    · rw [show ((r.n : Int) != (s.n : Int)) = true by simp; omega, show ((r.n : Int) == (s.n : Int)) = false by simp; omega]
      rfl
  · cases h
theorem den_com : Den Tryz.prog 16 Fcom := evF_den C16_ok fun ds rs h => by
  unfold Fcom at h
  split at h
  · rename_i r
    simp only [Option.some.injEq, Prod.mk.injEq] at h
    obtain ⟨h0, rfl⟩ := h
    have h0 := of_decide_eq_true h0
    refine (u16 r).trans ?_
    rw [c_l16_iff.2 ⟨rfl, h0⟩, br_true]
    show br (anyF (fun j => decide (r.I j 0 < 0)) r.n 0) _ _ = some [D.v (.bool (!anyF (fun j => decide (r.I j 0 < 0)) r.n 0))]
    cases anyF (fun j => decide (r.I j 0 < 0)) r.n 0 <;> rfl
  · cases h
theorem den_gre : Den Tryz.prog 5 Fgre := evF_den C5_ok fun ds rs h => by
  unfold Fgre at h
  split at h
  · rename_i r a
    simp only [Option.some.injEq, Prod.mk.injEq] at h
    obtain ⟨h0, rfl⟩ := h
    have h0 := of_decide_eq_true h0
    refine (u5 r a).trans ?_
    rw [c_l5_iff.2 ⟨rfl, rfl⟩, br_true]
    unfold greB
    show br (anyF (fun j => decide (((r.R j 0).n : Int) > 50)) (min r.n 20) 0) _ (br (decide ((r.n : Int) > 20)) _ (some [.v (.bool (decide ((a.n : Int) > 50)))])) = some [D.v (.bool (anyF (fun j => decide (((r.R j 0).n : Int) > 50)) (min r.n 20) 0 || (decide ((r.n : Int) > 20) || decide ((a.n : Int) > 50))))]
    cases anyF (fun j => decide (((r.R j 0).n : Int) > 50)) (min r.n 20) 0 <;> cases decide ((r.n : Int) > 20) <;> rfl
  · cases h
theorem den_fst : Den Tryz.prog 32 Ffst := evF_den C32_ok fun ds rs h => by
  unfold Ffst at h
  split at h
  · rename_i r
    simp only [Option.some.injEq, Prod.mk.injEq] at h
    obtain ⟨h0, rfl⟩ := h
    have h0 := of_decide_eq_true h0
    refine (u32 r).trans ?_
    rw [c_l32_iff.2 ⟨rfl, rfl, h0⟩, br_true]
    unfold firE
    show br (anyF (fun j => r.I j 0 != 0) r.n 0) _ _ = _
    cases anyF (fun j => r.I j 0 != 0) r.n 0 <;> rfl
  · cases h
theorem C6_ok : CxOk C6 := mkCx_ok enter mixed (fun p h => by
  simp only [List.mem_cons, List.not_mem_nil, or_false] at h
  rcases h with rfl | rfl | rfl | rfl | rfl
  · exact den_env
  · exact den_poor
  · exact den_one
  · exact den_any
  · exact den_tw) (fun l h => by
  simp only [List.mem_cons, List.not_mem_nil, or_false] at h
  rcases h with rfl
  exact ok_l6)
def ksC : List CK := [.int .i64, .slice [.int .i64], .slice [.int .i64]]
def ksP : List CK := [.slice [.int .i64, .int .i64, .int .i64, .int .i64]]
def ksW : List CK := [.slice [.int .i64, .int .i64]]
def ks3 : List CK := [.int .i64, .int .i64, .int .i64]
/-- A document. -/
def docD (k : Int) (ca pi : Row) (pc : Int) (wo gv aa fv : Row) (rr : Int) (lr lp : Row) (ld : Int) (ba pa : Row) (cl : Int) : D := .agg [.v (.int .u8 k), .slice ksC ca, .slice ksP pi, .v (.int .u8 pc), .slice ksW wo, .slice ksV gv, .slice ksI aa, .slice ksV fv, .v (i64 rr), .slice ksI lr, .slice ksI lp, .v (i64 ld), .slice ksI ba, .slice ks3 pa, .v (.int .u8 cl)]
def orB (b : Bool) (k c : Int) : Int := bif b then IntKind.u8.wrap (((BitVec.ofInt 8 c ||| BitVec.ofInt 8 k).toNat : Nat) : Int) else c
def clI (e p o m : Bool) (c : Int) : Int := orB m 16 (orB o 8 (orB p 4 (orB e 2 c)))
def clW (a : Row) : Int := fldN (fun j c => bif a.I j 0 == -1 then 0 else c) a.n 0 1
def goC (r a : Row) : Int := clI (((envR r a).n : Int) == 0) (((pooR r a).n : Int) == 0) (((onK r a).n : Int) == 0) (((anyR r a).n : Int) == 0) (clW a)
def goD (r a : Row) : D := bif valE r a != 0 then docD 0 .nil .nil 0 .nil .nil .nil .nil 0 .nil .nil 0 .nil .nil 0 else docD 2 .nil .nil 0 .nil (win0 (twR r)) (cpy a) .nil 0 .nil .nil 0 .nil .nil (goC r a)
def Fgoods : List D → Option (Bool × List D)
  | [.agg [.slice [.slice [.int .i64]] r], .slice [.int .i64] a] => some (decide (r.n ≤ 1000000 ∧ a.n ≤ 1000000), [goD r a, .v (i64 (valE r a))])
  | _ => none
theorem den_goods : Den Tryz.prog 6 Fgoods := evF_den C6_ok fun ds rs h => by
  unfold Fgoods at h
  split at h
  · rename_i r a
    simp only [Option.some.injEq, Prod.mk.injEq] at h
    obtain ⟨h0, rfl⟩ := h
    have h0 := of_decide_eq_true h0
    refine (u6 r a).trans ?_
    unfold goD
    have hc : (winOf r 0 r.n).n ≤ 1000000 ∧ (winOf a 0 a.n).n ≤ 1000000 := by rw [winOf_n, winOf_n]; exact h0
    rw [decide_eq_true hc, br_true]
    show br (valE r a != 0) _ _ = _
    cases c1 : valE r a != 0
    · have c1 : valE r a = 0 := by simpa using c1
      obtain ⟨k1, k2, k3⟩ := val_zero c1
      obtain ⟨k4, k5, k6⟩ := chk_zero k1
      rw [br_false, br_true, br_true, br_true, decide_eq_true (show (winOf r 0 r.n).n ≤ 1000000 ∧ ∀ i, i < (winOf r 0 r.n).n → ((winOf r 0 r.n).R i 0).n ≤ 1000000 from ⟨hc.1, fun i hi => by rw [winOf_n] at hi; have := (k6 i hi).2.1; show (r.R i 0).n ≤ 1000000; omega⟩), decide_eq_true (show 0 + (winOf a 0 a.n).n ≤ 10000000000 by rw [winOf_n]; omega), br_true, br_true, c_l6_iff.2 ⟨rfl, rfl, h0.2⟩, br_true, cond_false, c1]
      unfold goC
      show br (((envR r a).n : Int) == 0) (br (((pooR r a).n : Int) == 0) (br (((onK r a).n : Int) == 0) (br (((anyR r a).n : Int) == 0) _ _) (br (((anyR r a).n : Int) == 0) _ _)) (br (((onK r a).n : Int) == 0) (br (((anyR r a).n : Int) == 0) _ _) (br (((anyR r a).n : Int) == 0) _ _))) (br (((pooR r a).n : Int) == 0) (br (((onK r a).n : Int) == 0) (br (((anyR r a).n : Int) == 0) _ _) (br (((anyR r a).n : Int) == 0) _ _)) (br (((onK r a).n : Int) == 0) (br (((anyR r a).n : Int) == 0) _ _) (br (((anyR r a).n : Int) == 0) _ _))) = _
      cases ((envR r a).n : Int) == 0 <;> cases ((pooR r a).n : Int) == 0 <;> cases ((onK r a).n : Int) == 0 <;> cases ((anyR r a).n : Int) == 0 <;> rfl
    · rfl
  · cases h
end Go.Proofs.YtlfeobdfgmlmpaaGreatDoor

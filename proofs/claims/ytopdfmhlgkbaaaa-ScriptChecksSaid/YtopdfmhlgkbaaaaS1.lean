/- Contracts of loops that scan, and of loops that hand something on. No conditions. -/
import Derived.Test.YtopdfmhlgkbaaaaEvZa
import Derived.Test.YtopdfmhlgkbaaaaRows
namespace Go.Ev
set_option linter.all false
/-- A loop that scans: from round 0 on, until something is found. -/
structure ScanL (ι : Type) where
  f : FuncId
  id : Nat
  lv : List Tmp
  lx : List Tmp
  p : PSt
  dat : List It → Option ι
  S : ι → Nat → List It
  len : ι → Nat
  cnd : ι → Bool
  bad : ι → Nat → Bool
  Kb : ι → Nat → (X → St → Option (List D)) → Option (List D)
  Ke : ι → (X → St → Option (List D)) → Option (List D)
/-- The first round in which something is found. -/
def fstF (p : Nat → Bool) : Nat → Nat → Nat
  | 0, j => j
  | m + 1, j => bif p j then j else fstF p m (j + 1)
theorem fstF_ge (p : Nat → Bool) : ∀ m j, j ≤ fstF p m j
  | 0, j => Nat.le_refl _
  | m + 1, j => by
    unfold fstF
    cases p j
    · exact Nat.le_trans (Nat.le_succ _) (fstF_ge p m (j + 1))
    · exact Nat.le_refl _
theorem fstF_any (p : Nat → Bool) : ∀ m j, anyF p m j = true → fstF p m j < j + m ∧ p (fstF p m j) = true ∧ ∀ i, j ≤ i → i < fstF p m j → p i = false
  | 0, j, h => by cases h
  | m + 1, j, h => by
    unfold fstF
    cases hp : p j
    · simp only [anyF, hp, Bool.false_or] at h
      obtain ⟨h1, h2, h3⟩ := fstF_any p m (j + 1) h
      refine ⟨by simp only [cond_false]; omega, h2, fun i hi hlt => ?_⟩
      by_cases e : i = j
      · rw [e]; exact hp
      · exact h3 i (by omega) hlt
    · exact ⟨by simp only [cond_true]; omega, hp, fun i hi hlt => by simp only [cond_true] at hlt; omega⟩
def ScanL.G {ι : Type} (s : ScanL ι) (its : List It) (k : X → St → Option (List D)) : Option (List D) := match s.dat its with
  | some x => br (s.cnd x) (br (anyF (s.bad x) (s.len x) 0) (s.Kb x (fstF (s.bad x) (s.len x) 0) k) (s.Ke x k)) none
  | none => none
def ScanL.C {ι : Type} (s : ScanL ι) : LoopC := ⟨s.f, s.id, s.lv, s.lx, s.p, s.G⟩
noncomputable abbrev bodyOf (C : Cx) (f : FuncId) (id q : Nat) : St → (X → St → Option (List D)) → Option (List D) := evCode C f true (inl C (q + 4)) (lbody C.P f id)
theorem scan_go {f : St → (X → St → Option (List D)) → Option (List D)} {lv : List Tmp} {lx : Option (List Tmp)} {S : Nat → St} {len : Nat} {bad : Nat → Bool} {Kb : Nat → (X → St → Option (List D)) → Option (List D)} {Ke : (X → St → Option (List D)) → Option (List D)}
    (hr : ∀ j, j < len → ∀ R K, f (S j) (rnd lv lx R K) = br (bad j) (Kb j K) (R (S (j + 1)))) (he : ∀ R K, f (S len) (rnd lv lx R K) = Ke K) (K : X → St → Option (List D)) :
    ∀ (m j : Nat), j + m = len → ∀ N, m < N → rounds lv lx f N (S j) K = br (anyF bad m j) (Kb (fstF bad m j) K) (Ke K)
  | 0, j, hj, N, hN => by
    obtain ⟨N, rfl⟩ : ∃ N', N = N' + 1 := ⟨N - 1, by omega⟩
    have : j = len := by omega
    subst this
    simp only [rounds, anyF]
    exact he _ K
  | m + 1, j, hj, N, hN => by
    obtain ⟨N, rfl⟩ : ∃ N', N = N' + 1 := ⟨N - 1, by omega⟩
    simp only [rounds, anyF, fstF]
    rw [hr j (by omega), scan_go hr he K m (j + 1) (by omega) N (by omega)]
    cases bad j <;> rfl
theorem ScanL.ok {ι : Type} {C : Cx} (s : ScanL ι) (h1 : Nat.beq ((loopsOf C.P s.f).filter fun b => Nat.beq (firstRegion b) s.id).length 1 = true)
    (hS : ∀ its x, s.dat its = some x → s.cnd x = true → Go.Ev.bst s.p its = Go.Ev.bst s.p (s.S x 0))
    (hlen : ∀ x, s.cnd x = true → s.len x < C.N)
    (hr : ∀ q x j, s.cnd x = true → j < s.len x → ∀ R K, bodyOf C s.f s.id q (Go.Ev.bst s.p (s.S x j)) (rnd s.lv (some s.lx) R K) = br (s.bad x j) (s.Kb x j K) (R (Go.Ev.bst s.p (s.S x (j + 1)))))
    (he : ∀ q x, s.cnd x = true → ∀ R K, bodyOf C s.f s.id q (Go.Ev.bst s.p (s.S x (s.len x))) (rnd s.lv (some s.lx) R K) = s.Ke x K) : LoopOk C s.C := ⟨h1, fun q its k rr h => by
  change s.G its k = some rr at h
  unfold ScanL.G at h
  split at h
  · rename_i x hx
    rcases br_some h with ⟨hc, h2⟩ | ⟨_, h2⟩
    · rw [← h2]
      show rounds s.lv (some s.lx) (bodyOf C s.f s.id q) C.N (Go.Ev.bst s.p its) k = _
      rw [hS its x hx hc]
      exact scan_go (S := fun j => Go.Ev.bst s.p (s.S x j)) (hr q x · hc) (he q x hc) k (s.len x) 0 (by omega) C.N (hlen x hc)
    · cases h2
  · cases h⟩

/-- A loop that hands something on. -/
structure RunL (ι β : Type) where
  f : FuncId
  id : Nat
  lv : List Tmp
  lx : List Tmp
  p : PSt
  dat : List It → Option ι
  S : ι → Nat → β → List It
  len : ι → Nat
  cnd : ι → Bool
  ini : ι → β
  stop : ι → Nat → β → Bool
  nx : ι → Nat → β → β
  Kb : ι → Nat → β → (X → St → Option (List D)) → Option (List D)
  Ke : ι → β → (X → St → Option (List D)) → Option (List D)
def runS {β : Type} (stop : Nat → β → Bool) (nx : Nat → β → β) : Nat → Nat → β → Bool × Nat × β
  | 0, j, a => (false, j, a)
  | m + 1, j, a => bif stop j a then (true, j, a) else runS stop nx m (j + 1) (nx j a)
theorem runS_s {β : Type} {stop : Nat → β → Bool} {nx : Nat → β → β} {m j : Nat} {a : β} (h : stop j a = false) : runS stop nx (m + 1) j a = runS stop nx m (j + 1) (nx j a) := by
  show (bif stop j a then _ else _) = _
  rw [h]; rfl
theorem runS_t {β : Type} {stop : Nat → β → Bool} {nx : Nat → β → β} {m j : Nat} {a : β} (h : stop j a = true) : runS stop nx (m + 1) j a = (true, j, a) := by
  show (bif stop j a then _ else _) = _
  rw [h]; rfl
theorem runS_inv {β : Type} {stop : Nat → β → Bool} {nx : Nat → β → β} {Inv : Nat → β → Prop} {len : Nat} (hI : ∀ j a, j < len → Inv j a → stop j a = false → Inv (j + 1) (nx j a)) : ∀ {m j : Nat} {a : β}, j + m = len → Inv j a →
    Inv (runS stop nx m j a).2.1 (runS stop nx m j a).2.2 ∧ ((runS stop nx m j a).1 = true → (runS stop nx m j a).2.1 < len ∧ stop (runS stop nx m j a).2.1 (runS stop nx m j a).2.2 = true) ∧ ((runS stop nx m j a).1 = false → (runS stop nx m j a).2.1 = len)
  | 0, j, a, hj, h => ⟨h, fun h => (by cases h), fun _ => hj⟩
  | m + 1, j, a, hj, h => by
    cases hs : stop j a
    · rw [runS_s hs]
      exact runS_inv hI (by omega) (hI j a (by omega) h hs)
    · rw [runS_t hs]
      exact ⟨h, fun _ => ⟨(by dsimp only; omega), hs⟩, fun h => (by cases h)⟩
theorem runS_congr {β : Type} {stop stop' : Nat → β → Bool} {nx nx' : Nat → β → β} {Inv : Nat → β → Prop} {len : Nat} (hI : ∀ j a, j < len → Inv j a → stop j a = false → Inv (j + 1) (nx j a)) (hs : ∀ j a, j < len → Inv j a → stop' j a = stop j a) (hn : ∀ j a, j < len → Inv j a → nx' j a = nx j a) : ∀ {m j : Nat} {a : β}, j + m = len → Inv j a →
    runS stop' nx' m j a = runS stop nx m j a
  | 0, j, a, hj, h => rfl
  | m + 1, j, a, hj, h => by
    cases hc : stop j a
    · rw [runS_s hc, runS_s ((hs j a (by omega) h).trans hc), hn j a (by omega) h]
      exact runS_congr hI hs hn (by omega) (hI j a (by omega) h hc)
    · rw [runS_t hc, runS_t ((hs j a (by omega) h).trans hc)]
def RunL.G {ι β : Type} (s : RunL ι β) (its : List It) (k : X → St → Option (List D)) : Option (List D) := match s.dat its with
  | some x => br (s.cnd x) (br (runS (s.stop x) (s.nx x) (s.len x) 0 (s.ini x)).1 (s.Kb x (runS (s.stop x) (s.nx x) (s.len x) 0 (s.ini x)).2.1 (runS (s.stop x) (s.nx x) (s.len x) 0 (s.ini x)).2.2 k) (s.Ke x (runS (s.stop x) (s.nx x) (s.len x) 0 (s.ini x)).2.2 k)) none
  | none => none
def RunL.C {ι β : Type} (s : RunL ι β) : LoopC := ⟨s.f, s.id, s.lv, s.lx, s.p, s.G⟩
theorem run_go {β : Type} {f : St → (X → St → Option (List D)) → Option (List D)} {lv : List Tmp} {lx : Option (List Tmp)} {S : Nat → β → St} {len : Nat} {stop : Nat → β → Bool} {nx : Nat → β → β} {Kb : Nat → β → (X → St → Option (List D)) → Option (List D)} {Ke : β → (X → St → Option (List D)) → Option (List D)} {Inv : Nat → β → Prop}
    (hI : ∀ j a, j < len → Inv j a → stop j a = false → Inv (j + 1) (nx j a))
    (hr : ∀ j a, j < len → Inv j a → ∀ R K, f (S j a) (rnd lv lx R K) = br (stop j a) (Kb j a K) (R (S (j + 1) (nx j a)))) (he : ∀ a, Inv len a → ∀ R K, f (S len a) (rnd lv lx R K) = Ke a K) (K : X → St → Option (List D)) :
    ∀ (m j : Nat) (a : β), j + m = len → Inv j a → ∀ N, m < N → rounds lv lx f N (S j a) K = br (runS stop nx m j a).1 (Kb (runS stop nx m j a).2.1 (runS stop nx m j a).2.2 K) (Ke (runS stop nx m j a).2.2 K)
  | 0, j, a, hj, h, N, hN => by
    obtain ⟨N, rfl⟩ : ∃ N', N = N' + 1 := ⟨N - 1, by omega⟩
    have : j = len := by omega
    subst this
    simp only [rounds, runS]
    exact he a h _ K
  | m + 1, j, a, hj, h, N, hN => by
    obtain ⟨N, rfl⟩ : ∃ N', N = N' + 1 := ⟨N - 1, by omega⟩
    rw [rnds1, hr j a (by omega) h]
    cases hs : stop j a
    · rw [runS_s hs, br_false]
      exact run_go hI hr he K m (j + 1) (nx j a) (by omega) (hI j a (by omega) h hs) N (by omega)
    · rw [runS_t hs]
      rfl
theorem RunL.ok {ι β : Type} {C : Cx} (s : RunL ι β) (Inv : ι → Nat → β → Prop) (h1 : Nat.beq ((loopsOf C.P s.f).filter fun b => Nat.beq (firstRegion b) s.id).length 1 = true)
    (hS : ∀ its x, s.dat its = some x → s.cnd x = true → Go.Ev.bst s.p its = Go.Ev.bst s.p (s.S x 0 (s.ini x)))
    (hlen : ∀ x, s.cnd x = true → s.len x < C.N) (hI0 : ∀ x, s.cnd x = true → Inv x 0 (s.ini x))
    (hI : ∀ x j a, s.cnd x = true → j < s.len x → Inv x j a → s.stop x j a = false → Inv x (j + 1) (s.nx x j a))
    (hr : ∀ q x j a, s.cnd x = true → j < s.len x → Inv x j a → ∀ R K, bodyOf C s.f s.id q (Go.Ev.bst s.p (s.S x j a)) (rnd s.lv (some s.lx) R K) = br (s.stop x j a) (s.Kb x j a K) (R (Go.Ev.bst s.p (s.S x (j + 1) (s.nx x j a)))))
    (he : ∀ q x a, s.cnd x = true → Inv x (s.len x) a → ∀ R K, bodyOf C s.f s.id q (Go.Ev.bst s.p (s.S x (s.len x) a)) (rnd s.lv (some s.lx) R K) = s.Ke x a K) : LoopOk C s.C := ⟨h1, fun q its k rr h => by
  change s.G its k = some rr at h
  unfold RunL.G at h
  split at h
  · rename_i x hx
    rcases br_some h with ⟨hc, h2⟩ | ⟨_, h2⟩
    · rw [← h2]
      show rounds s.lv (some s.lx) (bodyOf C s.f s.id q) C.N (Go.Ev.bst s.p its) k = _
      rw [hS its x hx hc]
      exact run_go (S := fun j a => Go.Ev.bst s.p (s.S x j a)) (Inv := Inv x) (hI x · · hc) (fun j a hj hi R K => hr q x j a hc hj hi R K) (fun a hi R K => he q x a hc hi R K) k (s.len x) 0 (s.ini x) (by omega) (hI0 x hc) C.N (hlen x hc)
    · cases h2
  · cases h⟩
theorem gd (j n : Nat) (h : j < n) : (decide (0 ≤ (j : Int)) && decide ((j : Int) < (n : Int))) = true := by simp only [Bool.and_eq_true, decide_eq_true_eq]; omega
theorem ltd (j n : Nat) (h : j < n) : decide ((j : Int) < (n : Int)) = true := decide_eq_true (by omega)
theorem ltn (n : Nat) : decide ((n : Int) < (n : Int)) = false := decide_eq_false (by omega)
theorem wsn {j : Nat} (h : j < 1000001) : IntKind.i64.wrap ((j : Int) + 1) = ((j + 1 : Nat) : Int) := by
  rw [wrap64 (by omega) (by omega)]; omega
end Go.Ev
namespace Go.Proofs.Ytopdfmhlgkbaaaa
open Go.Ev
def fns : List Nat := [3, 4, 5, 6, 7, 8, 9, 10, 11, 12, 13, 14, 15, 16, 17, 18, 19, 20, 21, 22, 23, 24, 25, 26, 27, 28]
theorem enter : ∀ (g : FuncId), fns.contains g = true → ∀ (args : Array Value) (w : World), (callFunc g args).run Try.prog w = .ok (.enter g args) w := by
  intro g hg
  simp only [fns, List.contains_cons, List.contains_nil, Bool.or_false, Bool.or_eq_true, beq_iff_eq] at hg
  rcases hg with rfl | rfl | rfl | rfl | rfl | rfl | rfl | rfl | rfl | rfl | rfl | rfl | rfl | rfl | rfl | rfl | rfl | rfl | rfl | rfl | rfl | rfl | rfl | rfl | rfl | rfl
  · exact Try.call3
  · exact Try.call4
  · exact Try.call5
  · exact Try.call6
  · exact Try.call7
  · exact Try.call8
  · exact Try.call9
  · exact Try.call10
  · exact Try.call11
  · exact Try.call12
  · exact Try.call13
  · exact Try.call14
  · exact Try.call15
  · exact Try.call16
  · exact Try.call17
  · exact Try.call18
  · exact Try.call19
  · exact Try.call20
  · exact Try.call21
  · exact Try.call22
  · exact Try.call23
  · exact Try.call24
  · exact Try.call25
  · exact Try.call26
  · exact Try.call27
  · exact Try.call28
theorem mixed : Try.prog.follows .mixedOrders = true := by kernel_rfl
def ksN : List CK := [.str, .int .u8]
def ksS : List CK := [.str]
def ksI : List CK := [.int .i64]
def ksB : List CK := [.int .u8]
def ksL : List CK := [.int .u8, .slice [.str], .slice [.int .i64]]
end Go.Proofs.Ytopdfmhlgkbaaaa

/- Texts E52 E53 E60 E61 E62 E63 E64 E65 E66 E67 E68 E69 in one. No conditions. -/
import Derived.Test.YtpblmkephkhlkaaDoorEvZa
import Derived.WalkKit
import Derived.BigCall
import Derived.ArgAppend
import Derived.OwnWalk
import Derived.Test.YtpblmkephkhlkaaDoorLA
/- Loops that run, and loops that fold. No conditions. -/
namespace Go.Ev
set_option linter.all false
/-- A loop that scans: from round 0 on, until something is found. -/
structure ScanL (ι : Type) where
  f : FuncId
  id : Nat
  lv : List Tmp
  lx : List Tmp
  p : PSt
  dat : List It → Option ι
  S : ι → Nat → List It
  len : ι → Nat
  cnd : ι → Bool
  bad : ι → Nat → Bool
  Kb : ι → Nat → (X → St → Option (List D)) → Option (List D)
  Ke : ι → (X → St → Option (List D)) → Option (List D)
/-- The first round in which something is found. -/
def fstF (p : Nat → Bool) : Nat → Nat → Nat
  | 0, j => j
  | m + 1, j => bif p j then j else fstF p m (j + 1)
theorem fstF_ge (p : Nat → Bool) : ∀ m j, j ≤ fstF p m j
  | 0, j => Nat.le_refl _
  | m + 1, j => by
    unfold fstF
    cases p j
    · exact Nat.le_trans (Nat.le_succ _) (fstF_ge p m (j + 1))
    · exact Nat.le_refl _
theorem fstF_any (p : Nat → Bool) : ∀ m j, anyF p m j = true → fstF p m j < j + m ∧ p (fstF p m j) = true ∧ ∀ i, j ≤ i → i < fstF p m j → p i = false
  | 0, j, h => by cases h
  | m + 1, j, h => by
    unfold fstF
    cases hp : p j
    · simp only [anyF, hp, Bool.false_or] at h
      obtain ⟨h1, h2, h3⟩ := fstF_any p m (j + 1) h
      refine ⟨by simp only [cond_false]; omega, h2, fun i hi hlt => ?_⟩
      by_cases e : i = j
      · rw [e]; exact hp
      · exact h3 i (by omega) hlt
    · exact ⟨by simp only [cond_true]; omega, hp, fun i hi hlt => by simp only [cond_true] at hlt; omega⟩
def ScanL.G {ι : Type} (s : ScanL ι) (its : List It) (k : X → St → Option (List D)) : Option (List D) := match s.dat its with
  | some x => br (s.cnd x) (br (anyF (s.bad x) (s.len x) 0) (s.Kb x (fstF (s.bad x) (s.len x) 0) k) (s.Ke x k)) none
  | none => none
def ScanL.C {ι : Type} (s : ScanL ι) : LoopC := ⟨s.f, s.id, s.lv, s.lx, s.p, s.G⟩
noncomputable abbrev bodyOf (C : Cx) (f : FuncId) (id q : Nat) : St → (X → St → Option (List D)) → Option (List D) := evCode C f true (inl C (q + 4)) (lbody C.P f id)
theorem scan_go {f : St → (X → St → Option (List D)) → Option (List D)} {lv : List Tmp} {lx : Option (List Tmp)} {S : Nat → St} {len : Nat} {bad : Nat → Bool} {Kb : Nat → (X → St → Option (List D)) → Option (List D)} {Ke : (X → St → Option (List D)) → Option (List D)}
    (hr : ∀ j, j < len → ∀ R K, f (S j) (rnd lv lx R K) = br (bad j) (Kb j K) (R (S (j + 1)))) (he : ∀ R K, f (S len) (rnd lv lx R K) = Ke K) (K : X → St → Option (List D)) :
    ∀ (m j : Nat), j + m = len → ∀ N, m < N → rounds lv lx f N (S j) K = br (anyF bad m j) (Kb (fstF bad m j) K) (Ke K)
  | 0, j, hj, N, hN => by
    obtain ⟨N, rfl⟩ : ∃ N', N = N' + 1 := ⟨N - 1, by omega⟩
    have : j = len := by omega
    subst this
    simp only [rounds, anyF]
    exact he _ K
  | m + 1, j, hj, N, hN => by
    obtain ⟨N, rfl⟩ : ∃ N', N = N' + 1 := ⟨N - 1, by omega⟩
    simp only [rounds, anyF, fstF]
    rw [hr j (by omega), scan_go hr he K m (j + 1) (by omega) N (by omega)]
    cases bad j <;> rfl
theorem ScanL.ok {ι : Type} {C : Cx} (s : ScanL ι) (h1 : Nat.beq ((loopsOf C.P s.f).filter fun b => Nat.beq (firstRegion b) s.id).length 1 = true)
    (hS : ∀ its x, s.dat its = some x → s.cnd x = true → Go.Ev.bst s.p its = Go.Ev.bst s.p (s.S x 0))
    (hlen : ∀ x, s.cnd x = true → s.len x < C.N)
    (hr : ∀ q x j, s.cnd x = true → j < s.len x → ∀ R K, bodyOf C s.f s.id q (Go.Ev.bst s.p (s.S x j)) (rnd s.lv (some s.lx) R K) = br (s.bad x j) (s.Kb x j K) (R (Go.Ev.bst s.p (s.S x (j + 1)))))
    (he : ∀ q x, s.cnd x = true → ∀ R K, bodyOf C s.f s.id q (Go.Ev.bst s.p (s.S x (s.len x))) (rnd s.lv (some s.lx) R K) = s.Ke x K) : LoopOk C s.C := ⟨h1, fun q its k rr h => by
  change s.G its k = some rr at h
  unfold ScanL.G at h
  split at h
  · rename_i x hx
    rcases br_some h with ⟨hc, h2⟩ | ⟨_, h2⟩
    · rw [← h2]
      show rounds s.lv (some s.lx) (bodyOf C s.f s.id q) C.N (Go.Ev.bst s.p its) k = _
      rw [hS its x hx hc]
      exact scan_go (S := fun j => Go.Ev.bst s.p (s.S x j)) (hr q x · hc) (he q x hc) k (s.len x) 0 (by omega) C.N (hlen x hc)
    · cases h2
  · cases h⟩

/-- A loop that hands something on. -/
structure RunL (ι β : Type) where
  f : FuncId
  id : Nat
  lv : List Tmp
  lx : List Tmp
  p : PSt
  dat : List It → Option ι
  S : ι → Nat → β → List It
  len : ι → Nat
  cnd : ι → Bool
  ini : ι → β
  stop : ι → Nat → β → Bool
  nx : ι → Nat → β → β
  Kb : ι → Nat → β → (X → St → Option (List D)) → Option (List D)
  Ke : ι → β → (X → St → Option (List D)) → Option (List D)
def runS {β : Type} (stop : Nat → β → Bool) (nx : Nat → β → β) : Nat → Nat → β → Bool × Nat × β
  | 0, j, a => (false, j, a)
  | m + 1, j, a => bif stop j a then (true, j, a) else runS stop nx m (j + 1) (nx j a)
theorem runS_s {β : Type} {stop : Nat → β → Bool} {nx : Nat → β → β} {m j : Nat} {a : β} (h : stop j a = false) : runS stop nx (m + 1) j a = runS stop nx m (j + 1) (nx j a) := by
  show (bif stop j a then _ else _) = _
  rw [h]; rfl
theorem runS_t {β : Type} {stop : Nat → β → Bool} {nx : Nat → β → β} {m j : Nat} {a : β} (h : stop j a = true) : runS stop nx (m + 1) j a = (true, j, a) := by
  show (bif stop j a then _ else _) = _
  rw [h]; rfl
theorem runS_inv {β : Type} {stop : Nat → β → Bool} {nx : Nat → β → β} {Inv : Nat → β → Prop} {len : Nat} (hI : ∀ j a, j < len → Inv j a → stop j a = false → Inv (j + 1) (nx j a)) : ∀ {m j : Nat} {a : β}, j + m = len → Inv j a →
    Inv (runS stop nx m j a).2.1 (runS stop nx m j a).2.2 ∧ ((runS stop nx m j a).1 = true → (runS stop nx m j a).2.1 < len ∧ stop (runS stop nx m j a).2.1 (runS stop nx m j a).2.2 = true) ∧ ((runS stop nx m j a).1 = false → (runS stop nx m j a).2.1 = len)
  | 0, j, a, hj, h => ⟨h, fun h => (by cases h), fun _ => hj⟩
  | m + 1, j, a, hj, h => by
    cases hs : stop j a
    · rw [runS_s hs]
      exact runS_inv hI (by omega) (hI j a (by omega) h hs)
    · rw [runS_t hs]
      exact ⟨h, fun _ => ⟨(by dsimp only; omega), hs⟩, fun h => (by cases h)⟩
theorem runS_congr {β : Type} {stop stop' : Nat → β → Bool} {nx nx' : Nat → β → β} {Inv : Nat → β → Prop} {len : Nat} (hI : ∀ j a, j < len → Inv j a → stop j a = false → Inv (j + 1) (nx j a)) (hs : ∀ j a, j < len → Inv j a → stop' j a = stop j a) (hn : ∀ j a, j < len → Inv j a → nx' j a = nx j a) : ∀ {m j : Nat} {a : β}, j + m = len → Inv j a →
    runS stop' nx' m j a = runS stop nx m j a
  | 0, j, a, hj, h => rfl
  | m + 1, j, a, hj, h => by
    cases hc : stop j a
    · rw [runS_s hc, runS_s ((hs j a (by omega) h).trans hc), hn j a (by omega) h]
      exact runS_congr hI hs hn (by omega) (hI j a (by omega) h hc)
    · rw [runS_t hc, runS_t ((hs j a (by omega) h).trans hc)]
def RunL.G {ι β : Type} (s : RunL ι β) (its : List It) (k : X → St → Option (List D)) : Option (List D) := match s.dat its with
  | some x => br (s.cnd x) (br (runS (s.stop x) (s.nx x) (s.len x) 0 (s.ini x)).1 (s.Kb x (runS (s.stop x) (s.nx x) (s.len x) 0 (s.ini x)).2.1 (runS (s.stop x) (s.nx x) (s.len x) 0 (s.ini x)).2.2 k) (s.Ke x (runS (s.stop x) (s.nx x) (s.len x) 0 (s.ini x)).2.2 k)) none
  | none => none
def RunL.C {ι β : Type} (s : RunL ι β) : LoopC := ⟨s.f, s.id, s.lv, s.lx, s.p, s.G⟩
theorem run_go {β : Type} {f : St → (X → St → Option (List D)) → Option (List D)} {lv : List Tmp} {lx : Option (List Tmp)} {S : Nat → β → St} {len : Nat} {stop : Nat → β → Bool} {nx : Nat → β → β} {Kb : Nat → β → (X → St → Option (List D)) → Option (List D)} {Ke : β → (X → St → Option (List D)) → Option (List D)} {Inv : Nat → β → Prop}
    (hI : ∀ j a, j < len → Inv j a → stop j a = false → Inv (j + 1) (nx j a))
    (hr : ∀ j a, j < len → Inv j a → ∀ R K, f (S j a) (rnd lv lx R K) = br (stop j a) (Kb j a K) (R (S (j + 1) (nx j a)))) (he : ∀ a, Inv len a → ∀ R K, f (S len a) (rnd lv lx R K) = Ke a K) (K : X → St → Option (List D)) :
    ∀ (m j : Nat) (a : β), j + m = len → Inv j a → ∀ N, m < N → rounds lv lx f N (S j a) K = br (runS stop nx m j a).1 (Kb (runS stop nx m j a).2.1 (runS stop nx m j a).2.2 K) (Ke (runS stop nx m j a).2.2 K)
  | 0, j, a, hj, h, N, hN => by
    obtain ⟨N, rfl⟩ : ∃ N', N = N' + 1 := ⟨N - 1, by omega⟩
    have : j = len := by omega
    subst this
    simp only [rounds, runS]
    exact he a h _ K
  | m + 1, j, a, hj, h, N, hN => by
    obtain ⟨N, rfl⟩ : ∃ N', N = N' + 1 := ⟨N - 1, by omega⟩
    rw [rnds1, hr j a (by omega) h]
    cases hs : stop j a
    · rw [runS_s hs, br_false]
      exact run_go hI hr he K m (j + 1) (nx j a) (by omega) (hI j a (by omega) h hs) N (by omega)
    · rw [runS_t hs]
      rfl
theorem RunL.ok {ι β : Type} {C : Cx} (s : RunL ι β) (Inv : ι → Nat → β → Prop) (h1 : Nat.beq ((loopsOf C.P s.f).filter fun b => Nat.beq (firstRegion b) s.id).length 1 = true)
    (hS : ∀ its x, s.dat its = some x → s.cnd x = true → Go.Ev.bst s.p its = Go.Ev.bst s.p (s.S x 0 (s.ini x)))
    (hlen : ∀ x, s.cnd x = true → s.len x < C.N) (hI0 : ∀ x, s.cnd x = true → Inv x 0 (s.ini x))
    (hI : ∀ x j a, s.cnd x = true → j < s.len x → Inv x j a → s.stop x j a = false → Inv x (j + 1) (s.nx x j a))
    (hr : ∀ q x j a, s.cnd x = true → j < s.len x → Inv x j a → ∀ R K, bodyOf C s.f s.id q (Go.Ev.bst s.p (s.S x j a)) (rnd s.lv (some s.lx) R K) = br (s.stop x j a) (s.Kb x j a K) (R (Go.Ev.bst s.p (s.S x (j + 1) (s.nx x j a)))))
    (he : ∀ q x a, s.cnd x = true → Inv x (s.len x) a → ∀ R K, bodyOf C s.f s.id q (Go.Ev.bst s.p (s.S x (s.len x) a)) (rnd s.lv (some s.lx) R K) = s.Ke x a K) : LoopOk C s.C := ⟨h1, fun q its k rr h => by
  change s.G its k = some rr at h
  unfold RunL.G at h
  split at h
  · rename_i x hx
    rcases br_some h with ⟨hc, h2⟩ | ⟨_, h2⟩
    · rw [← h2]
      show rounds s.lv (some s.lx) (bodyOf C s.f s.id q) C.N (Go.Ev.bst s.p its) k = _
      rw [hS its x hx hc]
      exact run_go (S := fun j a => Go.Ev.bst s.p (s.S x j a)) (Inv := Inv x) (hI x · · hc) (fun j a hj hi R K => hr q x j a hc hj hi R K) (fun a hi R K => he q x a hc hi R K) k (s.len x) 0 (s.ini x) (by omega) (hI0 x hc) C.N (hlen x hc)
    · cases h2
  · cases h⟩
theorem gd (j n : Nat) (h : j < n) : (decide (0 ≤ (j : Int)) && decide ((j : Int) < (n : Int))) = true := by simp only [Bool.and_eq_true, decide_eq_true_eq]; omega
theorem ltd (j n : Nat) (h : j < n) : decide ((j : Int) < (n : Int)) = true := decide_eq_true (by omega)
theorem ltn (n : Nat) : decide ((n : Int) < (n : Int)) = false := decide_eq_false (by omega)
theorem wsn {j : Nat} (h : j < 1000001) : IntKind.i64.wrap ((j : Int) + 1) = ((j + 1 : Nat) : Int) := by
  rw [wrap64 (by omega) (by omega)]; omega
end Go.Ev
namespace Go.Ev
/-- A loop that goes through all its rounds. -/
structure FoldL (ι β : Type) where
  f : FuncId
  id : Nat
  lv : List Tmp
  lx : List Tmp
  p : PSt
  dat : List It → Option ι
  S : ι → Nat → β → List It
  len : ι → Nat
  cnd : ι → Bool
  ini : ι → β
  nx : ι → Nat → β → β
  Ke : ι → β → (X → St → Option (List D)) → Option (List D)
def fldN {β : Type} (nx : Nat → β → β) : Nat → Nat → β → β
  | 0, _, a => a
  | m + 1, j, a => fldN nx m (j + 1) (nx j a)
def FoldL.G {ι β : Type} (s : FoldL ι β) (its : List It) (k : X → St → Option (List D)) : Option (List D) := match s.dat its with
  | some x => br (s.cnd x) (s.Ke x (fldN (s.nx x) (s.len x) 0 (s.ini x)) k) none
  | none => none
def FoldL.C {ι β : Type} (s : FoldL ι β) : LoopC := ⟨s.f, s.id, s.lv, s.lx, s.p, s.G⟩
theorem fold_inv {β : Type} {nx : Nat → β → β} {Inv : Nat → β → Prop} {len : Nat} (hI : ∀ j a, j < len → Inv j a → Inv (j + 1) (nx j a)) : ∀ {m j : Nat} {a : β}, j + m = len → Inv j a → Inv len (fldN nx m j a)
  | 0, j, a, hj, h => (show j = len by omega) ▸ h
  | m + 1, j, a, hj, h => fold_inv hI (m := m) (by omega) (hI j a (by omega) h)
theorem fold_go {β : Type} {f : St → (X → St → Option (List D)) → Option (List D)} {lv : List Tmp} {lx : Option (List Tmp)} {S : Nat → β → St} {len : Nat} {nx : Nat → β → β} {Ke : β → (X → St → Option (List D)) → Option (List D)} {Inv : Nat → β → Prop}
    (hI : ∀ j a, j < len → Inv j a → Inv (j + 1) (nx j a))
    (hr : ∀ j a, j < len → Inv j a → ∀ R K, f (S j a) (rnd lv lx R K) = R (S (j + 1) (nx j a))) (he : ∀ a, Inv len a → ∀ R K, f (S len a) (rnd lv lx R K) = Ke a K) (K : X → St → Option (List D)) :
    ∀ (m j : Nat) (a : β), j + m = len → Inv j a → ∀ N, m < N → rounds lv lx f N (S j a) K = Ke (fldN nx m j a) K
  | 0, j, a, hj, h, N, hN => by
    obtain ⟨N, rfl⟩ : ∃ N', N = N' + 1 := ⟨N - 1, by omega⟩
    have : j = len := by omega
    subst this
    simp only [rounds, fldN]
    exact he a h _ K
  | m + 1, j, a, hj, h, N, hN => by
    obtain ⟨N, rfl⟩ : ∃ N', N = N' + 1 := ⟨N - 1, by omega⟩
    rw [rnds1, hr j a (by omega) h]
    exact fold_go hI hr he K m (j + 1) (nx j a) (by omega) (hI j a (by omega) h) N (by omega)
theorem FoldL.ok {ι β : Type} {C : Cx} (s : FoldL ι β) (Inv : ι → Nat → β → Prop) (h1 : Nat.beq ((loopsOf C.P s.f).filter fun b => Nat.beq (firstRegion b) s.id).length 1 = true)
    (hS : ∀ its x, s.dat its = some x → s.cnd x = true → Go.Ev.bst s.p its = Go.Ev.bst s.p (s.S x 0 (s.ini x)))
    (hlen : ∀ x, s.cnd x = true → s.len x < C.N) (hI0 : ∀ x, s.cnd x = true → Inv x 0 (s.ini x))
    (hI : ∀ x j a, s.cnd x = true → j < s.len x → Inv x j a → Inv x (j + 1) (s.nx x j a))
    (hr : ∀ q x j a, s.cnd x = true → j < s.len x → Inv x j a → ∀ R K, bodyOf C s.f s.id q (Go.Ev.bst s.p (s.S x j a)) (rnd s.lv (some s.lx) R K) = R (Go.Ev.bst s.p (s.S x (j + 1) (s.nx x j a))))
    (he : ∀ q x a, s.cnd x = true → Inv x (s.len x) a → ∀ R K, bodyOf C s.f s.id q (Go.Ev.bst s.p (s.S x (s.len x) a)) (rnd s.lv (some s.lx) R K) = s.Ke x a K) : LoopOk C s.C := ⟨h1, fun q its k rr h => by
  change s.G its k = some rr at h
  unfold FoldL.G at h
  split at h
  · rename_i x hx
    rcases br_some h with ⟨hc, h2⟩ | ⟨_, h2⟩
    · rw [← h2]
      show rounds s.lv (some s.lx) (bodyOf C s.f s.id q) C.N (Go.Ev.bst s.p its) k = _
      rw [hS its x hx hc]
      exact fold_go (S := fun j a => Go.Ev.bst s.p (s.S x j a)) (Inv := Inv x) (hI x · · hc) (fun j a hj hi R K => hr q x j a hc hj hi R K) (fun a hi R K => he q x a hc hi R K) k (s.len x) 0 (s.ini x) (by omega) (hI0 x hc) C.N (hlen x hc)
    · cases h2
  · cases h⟩
end Go.Ev
/- The reference's Count and Grouping: contracts. No conditions. -/
namespace Go.Proofs.YtpblmkephkhlkaaDoor.Rf
open Go.Ev
set_option linter.all false
def pC : PSt := { τ := [.v (.sl 0)] ++ pu 2 ++ [.v (.int .i64), .v (.int .i64)] ++ pu 14, saved := [[]], mem := [.row [.int .i64] false] }
def pG : PSt := { τ := [.v (.sl 0), .v (.sl 1)] ++ pu 3 ++ [.v (.int .i64), .v (.sl 2), .v (.int .i64)] ++ pu 78, saved := [[]], mem := [.row [.int .i64] false, .row [.int .i64] false, .row [.int .i64] true] }
def pH : PSt := { τ := pu 6 ++ [.v (.sl 0)] ++ pu 1 ++ [.v (.int .i64)] ++ pu 77, saved := [[]], mem := [.row [.int .i64] true] }
def cnX (r : Row) (i : Nat) (a : Int) : Int := if IntKind.i64.wrap (r.I i 0 + 1) > a then IntKind.i64.wrap (r.I i 0 + 1) else a
structure AC where
  n : Nat
  a : Int
  i : Int
  r : Row
def dC (its : List It) : Option AC := match its with | [.n n, .i a, .i i, .r r] => some ⟨n, a, i, r⟩ | _ => none
def cC (x : AC) : Bool := decide (x.i = 0 ∧ x.n ≤ 1000)
theorem cC_iff {x : AC} : cC x = true ↔ x.i = 0 ∧ x.n ≤ 1000 := by unfold cC; rw [decide_eq_true_eq]
def lC : FoldL AC Int where
  f := 21
  id := 3
  lv := [0, 3, 4]
  lx := [2, 3]
  p := pC
  dat := dC
  S := fun x i a => [.n x.n, .i a, .i (i : Int), .r x.r]
  len := fun x => x.n
  cnd := cC
  ini := fun x => x.a
  nx := fun x => cnX x.r
  Ke := fun x a K => K (.exit 0) ⟨us 3 ++ [i64 (a)] ++ us 15, [[]], []⟩
structure AG where
  n : Nat
  m : Nat
  a : Int
  k : Nat
  i : Int
  b : Row
  l : Row
  s : Row
def dG (its : List It) : Option AG := match its with | [.n n, .n m, .i a, .n k, .i i, .r b, .r l, .r s] => some ⟨n, m, a, k, i, b, l, s⟩ | _ => none
def cG (x : AG) : Bool := decide (x.i = 0 ∧ x.a = 0 ∧ x.m = x.n ∧ x.k = x.n + 1 ∧ x.n ≤ 1000)
theorem cG_iff {x : AG} : cG x = true ↔ x.i = 0 ∧ x.a = 0 ∧ x.m = x.n ∧ x.k = x.n + 1 ∧ x.n ≤ 1000 := by unfold cG; rw [decide_eq_true_eq]
def gSt (b l : Row) (i : Nat) (p : Int × Row) : Bool := (!((l.I i 0 == -1) == (b.I i 0 == 0))) || (decide (l.I i 0 < -1) || decide (l.I i 0 > p.1))
def gNx (b l : Row) (i : Nat) (p : Int × Row) : Int × Row := if l.I i 0 ≥ 0 then (cnX l i p.1, p.2.setI (l.I i 0).toNat 0 (IntKind.i64.wrap (p.2.I (l.I i 0).toNat 0 + b.I i 0))) else p
def lG : RunL AG (Int × Row) where
  f := 20
  id := 6
  lv := [0, 1, 5, 6, 7]
  lx := [4, 6]
  p := pG
  dat := dG
  S := fun x i p => [.n x.n, .n x.m, .i p.1, .n x.k, .i (i : Int), .r x.b, .r x.l, .r p.2]
  len := fun x => x.n
  cnd := cG
  ini := fun x => (x.a, x.s)
  stop := fun x => gSt x.b x.l
  nx := fun x => gNx x.b x.l
  Kb := fun x _ p K => K .ret ⟨us 4 ++ [.bool (false)] ++ us 1 ++ [.slice (some ⟨0, 0, some 0⟩) (x.k) (0)] ++ us 79, [[]], [some (.row [.int .i64] true (p.2))]⟩
  Ke := fun x p K => K (.exit 0) ⟨us 6 ++ [.slice (some ⟨0, 0, some 0⟩) (x.k) (0)] ++ us 79, [[]], [some (.row [.int .i64] true (p.2))]⟩
structure AH where
  k : Nat
  i : Int
  s : Row
def dH (its : List It) : Option AH := match its with | [.n k, .i i, .r s] => some ⟨k, i, s⟩ | _ => none
def cH (x : AH) : Bool := decide (x.i = 0 ∧ x.k ≤ 1001)
theorem cH_iff {x : AH} : cH x = true ↔ x.i = 0 ∧ x.k ≤ 1001 := by unfold cH; rw [decide_eq_true_eq]
def lH : RunL AH Unit where
  f := 20
  id := 14
  lv := [6, 8]
  lx := [4]
  p := pH
  dat := dH
  S := fun x i _ => [.n x.k, .i (i : Int), .r x.s]
  len := fun x => x.k
  cnd := cH
  ini := fun _ => ()
  stop := fun x i _ => x.s.I i 0 != 0
  nx := fun _ _ _ => ()
  Kb := fun _ _ _ K => K .ret ⟨us 4 ++ [.bool (false)] ++ us 81, [[]], []⟩
  Ke := fun _ _ K => K (.exit 2) ⟨us 86, [[]], []⟩
noncomputable def CR : Cx := mkCx Tryd.prog fns [] [lC.C, lG.C, lH.C]
theorem rC (R : St → Option (List D)) (K : X → St → Option (List D)) (q n : Nat) (a i : Int) (r : Row) : bodyOf CR 21 3 q (Go.Ev.bst pC [.n n, .i a, .i i, .r r]) (rnd [0, 3, 4] (some [2, 3]) R K) =
    br (decide (i < (↑n : Int))) (br (decide (0 ≤ i) && decide (i < (↑n : Int))) (R ⟨[.slice (some ⟨0, 0, some 0⟩) (n) (0)] ++ us 2 ++ [i64 (if IntKind.i64.wrap (r.I (0 + i.toNat) 0 + 1) > a then IntKind.i64.wrap (r.I (0 + i.toNat) 0 + 1) else a), i64 (IntKind.i64.wrap (i + 1))] ++ us 14, [[]], [some (.row [.int .i64] false (r))]⟩) (none)) (K (.exit 0) ⟨us 3 ++ [i64 (a)] ++ us 15, [[]], []⟩) := by kernel_rfl
theorem rG (R : St → Option (List D)) (K : X → St → Option (List D)) (q n m k : Nat) (a i : Int) (b l s : Row) : bodyOf CR 20 6 q (Go.Ev.bst pG [.n n, .n m, .i a, .n k, .i i, .r b, .r l, .r s]) (rnd [0, 1, 5, 6, 7] (some [4, 6]) R K) =
    br (decide (i < (↑n : Int))) (br (decide (0 ≤ i) && decide (i < (↑m : Int))) (br (decide (0 ≤ i) && decide (i < (↑n : Int))) (br (!(l.I (0 + i.toNat) 0 == -1) == (b.I (0 + i.toNat) 0 == 0)) (K .ret ⟨us 4 ++ [.bool (false)] ++ us 1 ++ [.slice (some ⟨0, 0, some 0⟩) (k) (0)] ++ us 79, [[]], [some (.row [.int .i64] true (s))]⟩) (br (decide (0 ≤ i) && decide (i < (↑m : Int))) (br (decide (l.I (0 + i.toNat) 0 < -1)) (K .ret ⟨us 4 ++ [.bool (false)] ++ us 1 ++ [.slice (some ⟨0, 0, some 0⟩) (k) (0)] ++ us 79, [[]], [some (.row [.int .i64] true (s))]⟩) (br (decide (0 ≤ i) && decide (i < (↑m : Int))) (br (decide (l.I (0 + i.toNat) 0 > a)) (K .ret ⟨us 4 ++ [.bool (false)] ++ us 1 ++ [.slice (some ⟨0, 0, some 0⟩) (k) (0)] ++ us 79, [[]], [some (.row [.int .i64] true (s))]⟩) (br (decide (0 ≤ i) && decide (i < (↑m : Int))) (br (decide (l.I (0 + i.toNat) 0 ≥ 0)) (br (decide (0 ≤ i) && decide (i < (↑m : Int))) (br (decide (0 ≤ l.I (0 + i.toNat) 0) && decide (l.I (0 + i.toNat) 0 < (↑k : Int))) (br (decide (0 ≤ i) && decide (i < (↑n : Int))) (br (decide (0 ≤ l.I (0 + i.toNat) 0) && decide (l.I (0 + i.toNat) 0 < (↑k : Int))) (br (decide (0 ≤ i) && decide (i < (↑m : Int))) (R ⟨[.slice (some ⟨0, 0, some 0⟩) (n) (0), .slice (some ⟨1, 0, some 0⟩) (m) (0)] ++ us 3 ++ [i64 (if IntKind.i64.wrap (l.I (0 + i.toNat) 0 + 1) > a then IntKind.i64.wrap (l.I (0 + i.toNat) 0 + 1) else a), .slice (some ⟨2, 0, some 0⟩) (k) (0), i64 (IntKind.i64.wrap (i + 1))] ++ us 78, [[]], [some (.row [.int .i64] false (b)), some (.row [.int .i64] false (l)), some (.row [.int .i64] true (s.setI (0 + (l.I (0 + i.toNat) 0).toNat) 0 (IntKind.i64.wrap (s.I (0 + (l.I (0 + i.toNat) 0).toNat) 0 + b.I (0 + i.toNat) 0))))]⟩) (none)) (none)) (none)) (none)) (none)) (R ⟨[.slice (some ⟨0, 0, some 0⟩) (n) (0), .slice (some ⟨1, 0, some 0⟩) (m) (0)] ++ us 3 ++ [i64 (a), .slice (some ⟨2, 0, some 0⟩) (k) (0), i64 (IntKind.i64.wrap (i + 1))] ++ us 78, [[]], [some (.row [.int .i64] false (b)), some (.row [.int .i64] false (l)), some (.row [.int .i64] true (s))]⟩)) (none))) (none))) (none))) (none)) (none)) (K (.exit 0) ⟨us 6 ++ [.slice (some ⟨0, 0, some 0⟩) (k) (0)] ++ us 79, [[]], [some (.row [.int .i64] true (s))]⟩) := by kernel_rfl
theorem rH (R : St → Option (List D)) (K : X → St → Option (List D)) (q k : Nat) (i : Int) (s : Row) : bodyOf CR 20 14 q (Go.Ev.bst pH [.n k, .i i, .r s]) (rnd [6, 8] (some [4]) R K) =
    br (decide (i < (↑k : Int))) (br (decide (0 ≤ i) && decide (i < (↑k : Int))) (br (s.I (0 + i.toNat) 0 != 0) (K .ret ⟨us 4 ++ [.bool (false)] ++ us 81, [[]], []⟩) (R ⟨us 6 ++ [.slice (some ⟨0, 0, some 0⟩) (k) (0)] ++ us 1 ++ [i64 (IntKind.i64.wrap (i + 1))] ++ us 77, [[]], [some (.row [.int .i64] true (s))]⟩)) (none)) (K (.exit 2) ⟨us 86, [[]], []⟩) := by kernel_rfl
def coR (r : Row) : Int := fldN (cnX r) r.n 0 0
theorem uC (r : Row) : evF CR 6 21 [.slice ks1 r] = br (cC ⟨r.n, 0, 0, r⟩) (some [.v (i64 (coR r))]) none := by kernel_rfl
def gpS (b l : Row) (k : Nat) : Bool × Nat × Int × Row := runS (gSt b l) (gNx b l) b.n 0 (0, Row.zeros k)
theorem uG (b l : Row) : evF CR 6 20 [.slice ks1 b, .slice ks1 l] =
    br ((l.n : Int) != (b.n : Int)) (some [.v (.bool false)]) (br (decide (0 ≤ IntKind.i64.wrap ((b.n : Int) + 1)) && decide (IntKind.i64.wrap ((b.n : Int) + 1) ≤ IntKind.i64.wrap ((b.n : Int) + 1)) && decide (IntKind.i64.wrap ((b.n : Int) + 1) ≤ 100000000000))
      (br (cG ⟨b.n, l.n, 0, (IntKind.i64.wrap ((b.n : Int) + 1)).toNat, 0, b, l, Row.zeros (IntKind.i64.wrap ((b.n : Int) + 1)).toNat⟩) (br (gpS b l (IntKind.i64.wrap ((b.n : Int) + 1)).toNat).1 (some [.v (.bool false)])
        (br (cH ⟨(IntKind.i64.wrap ((b.n : Int) + 1)).toNat, 0, (gpS b l (IntKind.i64.wrap ((b.n : Int) + 1)).toNat).2.2.2⟩)
          (br (runS (fun i (_ : Unit) => (gpS b l (IntKind.i64.wrap ((b.n : Int) + 1)).toNat).2.2.2.I i 0 != 0) (fun _ _ => ()) (IntKind.i64.wrap ((b.n : Int) + 1)).toNat 0 ()).1 (some [.v (.bool false)]) (some [.v (.bool true)])) none)) none) none) := by kernel_rfl
set_option maxRecDepth 100000 in
theorem okC : LoopOk CR lC.C := lC.ok (fun x i w => True) (by kernel_rfl)
  (fun its x h hc => by
    replace h : dC its = some x := h
    unfold dC at h
    split at h
    · cases h
      obtain ⟨h1, h2⟩ := cC_iff.1 hc
      dsimp only at h1
      subst h1
      rfl
    · cases h)
  (fun x hc => by have := (cC_iff.1 hc).2; show x.n < 18446744073709551616; omega)
  (fun x hc => trivial)
  (fun x i o hc hi hI => trivial)
  (fun q ⟨n, a0, i0, r⟩ i a hc hi hI R K => by
    obtain ⟨h1, h2⟩ := cC_iff.1 hc
    dsimp only at h1 h2
    replace hi : i < n := hi
    refine (rC R K q n a i r).trans ?_
    rw [Int.toNat_natCast, Nat.zero_add i, gd i n hi, ltd i n hi, wsn (j := i) (by omega)]
    rfl)
  (fun q ⟨n, a0, i0, r⟩ a hc hI R K => by
    refine (rC R K q n a (n : Int) r).trans ?_
    rw [ltn n]
    rfl)
set_option maxRecDepth 100000 in
theorem okG : LoopOk CR lG.C := lG.ok (fun x i p => 0 ≤ p.1 ∧ p.1 ≤ (i : Int)) (by kernel_rfl)
  (fun its x h hc => by
    replace h : dG its = some x := h
    unfold dG at h
    split at h
    · cases h
      obtain ⟨h1, h2, h3, h4, h5⟩ := cG_iff.1 hc
      dsimp only at h1
      subst h1
      rfl
    · cases h)
  (fun x hc => by have := (cG_iff.1 hc).2.2.2.2; show x.n < 18446744073709551616; omega)
  (fun x hc => by have := (cG_iff.1 hc).2.1; show 0 ≤ x.a ∧ x.a ≤ ((0 : Nat) : Int); omega)
  (fun x i p hc hi hI hs => by
    obtain ⟨h1, h2, h3, h4, h5⟩ := cG_iff.1 hc
    replace hs : gSt x.b x.l i p = false := hs
    replace hi : i < x.n := hi
    unfold gSt at hs
    simp only [Bool.or_eq_false_iff, decide_eq_false_iff_not] at hs
    show 0 ≤ (gNx x.b x.l i p).1 ∧ (gNx x.b x.l i p).1 ≤ ((i + 1 : Nat) : Int)
    unfold gNx
    split
    · show 0 ≤ cnX x.l i p.1 ∧ cnX x.l i p.1 ≤ ((i + 1 : Nat) : Int)
      unfold cnX
      rw [wrap64 (by omega) (by omega)]
      split <;> omega
    · omega)
  (fun q ⟨n, m, a0, k, i0, b, l, s0⟩ i p hc hi hI R K => by
    obtain ⟨h1, h2, h3, h4, h5⟩ := cG_iff.1 hc
    dsimp only at h1 h2 h3 h4 h5
    replace hi : i < n := hi
    subst h3
    obtain ⟨i1, i2⟩ := hI
    refine (rG R K q m m k p.1 i b l p.2).trans ?_
    rw [Int.toNat_natCast, Nat.zero_add i, gd i m hi, ltd i m hi, wsn (j := i) (by omega)]
    show _ = br (gSt b l i p) _ (R (Go.Ev.bst pG (lG.S ⟨m, m, a0, k, i0, b, l, s0⟩ (i + 1) (gNx b l i p))))
    unfold gSt
    cases c1 : (!((l.I i 0 == -1) == (b.I i 0 == 0)))
    · by_cases c2 : l.I i 0 < -1
      · rw [decide_eq_true c2]; rfl
      · rw [decide_eq_false c2]
        by_cases c3 : l.I i 0 > p.1
        · rw [decide_eq_true c3]; rfl
        · rw [decide_eq_false c3]
          unfold gNx
          by_cases c4 : l.I i 0 ≥ 0
          · rw [decide_eq_true c4, if_pos c4, Nat.zero_add, decide_eq_true (show l.I i 0 < (k : Int) by omega)]
            rfl
          · rw [decide_eq_false c4, if_neg c4]
            rfl
    · rfl)
  (fun q ⟨n, m, a0, k, i0, b, l, s0⟩ p hc hI R K => by
    refine (rG R K q n m k p.1 (n : Int) b l p.2).trans ?_
    rw [ltn n]
    rfl)
set_option maxRecDepth 100000 in
theorem okH : LoopOk CR lH.C := lH.ok (fun x i p => True) (by kernel_rfl)
  (fun its x h hc => by
    replace h : dH its = some x := h
    unfold dH at h
    split at h
    · cases h
      obtain ⟨h1, h2⟩ := cH_iff.1 hc
      dsimp only at h1
      subst h1
      rfl
    · cases h)
  (fun x hc => by have := (cH_iff.1 hc).2; show x.k < 18446744073709551616; omega)
  (fun x hc => trivial)
  (fun x i p hc hi hI hs => trivial)
  (fun q ⟨k, i0, s⟩ i p hc hi hI R K => by
    obtain ⟨h1, h2⟩ := cH_iff.1 hc
    dsimp only at h1 h2
    replace hi : i < k := hi
    refine (rH R K q k i s).trans ?_
    rw [Int.toNat_natCast, Nat.zero_add i, gd i k hi, ltd i k hi, wsn (j := i) (by omega)]
    show br true (br true (br (s.I i 0 != 0) _ _) none) _ = br (s.I i 0 != 0) _ _
    cases (s.I i 0 != 0) <;> rfl)
  (fun q ⟨k, i0, s⟩ p hc hI R K => by
    refine (rH R K q k (k : Int) s).trans ?_
    rw [ltn k]
    rfl)
theorem CR_ok : CxOk CR := mkCx_ok enter mixed (fun p h => by cases h) (fun l h => by
  simp only [List.mem_cons, List.not_mem_nil, or_false] at h
  rcases h with rfl | rfl | rfl
  · exact okC
  · exact okG
  · exact okH)
def Fcount : List D → Option (Bool × List D)
  | [.slice [.int .i64] r] => some (decide (r.n ≤ 1000), [.v (i64 (coR r))])
  | _ => none
theorem den_count : Den Tryd.prog 21 Fcount := evF_den CR_ok fun ds rs h => by
  unfold Fcount at h
  split at h
  · rename_i r
    simp only [Option.some.injEq, Prod.mk.injEq] at h
    obtain ⟨h0, rfl⟩ := h
    refine (uC r).trans ?_
    rw [cC_iff.2 ⟨rfl, of_decide_eq_true h0⟩]
    rfl
  · cases h
/-- Whether a list is a grouping. -/
def gpB (b l : Row) : Bool := bif (l.n : Int) != (b.n : Int) then false else bif (gpS b l (b.n + 1)).1 then false else !(runS (fun i (_ : Unit) => (gpS b l (b.n + 1)).2.2.2.I i 0 != 0) (fun _ _ => ()) (b.n + 1) 0 ()).1
def Fgrouping : List D → Option (Bool × List D)
  | [.slice [.int .i64] b, .slice [.int .i64] l] => some (decide (b.n ≤ 1000), [.v (.bool (gpB b l))])
  | _ => none
theorem den_grouping : Den Tryd.prog 20 Fgrouping := evF_den CR_ok fun ds rs h => by
  unfold Fgrouping at h
  split at h
  · rename_i b l
    simp only [Option.some.injEq, Prod.mk.injEq] at h
    obtain ⟨h0, rfl⟩ := h
    have h0 := of_decide_eq_true h0
    have e : IntKind.i64.wrap ((b.n : Int) + 1) = ((b.n + 1 : Nat) : Int) := wsn (by omega)
    refine (uG b l).trans ?_
    rw [e, Int.toNat_natCast, show (decide ((0 : Int) ≤ ((b.n + 1 : Nat) : Int)) && decide (((b.n + 1 : Nat) : Int) ≤ ((b.n + 1 : Nat) : Int)) && decide (((b.n + 1 : Nat) : Int) ≤ 100000000000)) = true by simp only [Bool.and_eq_true, decide_eq_true_eq]; omega]
    unfold gpB
    cases hn : ((l.n : Int) != (b.n : Int))
    · have hn' : l.n = b.n := by have := bne_eq_false_iff_eq.1 hn; omega
      rw [cG_iff.2 ⟨rfl, rfl, hn', rfl, h0⟩, cH_iff.2 ⟨rfl, by show b.n + 1 ≤ 1001; omega⟩]
      generalize gpS b l (b.n + 1) = G
      cases G.1
      · generalize (runS (fun i (_ : Unit) => G.2.2.2.I i 0 != 0) (fun _ _ => ()) (b.n + 1) 0 ()).1 = h
        cases h <;> rfl
      · rfl
    · rfl
  · cases h
end Go.Proofs.YtpblmkephkhlkaaDoor.Rf
/- The reference's search: walked by hand: the last place. No conditions. -/
namespace Go.Proofs.YtpblmkephkhlkaaDoor.Rf
open Go.Ev Go.RowKit
set_option linter.all false
/-- All is as it was but one block. -/
structure Upd (bl : Nat) (w w' : World) : Prop where
  os : w'.os = w.os
  tape : w'.tape = w.tape
  output : w'.output = w.output
  size : w.heap.size ≤ w'.heap.size
  block : ∀ k, k < w.heap.size → k ≠ bl → w'.heap[k]? = w.heap[k]?
theorem Upd.refl (bl : Nat) (w : World) : Upd bl w w := ⟨rfl, rfl, rfl, Nat.le_refl _, fun _ _ _ => rfl⟩
theorem Upd.trans {bl : Nat} {a b c : World} (h : Upd bl a b) (k : Upd bl b c) : Upd bl a c :=
  ⟨k.os.trans h.os, k.tape.trans h.tape, k.output.trans h.output, Nat.le_trans h.size k.size, fun i hi hn => (k.block i (Nat.lt_of_lt_of_le hi h.size) hn).trans (h.block i hi hn)⟩
theorem Upd.of {bl : Nat} {a b : World} (h : Below a.heap.size a b) : Upd bl a b := ⟨h.os, h.tape, h.output, h.size, fun k hk _ => h.block k hk⟩
/-- Numbers behind an address. -/
def Rd (w : World) (b o n : Nat) (f : Nat → Int) : Prop := ∀ e, e < n → w.cell? ⟨b, o + e, none⟩ = some (.int .i64 (f e))
theorem Rd.upd {bl : Nat} {w w' : World} {b o n : Nat} {f : Nat → Int} (h : Rd w b o n f) (hu : Upd bl w w') (hb : b < w.heap.size) (hn : b ≠ bl) : Rd w' b o n f := fun e he =>
  (World.cell?_of_block (a := ⟨b, o + e, none⟩) (hu.block b hb hn)).trans (h e he)
def lst (n : Nat) (f : Nat → Int) : List Int := (List.range n).map f
/-- A slice that holds a list, or nothing. -/
def Bst (base : Nat) (w : World) (bl : Nat) (v : Value) (r : List Int) : Prop := (r = [] ∧ v = .slice none 0 0) ∨ ∃ k o c, v = .slice (some ⟨k, o, none⟩) r.length c ∧ r.length ≤ c ∧ k < w.heap.size ∧ k ≠ bl ∧ Rd w k o r.length (fun e => r.getD e 0) ∧ base ≤ k ∧ ∃ cur ty, w.heap[k]? = some (.cells cur ty (0, 0)) ∧ o + c ≤ cur.size
theorem Bst.upd {base bl : Nat} {w w' : World} {v : Value} {r : List Int} (h : Bst base w bl v r) (hu : Upd bl w w') : Bst base w' bl v r := by
  rcases h with h | ⟨k, o, c, h1, h2, h3, h4, h5, h6, cur, ty, h7, h8⟩
  · exact .inl h
  · exact .inr ⟨k, o, c, h1, h2, Nat.lt_of_lt_of_le h3 hu.size, h4, h5.upd hu h3 h4, h6, cur, ty, (hu.block k h3 h4).trans h7, h8⟩
theorem Bst.slice {base bl : Nat} {w : World} {v : Value} {r : List Int} (h : Bst base w bl v r) : ∃ a c, v = .slice a r.length c := by
  rcases h with ⟨rfl, h⟩ | ⟨k, o, c, h1, _⟩
  · exact ⟨none, 0, h⟩
  · exact ⟨_, c, h1⟩
set_option maxHeartbeats 4000000 in
set_option maxRecDepth 1000000 in
theorem leaf (w : World) (bb ob cb bl ol cl n : Nat) (gr : Int) (l : Nat → Int) (abest : Option Addr) (nbest cbest : Nat) (g : Bool) (cn : Int)
    (hl : Rd w bl ol n l) (hbl : bl < w.heap.size) (hn1 : 1 ≤ n) (hn : n ≤ 1000) (hnb : nbest ≤ 1000)
    (hgrp : Calls Tryd.prog 20 #[.slice (some ⟨bb, ob, none⟩) n cb, .slice (some ⟨bl, ol, none⟩) n cl] w fun e w' => e = .returned (.bool g) ∧ Below w.heap.size w w')
    (hcnt : ∀ w', Below w.heap.size w w' → Calls Tryd.prog 21 #[.slice abest nbest cbest] w' fun e w'' => e = .returned (.int .i64 cn) ∧ Below w'.heap.size w' w'')
    (K : Ending → World → Prop) (ho : g = false ∨ (nbest ≠ 0 ∧ ¬ cn < gr) → ∀ w', Below w.heap.size w w' → K (.returned (.slice abest nbest cbest)) w')
    (hw : g = true → (nbest = 0 ∨ cn < gr) → ∀ w' k c cur ty, Below w.heap.size w w' → w.heap.size ≤ k → w'.heap[k]? = some (.cells cur ty (0, 0)) → n ≤ c → c ≤ cur.size → cur.toList.take n = (lst n l).map (Value.int .i64) → K (.returned (.slice (some ⟨k, 0, none⟩) n c)) w') :
    Calls Tryd.prog 31 #[.slice (some ⟨bb, ob, none⟩) n cb, .slice (some ⟨bl, ol, none⟩) n cl, .int .i64 (n : Int), .int .i64 gr, .slice abest nbest cbest] w K := by
  have hI : ∃ i, Tryd.prog.info? 3 = some i ∧ i.zero = some (.int .i64 0) ∧ i.size = 1 ∧ i.bytes = 8 := info_parts (by kernel_rfl)
  obtain ⟨it, hi1, hi2, hi3, hi4⟩ := hI
  have news : ∀ j u, ((lst n l).map (Value.int .i64))[j]? = some u → w.cell? ⟨bl, ol + j, none⟩ = some u := fun j u hj => by
    rw [List.getElem?_map] at hj
    unfold lst at hj
    rw [List.getElem?_map] at hj
    by_cases hjn : j < n
    · rw [List.getElem?_range hjn] at hj
      cases hj
      exact hl j hjn
    · rw [List.getElem?_eq_none (by simp; omega)] at hj
      cases hj
  have nlen : ((lst n l).map (Value.int .i64)).length = n * 1 := by unfold lst; simp
  have none1 : ∀ u ∈ (lst n l).map (Value.int .i64), u.oneCell' = true := fun u hu => by
    obtain ⟨x, _, rfl⟩ := List.mem_map.1 hu
    rfl
  have fin : ∀ (w1 : World) (T : Obj) v' w', g = true → (nbest = 0 ∨ cn < gr) → Below w.heap.size w w1 → w'.ownsRow (w1.heap.size + 1) 3 1 v' n ((lst n l).map (Value.int .i64)) → (w1.alloc T).grownBy w' none → K (.returned v') w' := fun w1 T v' w' h1 h2 hb hown hgb => by
    rcases hown.2 with ⟨_, h3⟩ | ⟨k, cap, cur, h3, h4, h5, h6, h7, h8, h9⟩
    · omega
    · subst h3
      have hs := hb.size
      refine hw h1 h2 w' k cap cur 3 ((hb.alloc hb.size T).trans ⟨hgb.os, hgb.tape, hgb.output, hgb.size, fun j hj => hgb.block j ?_ (by simp)⟩) (by omega) h5 h6 (by rw [Nat.mul_one] at h8; omega) (by rw [Nat.mul_one] at h9; exact h9)
      rw [World.size_alloc]
      omega
  cases g with
  | false =>
    have ho' : Hid (∀ w', Below w.heap.size w w' → K (.returned (.slice abest nbest cbest)) w') := ho (.inl rfl)
    clear hw fin ho
    go_enter Tryd.func31, Tryd.ntmps31
    go_wp2_with (first | (go_at_call 20; refine hgrp.mono ?_))
    rintro e w1 ⟨rfl, hb1⟩
    go_wp2
    exact ho'.out w1 hb1
  | true =>
    by_cases h0 : nbest = 0
    · have fin' : Hid (∀ (w1 : World) (T : Obj) v' w', Below w.heap.size w w1 → w'.ownsRow (w1.heap.size + 1) 3 1 v' n ((lst n l).map (Value.int .i64)) → (w1.alloc T).grownBy w' none → K (.returned v') w') := fun w1 T v' w' => fin w1 T v' w' rfl (.inl h0)
      clear hw fin ho
      subst h0
      go_enter Tryd.func31, Tryd.ntmps31
      go_wp2_with (first | (go_at_call 20; refine hgrp.mono ?_))
      rintro e w1 ⟨rfl, hb1⟩
      have hcell : ∀ T j u, ((lst n l).map (Value.int .i64))[j]? = some u → (w1.alloc T).cell? ((⟨bl, ol, none⟩ : Addr).add j) = some u := fun T j u hj => by
        rw [Addr.add_lit]
        exact (World.cell?_alloc_lt _ _ _ (Nat.lt_of_lt_of_le hbl hb1.size)).trans ((hb1.cell hbl).trans (news j u hj))
      go_wp2_with (first | (at_builtin; refine wpList_append_grows _ rfl _ _ 22 rfl 3 it (.int .i64 0) 1 8 Tryd.underlying22 hi1 hi2 hi3 hi4 rfl (by decide) _ 0 0 [] rfl (by intro h; cases h) rfl (by intro b _ j u h; cases h) ⟨bl, ol, none⟩ n cl ((lst n l).map (Value.int .i64)) rfl nlen (hcell _) none1 (by omega) (by simp only [maxLen]; omega) (by omega) ?_))
      intro v' w' hown hgrow
      go_wp2
      exact fin'.out w1 _ v' w' hb1 hown hgrow
    · by_cases h1 : cn < gr
      · have fin' : Hid (∀ (w1 : World) (T : Obj) v' w', Below w.heap.size w w1 → w'.ownsRow (w1.heap.size + 1) 3 1 v' n ((lst n l).map (Value.int .i64)) → (w1.alloc T).grownBy w' none → K (.returned v') w') := fun w1 T v' w' => fin w1 T v' w' rfl (.inr h1)
        have h0' : ¬ (nbest : Int) = 0 := by omega
        clear hw fin ho
        go_enter Tryd.func31, Tryd.ntmps31
        go_wp2_with (first | (go_at_call 20; refine hgrp.mono ?_))
        rintro e w1 ⟨rfl, hb1⟩
        go_wp2_with (first | (go_at_call 21; refine (hcnt w1 hb1).mono ?_))
        rintro e w2 ⟨rfl, hb2⟩
        have hb2 := hb1.trans (hb2.mono hb1.size)
        have hcell : ∀ T j u, ((lst n l).map (Value.int .i64))[j]? = some u → (w2.alloc T).cell? ((⟨bl, ol, none⟩ : Addr).add j) = some u := fun T j u hj => by
          rw [Addr.add_lit]
          exact (World.cell?_alloc_lt _ _ _ (Nat.lt_of_lt_of_le hbl hb2.size)).trans ((hb2.cell hbl).trans (news j u hj))
        go_wp2_with (first | (at_builtin; refine wpList_append_grows _ rfl _ _ 22 rfl 3 it (.int .i64 0) 1 8 Tryd.underlying22 hi1 hi2 hi3 hi4 rfl (by decide) _ 0 0 [] rfl (by intro h; cases h) rfl (by intro b _ j u h; cases h) ⟨bl, ol, none⟩ n cl ((lst n l).map (Value.int .i64)) rfl nlen (hcell _) none1 (by omega) (by simp only [maxLen]; omega) (by omega) ?_))
        intro v' w' hown hgrow
        go_wp2
        exact fin'.out w2 _ v' w' hb2 hown hgrow
      · have ho' : Hid (∀ w', Below w.heap.size w w' → K (.returned (.slice abest nbest cbest)) w') := ho (.inr ⟨h0, h1⟩)
        have h0' : ¬ (nbest : Int) = 0 := by omega
        have H1 : Hid (gr ≤ cn) := (by show gr ≤ cn; omega)
        clear hw fin ho h1
        go_enter Tryd.func31, Tryd.ntmps31
        go_wp2_with (first | (go_at_call 20; refine hgrp.mono ?_))
        rintro e w1 ⟨rfl, hb1⟩
        go_wp2_with (first | (go_at_call 21; refine (hcnt w1 hb1).mono ?_))
        rintro e w2 ⟨rfl, hb2⟩
        have hb2 := hb1.trans (hb2.mono hb1.size)
        have h1 := H1.out
        go_wp2
        all_goals first | exact ho'.out w2 hb2 | (exfalso; rename ((nbest : Int) == 0) = true ∨ cn < gr => hx; rcases hx with hx | hx; (exact h0' (by simpa using hx)); omega)
end Go.Proofs.YtpblmkephkhlkaaDoor.Rf
/- The reference's search: walked by hand: the other places. No conditions. -/
namespace Go.Proofs.YtpblmkephkhlkaaDoor.Rf
open Go.Ev Go.RowKit
set_option linter.all false
set_option maxHeartbeats 4000000 in
set_option maxRecDepth 1000000 in
theorem node0 (w : World) (bb ob cb bl ol cl n at_ : Nat) (gr : Int) (abest : Option Addr) (nbest cbest : Nat)
    (hb : w.cell? ⟨bb, ob + at_, none⟩ = some (.int .i64 0)) (hat : at_ < n) (hn : n ≤ 1000) (x : Int) (hcl : w.cell? ⟨bl, ol + at_, none⟩ = some (.int .i64 x)) (hfr : w.frozen? ⟨bl, ol + at_, none⟩ = false)
    (K : Ending → World → Prop)
    (hrec : Calls Tryd.prog 31 #[.slice (some ⟨bb, ob, none⟩) n cb, .slice (some ⟨bl, ol, none⟩) n cl, .int .i64 ((at_ : Int) + 1), .int .i64 gr, .slice abest nbest cbest] (w.setCell ⟨bl, ol + at_, none⟩ (.int .i64 (-1))) fun e w' => ∃ v, e = .returned v ∧ K (.returned v) w') :
    Calls Tryd.prog 31 #[.slice (some ⟨bb, ob, none⟩) n cb, .slice (some ⟨bl, ol, none⟩) n cl, .int .i64 (at_ : Int), .int .i64 gr, .slice abest nbest cbest] w K := by
  have hne : ¬ (at_ : Int) = (n : Int) := by omega
  go_enter Tryd.func31, Tryd.ntmps31
  go_wp2_with (first | (go_at_call 31; refine hrec.mono ?_))
  rintro e w1 ⟨v, rfl, hK⟩
  go_wp2
  exact hK
/-- The rounds of a loop. -/
def foldJ {α : Type} (f : Nat → α → α) : Nat → α → α
  | 0, a => a
  | j + 1, a => f j (foldJ f j a)
set_option maxHeartbeats 4000000 in
set_option maxRecDepth 1000000 in
theorem node1 (w : World) (bb ob cb bl ol cl n at_ gr : Nat) (abest : Option Addr) (nbest cbest : Nat) (y : Int) (hy : ¬ y = 0)
    (hb : w.cell? ⟨bb, ob + at_, none⟩ = some (.int .i64 y)) (hat : at_ < n) (hn : n ≤ 1000) (hgr : gr ≤ 1000)
    (Inv : Nat → Value → World → Prop)
    (h0 : Inv 0 (.slice abest nbest cbest) w)
    (hsl : ∀ j v w', Inv j v w' → (∃ a m c, v = .slice a m c) ∧ (∃ x, w'.cell? ⟨bl, ol + at_, none⟩ = some (.int .i64 x)) ∧ w'.frozen? ⟨bl, ol + at_, none⟩ = false)
    (hrec : ∀ j, j ≤ gr → ∀ v w', Inv j v w' → ∀ M : Int, M = ((max gr (j + 1) : Nat) : Int) → Calls Tryd.prog 31 #[.slice (some ⟨bb, ob, none⟩) n cb, .slice (some ⟨bl, ol, none⟩) n cl, .int .i64 ((at_ : Int) + 1), .int .i64 M, v] (w'.setCell ⟨bl, ol + at_, none⟩ (.int .i64 (j : Int))) fun e w'' => ∃ v', e = .returned v' ∧ Inv (j + 1) v' w'')
    (K : Ending → World → Prop) (hK : ∀ v w', Inv (gr + 1) v w' → K (.returned v) w') :
    Calls Tryd.prog 31 #[.slice (some ⟨bb, ob, none⟩) n cb, .slice (some ⟨bl, ol, none⟩) n cl, .int .i64 (at_ : Int), .int .i64 (gr : Int), .slice abest nbest cbest] w K := by
  have hne1 : ((at_ : Int) == (n : Int)) = false := beq_eq_false_iff_ne.2 (by omega)
  have hy1 : (y == 0) = false := beq_eq_false_iff_ne.2 hy
  have H0 : Hid (Inv 0 (.slice abest nbest cbest) w) := h0
  have HS : Hid (∀ j v w', Inv j v w' → (∃ a m c, v = .slice a m c) ∧ (∃ x, w'.cell? ⟨bl, ol + at_, none⟩ = some (.int .i64 x)) ∧ w'.frozen? ⟨bl, ol + at_, none⟩ = false) := hsl
  have HR : Hid (∀ j, j ≤ gr → ∀ v w', Inv j v w' → ∀ M : Int, M = ((max gr (j + 1) : Nat) : Int) → Calls Tryd.prog 31 #[.slice (some ⟨bb, ob, none⟩) n cb, .slice (some ⟨bl, ol, none⟩) n cl, .int .i64 ((at_ : Int) + 1), .int .i64 M, v] (w'.setCell ⟨bl, ol + at_, none⟩ (.int .i64 (j : Int))) fun e w'' => ∃ v', e = .returned v' ∧ Inv (j + 1) v' w'') := hrec
  have HK : Hid (∀ v w', Inv (gr + 1) v w' → K (.returned v) w') := hK
  clear h0 hsl hrec hK
  go_enter Tryd.func31, Tryd.ntmps31
  go_wp2
  go_loopw [4, 11] (fun v g wr => ∃ j : Nat, g = .int .i64 j ∧ j ≤ gr + 1 ∧ Hid (Inv j v wr)) (fun _ g _ => gr + 1 - (RowKit.intOf g).toNat)
  case atStart => exact ⟨0, rfl, Nat.zero_le _, H0⟩
  case round =>
    obtain ⟨j, rfl, hj, hI⟩ := hrel
    by_cases hp : j ≤ gr
    · obtain ⟨⟨a, m, c, rfl⟩, ⟨x, hx⟩, hf⟩ := HS.out j _ _ hI.out
      have hr := HR.out j hp _ _ hI.out
      go_wp2_with (go_at_call 31; refine (hr _ ?_).mono ?_)
      all_goals first
        | omega
        | (rintro e w2 v' rfl hI2
           have HI : Hid (Inv (j + 1) v' w2) := hI2
           clear hI2
           go_wp2
           go_roundw
           case rel => exact ⟨j + 1, by go_num, by omega, HI⟩
           case measure =>
             simp [RowKit.intOf]
             omega)
    · have : j = gr + 1 := by omega
      subst this
      go_wp2
      exact HK.out _ _ hI.out
end Go.Proofs.YtpblmkephkhlkaaDoor.Rf
/- The reference's search: its contract, and that of Groups. No conditions. -/
namespace Go.Proofs.YtpblmkephkhlkaaDoor.Rf
open Go.Ev Go.RowKit
set_option linter.all false
/-- A row of numbers. -/
def fr (n : Nat) (f : Nat → Int) : Row := .mk n (fun e _ => f e) (fun _ _ => false) (fun _ _ => .empty) (fun _ _ => .nil)
/-- A slice that reads as numbers. -/
def Sl (w : World) (v : Value) (n : Nat) (f : Nat → Int) : Prop := ∃ a b o c, v = .slice a n c ∧ n ≤ c ∧ (0 < n → a = some ⟨b, o, none⟩ ∧ b < w.heap.size ∧ Rd w b o n f)
theorem Sl.below {w w' : World} {v : Value} {n : Nat} {f : Nat → Int} (h : Sl w v n f) (hb : Below w.heap.size w w') : Sl w' v n f := by
  obtain ⟨a, b, o, c, h1, h2, h3⟩ := h
  refine ⟨a, b, o, c, h1, h2, fun h0 => ?_⟩
  obtain ⟨h4, h5, h6⟩ := h3 h0
  exact ⟨h4, Nat.lt_of_lt_of_le h5 hb.size, fun e he => (hb.cell h5).trans (h6 e he)⟩
theorem Sl.add {w : World} {v : Value} {n : Nat} {f : Nat → Int} (h : Sl w v n f) {m : List (Option Blk)} {ρ : Map} (hm : MemR m ρ w.heap.size w) (hn : NonOwn m) :
    ∃ ρ', MemR (m ++ [some (Blk.row ks1 false (fr n f))]) ρ' w.heap.size w ∧ NonOwn (m ++ [some (Blk.row ks1 false (fr n f))]) ∧ (∀ id, id < m.length → ρ' id = ρ id) ∧ V ρ' (m ++ [some (Blk.row ks1 false (fr n f))]).length (.slice (some ⟨m.length, 0, some 0⟩) n 0) v := by
  obtain ⟨a, b, o, c, rfl, h2, h3⟩ := h
  have hn2 : NonOwn (m ++ [some (Blk.row ks1 false (fr n f))]) := hn.snoc rfl
  refine ⟨Map.snoc ρ m.length ⟨b, o, 1, 0, n, false, s0⟩, hm.alloc (blk := .row ks1 false (fr n f)) (L := ⟨b, o, 1, 0, n, false, s0⟩) (Below.refl _ _) (fun h => by cases h) ⟨rfl, rfl, (fun hf => by cases hf), fun h0 => ?_, rfl⟩, hn2, fun id hid => Map.snoc_old hid, ?_⟩
  · obtain ⟨h4, h5, h6⟩ := h3 h0
    refine ⟨fun _ => hn2.ok h5, .mk (fun e _ => .int .i64 (f e)) (fun e j k he hk => ?_) (fun e j k he hk => ?_)⟩
    · match j, hk with
      | 0, hk =>
        have := h6 e he
        show w.cell? ⟨b, o + e * 1 + 0, none⟩ = _
        rw [Nat.mul_one, Nat.add_zero]
        exact this
    · match j, hk with
      | 0, hk =>
        cases hk
        exact .int
  · refine .slice (L := ⟨b, o, 1, 0, n, false, s0⟩) (by simp) Map.snoc_new (by simp) h2 (fun h0 => ?_) (fun h => by cases h)
    rw [(h3 h0).1]
    simp [Loc.adr]
theorem mem0 (w : World) : MemR [] (fun _ => none) w.heap.size w := ⟨fun id b h => by simp at h, fun _ _ => rfl, fun i j b h => by obtain ⟨_, _, h1, _⟩ := h; cases h1⟩
theorem non0 : NonOwn [] := fun id b h => by simp at h
theorem den1 {f : FuncId} {F : List D → Option (Bool × List D)} (hd : Den Tryd.prog f F) {w : World} {v : Value} {n : Nat} {g : Nat → Int} (h : Sl w v n g) {x : Value} (hx : atom1 x = true) (hF : F [.slice ks1 (fr n g)] = some (true, [.v x])) :
    Calls Tryd.prog f #[v] w fun e w' => e = .returned x ∧ Below w.heap.size w w' := by
  obtain ⟨ρ1, m1, n1, o1, v1⟩ := h.add (mem0 w) non0
  refine (hd w [.slice ks1 (fr n g)] [.v x] hF w (Below.refl _ _) [v] _ _ ρ1 rfl m1 rfl (fun i y c hy hc => by
    match i, hy, hc with
    | 0, hy, hc => simp at hy hc; subst hy hc; exact v1)).mono fun e w' ⟨cv, he, hb, us, mem', ρ', hf, _, hcv⟩ => ?_
  have e2 : us = [x] := by
    have : fromDs true [D.v x] [] = some ([x], []) := by simp [fromDs, fromD, fromD1, hx]
    rw [this] at hf
    simp only [Option.some.injEq, Prod.mk.injEq] at hf
    exact hf.1.symm
  subst e2
  have hcv : V ρ' mem'.length x cv := hcv
  rw [hcv.atom1_eq hx] at he
  exact ⟨he, hb⟩
theorem den2 {f : FuncId} {F : List D → Option (Bool × List D)} (hd : Den Tryd.prog f F) {w : World} {v v' : Value} {n n' : Nat} {g g' : Nat → Int} (h : Sl w v n g) (h' : Sl w v' n' g') {x : Value} (hx : atom1 x = true) (hF : F [.slice ks1 (fr n g), .slice ks1 (fr n' g')] = some (true, [.v x])) :
    Calls Tryd.prog f #[v, v'] w fun e w' => e = .returned x ∧ Below w.heap.size w w' := by
  obtain ⟨ρ1, m1, n1, o1, v1⟩ := h.add (mem0 w) non0
  obtain ⟨ρ2, m2, n2, o2, v2⟩ := h'.add m1 n1
  refine (hd w [.slice ks1 (fr n g), .slice ks1 (fr n' g')] [.v x] hF w (Below.refl _ _) [v, v'] _ _ ρ2 rfl m2 rfl (fun i y c hy hc => by
    match i, hy, hc with
    | 0, hy, hc =>
      simp at hy hc; subst hy hc
      exact v1.mono (by simp) (fun id hid => .inl (o2 id hid))
    | 1, hy, hc => simp at hy hc; subst hy hc; exact v2)).mono fun e w' ⟨cv, he, hb, us, mem', ρ', hf, _, hcv⟩ => ?_
  have e2 : us = [x] := by
    have : fromDs true [D.v x] [] = some ([x], []) := by simp [fromDs, fromD, fromD1, hx]
    rw [this] at hf
    simp only [Option.some.injEq, Prod.mk.injEq] at hf
    exact hf.1.symm
  subst e2
  have hcv : V ρ' mem'.length x cv := hcv
  rw [hcv.atom1_eq hx] at he
  exact ⟨he, hb⟩
def upd (l : Nat → Int) (p : Nat) (x : Int) : Nat → Int := fun e => if e = p then x else l e
def gbF (n : Nat) (B l : Nat → Int) : Bool := gpB (fr n B) (fr n l)
def ctF (r : List Int) : Int := coR (fr r.length fun e => r.getD e 0)
/-- What the search finds, and what is left in the list. -/
def srch (n : Nat) (B : Nat → Int) : Nat → Nat → (Nat → Int) → Nat → List Int → List Int × (Nat → Int)
  | 0, _, l, gr, best => (if gbF n B l = true ∧ (best = [] ∨ ctF best < gr) then lst n l else best, l)
  | k + 1, at_, l, gr, best => if B at_ = 0 then srch n B k (at_ + 1) (upd l at_ (-1)) gr best else foldJ (fun g x => srch n B k (at_ + 1) (upd x.2 at_ (g : Int)) (max gr (g + 1)) x.1) (gr + 1) (best, l)
structure Env (w : World) (bb ob bl ol n : Nat) (B l : Nat → Int) : Prop where
  b : Rd w bb ob n B
  bs : bb < w.heap.size
  ne : bb ≠ bl
  l : Rd w bl ol n l
  ls : bl < w.heap.size
  fz : ∀ i, w.frozen? ⟨bl, i, none⟩ = false
theorem Env.set {w : World} {bb ob bl ol n : Nat} {B l : Nat → Int} (h : Env w bb ob bl ol n B l) {p : Nat} (hp : p < n) (x : Int) : Env (w.setCell ⟨bl, ol + p, none⟩ (.int .i64 x)) bb ob bl ol n B (upd l p x) ∧ Upd bl w (w.setCell ⟨bl, ol + p, none⟩ (.int .i64 x)) := by
  have hu : Upd bl w (w.setCell ⟨bl, ol + p, none⟩ (.int .i64 x)) := ⟨rfl, rfl, rfl, by simp, fun k hk hn => Below.heap_setCell _ _ _ _ hn⟩
  refine ⟨⟨h.b.upd hu h.bs h.ne, by simp [h.bs], h.ne, fun e he => ?_, by simp [h.ls], fun i => by simp [h.fz]⟩, hu⟩
  unfold upd
  by_cases hep : e = p
  · subst hep
    rw [if_pos rfl]
    exact World.cell?_setCell_same _ _ _ (h.l e he)
  · rw [if_neg hep]
    exact (World.cell?_setCell_other _ _ _ _ (fun hh => hep (by have := congrArg Addr.off hh; simp only at this; omega))).trans (h.l e he)
theorem lst_len (n : Nat) (f : Nat → Int) : (lst n f).length = n := by simp [lst]
theorem lst_get {n : Nat} {f : Nat → Int} {e : Nat} (h : e < n) : (lst n f).getD e 0 = f e := by simp [lst, List.getD_eq_getElem?_getD, h]
theorem Bst.sl {base : Nat} {w : World} {bl : Nat} {v : Value} {r : List Int} (h : Bst base w bl v r) : Sl w v r.length (fun e => r.getD e 0) := by
  rcases h with ⟨rfl, h⟩ | ⟨k, o, c, h1, h2, h3, h4, h5, _⟩
  · exact ⟨none, 0, 0, 0, h, Nat.le_refl _, fun h0 => absurd h0 (Nat.lt_irrefl 0)⟩
  · exact ⟨_, k, o, c, h1, h2, fun _ => ⟨rfl, h3, h5⟩⟩
theorem search_walk (n : Nat) (B : Nat → Int) (bb ob cb bl ol cl base : Nat) (hn1 : 1 ≤ n) (hn : n ≤ 900) (hcb : n ≤ cb) (hcl : n ≤ cl) : ∀ (k at_ : Nat) (l : Nat → Int) (gr : Nat) (best : List Int) (v : Value) (w : World), at_ + k = n → gr ≤ at_ → base ≤ w.heap.size → Env w bb ob bl ol n B l → Bst base w bl v best → (best = [] ∨ best.length = n) →
    Calls Tryd.prog 31 #[.slice (some ⟨bb, ob, none⟩) n cb, .slice (some ⟨bl, ol, none⟩) n cl, .int .i64 (at_ : Int), .int .i64 (gr : Int), v] w fun e w' => ∃ v', e = .returned v' ∧ Upd bl w w' ∧ Env w' bb ob bl ol n B (srch n B k at_ l gr best).2 ∧ Bst base w' bl v' (srch n B k at_ l gr best).1 ∧ ((srch n B k at_ l gr best).1 = [] ∨ (srch n B k at_ l gr best).1.length = n)
  | 0, at_, l, gr, best, v, w, hk, hg, hw0, hE, hB, hbl => by
    have : at_ = n := by omega
    subst this
    obtain ⟨a, c, rfl⟩ := hB.slice
    have hS := hB.sl
    have sb : Sl w (.slice (some ⟨bb, ob, none⟩) at_ cb) at_ B := ⟨_, bb, ob, cb, rfl, hcb, fun _ => ⟨rfl, hE.bs, hE.b⟩⟩
    have sl : Sl w (.slice (some ⟨bl, ol, none⟩) at_ cl) at_ l := ⟨_, bl, ol, cl, rfl, hcl, fun _ => ⟨rfl, hE.ls, hE.l⟩⟩
    have hlen : best.length ≤ 1000 := by
      rcases hbl with rfl | h
      · exact Nat.zero_le _
      · omega
    have upE : ∀ w', Below w.heap.size w w' → Env w' bb ob bl ol at_ B l := fun w' hb => ⟨hE.b.upd (Upd.of (bl := w'.heap.size) hb) hE.bs (by have := hb.size; have := hE.bs; omega), Nat.lt_of_lt_of_le hE.bs hb.size, hE.ne, hE.l.upd (Upd.of (bl := w'.heap.size) hb) hE.ls (by have := hb.size; have := hE.ls; omega), Nat.lt_of_lt_of_le hE.ls hb.size, fun i => (hb.frozen hE.ls).trans (hE.fz i)⟩
    refine leaf w bb ob cb bl ol cl at_ gr l a best.length c (gbF at_ B l) (ctF best) hE.l hE.ls hn1 (by omega) hlen
      (den2 den_grouping sb sl rfl (by show some (decide (at_ ≤ 1000), _) = _; rw [decide_eq_true (show at_ ≤ 1000 by omega)]; rfl))
      (fun w' hb => den1 den_count (hS.below hb) rfl (by show some (decide (best.length ≤ 1000), _) = _; rw [decide_eq_true (show best.length ≤ 1000 from hlen)]; rfl)) _ ?_ ?_
    · intro ho w' hb
      have hne : ¬ (gbF at_ B l = true ∧ (best = [] ∨ ctF best < gr)) := by
        rintro ⟨h1, h2⟩
        rcases ho with h | ⟨h, h3⟩
        · rw [h] at h1; cases h1
        · rcases h2 with rfl | h2
          · exact h rfl
          · exact h3 h2
      unfold srch
      rw [if_neg hne]
      exact ⟨_, rfl, Upd.of hb, upE w' hb, hB.upd (Upd.of hb), hbl⟩
    · intro h1 h2 w' k c' cur ty hb hk hh hc hcs ht
      have hp : gbF at_ B l = true ∧ (best = [] ∨ ctF best < gr) := ⟨h1, by
        rcases h2 with h2 | h2
        · exact .inl (List.eq_nil_of_length_eq_zero h2)
        · exact .inr h2⟩
      unfold srch
      rw [if_pos hp]
      refine ⟨_, rfl, Upd.of hb, upE w' hb, .inr ⟨k, 0, c', by rw [lst_len], by rw [lst_len]; exact hc, ?_, ?_, fun e he => ?_, Nat.le_trans hw0 hk, cur, ty, hh, by omega⟩, .inr (lst_len _ _)⟩
      · have : k < w'.heap.size := by
          rcases Nat.lt_or_ge k w'.heap.size with h | h
          · exact h
          · rw [Array.getElem?_eq_none h] at hh; cases hh
        exact this
      · have := hE.ls; omega
      · rw [lst_len] at he
        show w'.cell? ⟨k, 0 + e, none⟩ = some (.int .i64 ((lst at_ l).getD e 0))
        rw [lst_get he, Nat.zero_add]
        have h3 := congrArg (fun x => x[e]?) ht
        rw [List.getElem?_take_of_lt he, List.getElem?_map] at h3
        have h4 : (lst at_ l)[e]? = some (l e) := by simp [lst, he]
        rw [h4] at h3
        simp only [World.cell?, hh]
        rw [← Array.getElem?_toList]
        simpa using h3
  | k + 1, at_, l, gr, best, v, w, hk, hg, hw0, hE, hB, hbl => by
    obtain ⟨a, c, rfl⟩ := hB.slice
    have hat : at_ < n := by omega
    by_cases hz : B at_ = 0
    · have e : srch n B (k + 1) at_ l gr best = srch n B k (at_ + 1) (upd l at_ (-1)) gr best := by
        show (if B at_ = 0 then _ else _) = _
        rw [if_pos hz]
      rw [e]
      obtain ⟨hE2, hu⟩ := hE.set hat (-1)
      have hb0 := hE.b at_ hat
      rw [hz] at hb0
      refine node0 w bb ob cb bl ol cl n at_ gr a best.length c hb0 hat (by omega) (l at_) (hE.l at_ hat) (hE.fz _) _ ?_
      have ih := search_walk n B bb ob cb bl ol cl base hn1 hn hcb hcl k (at_ + 1) (upd l at_ (-1)) gr best (.slice a best.length c) _ (by omega) (by omega) (by have := hu.size; omega) hE2 (hB.upd hu) hbl
      rw [show ((at_ + 1 : Nat) : Int) = (at_ : Int) + 1 by omega] at ih
      exact ih.mono fun e w' ⟨v', h1, h2, h3⟩ => ⟨v', h1, v', rfl, hu.trans h2, h3⟩
    · have e : srch n B (k + 1) at_ l gr best = foldJ (fun g x => srch n B k (at_ + 1) (upd x.2 at_ (g : Int)) (max gr (g + 1)) x.1) (gr + 1) (best, l) := by
        show (if B at_ = 0 then _ else _) = _
        rw [if_neg hz]
      rw [e]
      generalize hF : (fun (g : Nat) (x : List Int × (Nat → Int)) => srch n B k (at_ + 1) (upd x.2 at_ (g : Int)) (max gr (g + 1)) x.1) = F
      refine node1 w bb ob cb bl ol cl n at_ gr a best.length c (B at_) hz (hE.b at_ hat) hat (by omega) (by omega)
        (fun j v' w' => Upd bl w w' ∧ Env w' bb ob bl ol n B (foldJ F j (best, l)).2 ∧ Bst base w' bl v' (foldJ F j (best, l)).1 ∧ ((foldJ F j (best, l)).1 = [] ∨ (foldJ F j (best, l)).1.length = n))
        ⟨Upd.refl _ _, hE, hB, hbl⟩ (fun j v' w' ⟨h1, h2, h3, h4⟩ => ?_) (fun j hj v' w' ⟨h1, h2, h3, h4⟩ M hM => ?_) _ (fun v' w' ⟨h1, h2, h3, h4⟩ => ⟨v', rfl, h1, h2, h3, h4⟩)
      · obtain ⟨a', c', h5⟩ := h3.slice
        exact ⟨⟨a', _, c', h5⟩, ⟨_, h2.l at_ hat⟩, h2.fz _⟩
      · obtain ⟨hE2, hu⟩ := h2.set hat (j : Int)
        have ih := search_walk n B bb ob cb bl ol cl base hn1 hn hcb hcl k (at_ + 1) (upd (foldJ F j (best, l)).2 at_ (j : Int)) (max gr (j + 1)) (foldJ F j (best, l)).1 v' _ (by omega) (by omega) (by have := hu.size; have := h1.size; omega) hE2 (h3.upd hu) h4
        rw [show ((at_ + 1 : Nat) : Int) = (at_ : Int) + 1 by omega] at ih
        rw [hM]
        have hstep : foldJ F (j + 1) (best, l) = srch n B k (at_ + 1) (upd (foldJ F j (best, l)).2 at_ (j : Int)) (max gr (j + 1)) (foldJ F j (best, l)).1 := by
          show F j (foldJ F j (best, l)) = _
          rw [← hF]
        rw [hstep]
        exact ih.mono fun e w'' ⟨v'', g1, g2, g3, g4, g5⟩ => ⟨v'', g1, (h1.trans hu).trans g2, g3, g4, g5⟩
end Go.Proofs.YtpblmkephkhlkaaDoor.Rf
/- The reference's Groups: its contract. No conditions. -/
namespace Go.Proofs.YtpblmkephkhlkaaDoor.Rf
open Go.Ev Go.RowKit
set_option linter.all false
set_option maxHeartbeats 4000000 in
set_option maxRecDepth 1000000 in
theorem groups_walk (w : World) (a : Option Addr) (cb n : Nat) (ec : Int) (hn : ec = 0 → n ≤ 900)
    (hst : Calls Tryd.prog 16 #[.slice a n cb] w fun e w' => e = .returned (.int .i64 ec) ∧ Below w.heap.size w w')
    (Q : Value → World → Prop)
    (hse : ec = 0 → ∀ w' w'', Below w.heap.size w w' → w''.ownsRow w'.heap.size 3 1 (.slice (some ⟨w'.heap.size, 0, none⟩) n n) n (madeCells (Value.int .i64 0).cells (n * 1)).toList → w'.grownBy w'' none →
      Calls Tryd.prog 31 #[.slice a n cb, .slice (some ⟨w'.heap.size, 0, none⟩) n n, .int .i64 0, .int .i64 0, .slice none 0 0] w'' fun e w3 => ∃ v', e = .returned v' ∧ Q v' w3)
    (K : Ending → World → Prop)
    (hK1 : ec ≠ 0 → ∀ w', Below w.heap.size w w' → K (.returned (.tuple #[.slice none 0 0, .int .i64 ec])) w')
    (hK2 : ec = 0 → ∀ v' w', Q v' w' → K (.returned (.tuple #[v', .int .i64 0])) w') :
    Calls Tryd.prog 10 #[.slice a n cb] w K := by
  have hI : ∃ i, Tryd.prog.info? 3 = some i ∧ i.zero = some (.int .i64 0) ∧ i.size = 1 ∧ i.bytes = 8 := info_parts (by kernel_rfl)
  obtain ⟨it, hi1, hi2, hi3, hi4⟩ := hI
  by_cases hec : ec = 0
  · have hn := hn hec
    have HK2 : Hid (∀ v' w', Q v' w' → K (.returned (.tuple #[v', .int .i64 0])) w') := hK2 hec
    have HSE : Hid (∀ w' w'', Below w.heap.size w w' → w''.ownsRow w'.heap.size 3 1 (.slice (some ⟨w'.heap.size, 0, none⟩) n n) n (madeCells (Value.int .i64 0).cells (n * 1)).toList → w'.grownBy w'' none →
      Calls Tryd.prog 31 #[.slice a n cb, .slice (some ⟨w'.heap.size, 0, none⟩) n n, .int .i64 0, .int .i64 0, .slice none 0 0] w'' fun e w3 => ∃ v', e = .returned v' ∧ Q v' w3) := hse hec
    clear hK1 hK2 hse
    subst hec
    go_enter Tryd.func10, Tryd.ntmps10
    go_wp2_with (first | (go_at_call 16; refine hst.mono ?_; rintro e w1 ⟨rfl, hb1⟩) | (at_make; refine wpList_make_full _ rfl _ _ 22 rfl w1.heap.size 3 it (.int .i64 0) 1 Tryd.underlying22 hi1 hi2 hi3 _ _ _ _ n rfl rfl rfl rfl (by rw [hi4]; omega) (by simp only [maxLen]; omega) (Nat.le_refl _) ?_))
    intro w2 hown hgrow
    have hs := HSE.out w1 w2 hb1 (by rw [Nat.mul_one]; exact hown) hgrow
    go_wp2_with (first | (go_at_call 31; refine hs.mono ?_))
    rintro e w3 ⟨v', rfl, hq⟩
    have HQ : Hid (Q v' w3) := hq
    clear hq
    go_wp2
    exact HK2.out _ _ HQ.out
  · have HK1 : Hid (∀ w', Below w.heap.size w w' → K (.returned (.tuple #[.slice none 0 0, .int .i64 ec])) w') := hK1 hec
    have he1 : (ec == 0) = false := beq_eq_false_iff_ne.2 hec
    clear hK1 hK2 hse
    go_enter Tryd.func10, Tryd.ntmps10
    go_wp2_with (first | (go_at_call 16; refine hst.mono ?_; rintro e w1 ⟨rfl, hb1⟩))
    exact HK1.out _ hb1
/-- The reference's grouping. -/
def rgL (n : Nat) (B : Nat → Int) : List Int := (srch n B n 0 (fun _ => 0) 0 []).1

theorem ck_n' {b : Row} (h : ckE b = 0) : 1 ≤ b.n ∧ b.n ≤ 10 := by
  unfold ckE at h
  split at h
  · cases h
  · omega
def rgF (b : Row) : List Int := rgL b.n fun i => b.I i 0
def rgR (b : Row) : Row := if ckE b = 0 then fr (rgF b).length (fun e => (rgF b).getD e 0) else .nil
/-- A slice of a new block is handed over. -/
theorem out_row {w w' : World} (hb : Below w.heap.size w w') {v : Value} {r : Row} (h : (r.n = 0 ∧ v = .slice none 0 0) ∨ ∃ k o c cur ty, v = .slice (some ⟨k, o, none⟩) r.n c ∧ r.n ≤ c ∧ w.heap.size ≤ k ∧ w'.heap[k]? = some (.cells cur ty (0, 0)) ∧ o + c ≤ cur.size ∧ Rd w' k o r.n (fun e => r.I e 0)) :
    ∃ ρ', MemR [some (.row ks1 true r)] ρ' w.heap.size w' ∧ V ρ' 1 (.slice (some ⟨0, 0, some 0⟩) r.n 0) v := by
  rcases h with ⟨h0, rfl⟩ | ⟨k, o, c, cur, ty, rfl, h1, h2, h3, h4, h5⟩
  · refine ⟨_, (mem0 w).alloc (blk := .row ks1 true r) (L := ⟨0, 0, 1, 0, 0, true, s0⟩) hb (fun _ b hf => ?_) ⟨h0.symm, rfl, (fun _ => ⟨rfl, by rw [h0]; exact Nat.le_refl _, fun h => absurd h (Nat.lt_irrefl 0)⟩), fun h => by rw [h0] at h; exact absurd h (Nat.lt_irrefl 0), rfl⟩, ?_⟩
    · rcases hf with ⟨hf, _⟩ | ⟨_, _, hf⟩
      · exact absurd hf (Nat.lt_irrefl 0)
      · cases hf
    · rw [h0]
      exact .slice (L := ⟨0, 0, 1, 0, 0, true, s0⟩) (by simp) Map.snoc_new (by simp) (Nat.le_refl _) (fun h => absurd h (Nat.lt_irrefl 0)) (fun _ => ⟨Nat.le_refl _, .inl rfl⟩)
  · refine ⟨_, (mem0 w).alloc (blk := .row ks1 true r) (L := ⟨k, o, 1, c, r.n, true, s0⟩) hb (fun _ b hf => ?_) ⟨rfl, rfl, (fun _ => ⟨rfl, h1, fun _ => ⟨h2, cur, ty, h3, by show o + c * 1 ≤ _; omega⟩⟩), fun h => ⟨(fun hf => by cases hf), .mk (fun e _ => .int .i64 (r.I e 0)) (fun e j k' he hk => ?_) (fun e j k' he hk => ?_)⟩, rfl⟩, ?_⟩
    · rcases hf with ⟨_, hf⟩ | ⟨_, _, hf⟩
      · rw [hf]; exact h2
      · cases hf
    · match j, hk with
      | 0, hk =>
        show w'.cell? ⟨k, o + e * 1 + 0, none⟩ = _
        rw [Nat.mul_one, Nat.add_zero]
        exact h5 e he
    · match j, hk with
      | 0, hk =>
        cases hk
        exact .int
    · exact .slice (L := ⟨k, o, 1, c, r.n, true, s0⟩) (by simp) Map.snoc_new (by simp) h1 (fun _ => by simp [Loc.adr]) (fun _ => ⟨by simp, .inr (by simp [Loc.adr])⟩)
def FrG : List D → Option (Bool × List D)
  | [.slice [.int .i64] b] => some (true, [.slice ks1 (rgR b), .v (i64 (ckE b))])
  | _ => none
theorem made_zero {n j : Nat} (h : j < n) : (madeCells (Value.int .i64 0).cells (n * 1))[j]? = some (.int .i64 0) := by
  have := madeCells_get (z := (Value.int .i64 0).cells) (n := n) (sz := 1) (e := j) (j := 0) rfl h (by omega) (v := .int .i64 0) rfl
  rw [Nat.add_zero, Nat.mul_one j] at this
  exact this
theorem den_rGroups : Den Tryd.prog 10 FrG := by
  intro wb ds rs hF w hwb args vs mem ρ hfrom hm hl hv
  unfold FrG at hF
  split at hF
  · rename_i b
    simp only [Option.some.injEq, Prod.mk.injEq] at hF
    obtain ⟨_, rfl⟩ := hF
    have hck := den_start wb [.slice ks1 b] [.v (i64 (ckE b))] rfl w hwb args vs mem ρ hfrom hm hl hv
    have e1 : vs = [.slice (some ⟨0, 0, some 0⟩) b.n 0] ∧ mem = [some (.row ks1 false b)] := by
      have : fromDs false [D.slice ks1 b] [] = some ([.slice (some ⟨0, 0, some 0⟩) b.n 0], [some (.row ks1 false b)]) := rfl
      rw [show fromDs false [D.slice [.int .i64] b] [] = fromDs false [D.slice ks1 b] [] from rfl, this] at hfrom
      simp only [Option.some.injEq, Prod.mk.injEq] at hfrom
      exact ⟨hfrom.1.symm, hfrom.2.symm⟩
    obtain ⟨rfl, rfl⟩ := e1
    obtain ⟨c, rfl⟩ : ∃ c, args = [c] := List.length_eq_one_iff.1 hl.symm
    have hc := hv 0 _ c rfl rfl
    obtain ⟨L, hL, hn, hz, _, hrd, _⟩ := hm.blk 0 _ rfl
    cases hc with
    | sliceDead _ h2 => rw [hL] at h2; cases h2
    | @slice _ _ _ M a cap _ h2 h3 h4 h5 h6 =>
    have hML : M = L := by rw [hL] at h2; cases h2; rfl
    subst hML
    have ha : 0 < b.n → a = some ⟨M.b, M.off, none⟩ := fun h => by
      rw [h5 h]
      show some (Loc.adr M 0 0) = _
      unfold Loc.adr
      rw [Nat.zero_mul, Nat.add_zero]
    have hR : 0 < b.n → M.b < w.heap.size ∧ Rd w M.b M.off b.n (fun i => b.I i 0) := fun h => by
      obtain ⟨q1, q2⟩ := hrd h
      refine ⟨(q1 rfl).1, fun e he => ?_⟩
      cases q2 with
      | mk v g1 g2 =>
        have c1 := g1 e 0 _ he rfl
        have c2 := g2 e 0 _ he (show ks1[0]? = some (.int .i64) from rfl)
        generalize v e 0 = y at c1 c2
        cases c2
        have e0 : M.off + e * ks1.length + 0 = M.off + e := by show M.off + e * 1 + 0 = _; omega
        rw [e0] at c1
        exact c1
    refine groups_walk w a cap b.n (ckE b) (fun h => by have := ck_n' h; omega)
      (hck.mono fun e w' ⟨cv, he, hb, us, mem', ρ', hf, _, hcv⟩ => ?_)
      (fun v' w' => Below w.heap.size w w' ∧ Bst w.heap.size w' (w'.heap.size + 1) v' (rgF b))
      (fun hz w' w'' hb hown hg => ?_) _ (fun hne w' hb => ?_) (fun hz v' w' ⟨hb, hB⟩ => ?_)
    · have e2 : us = [i64 (ckE b)] := by
        have : fromDs true [D.v (i64 (ckE b))] [] = some ([i64 (ckE b)], []) := rfl
        rw [this] at hf
        simp only [Option.some.injEq, Prod.mk.injEq] at hf
        exact hf.1.symm
      subst e2
      have hcv : V ρ' mem'.length (.int .i64 (ckE b)) cv := hcv
      cases hcv
      exact ⟨he, hb⟩
    · have hn1 := ck_n' hz
      have ha' := ha (by omega)
      subst ha'
      obtain ⟨r1, r2⟩ := hR (by omega)
      have hs1 := hb.size
      rcases hown.2 with ⟨hx, _⟩ | ⟨g, cp, cur, q1, q2, q3, q4, q5, q6, q7⟩
      · cases hx
      · cases q1
        have hlt : w'.heap.size < w''.heap.size := by
          rcases Nat.lt_or_ge w'.heap.size w''.heap.size with h | h
          · exact h
          · rw [Array.getElem?_eq_none h] at q3; cases q3
        have hblk : ∀ k, k < w'.heap.size → w''.heap[k]? = w'.heap[k]? := fun k hk => hg.block k hk (by simp)
        have hE : Env w'' M.b M.off w'.heap.size 0 b.n (fun i => b.I i 0) (fun _ => 0) := by
          refine ⟨fun e he => ?_, by omega, by omega, fun e he => ?_, hlt, fun i => ?_⟩
          · refine (World.cell?_of_block (a := ⟨M.b, M.off + e, none⟩) (hblk _ (by show M.b < _; omega))).trans ((hb.cell r1).trans (r2 e he))
          · have h7 := congrArg (fun x => x[e]?) q7
            rw [List.getElem?_take_of_lt (by omega), Array.getElem?_toList, Array.getElem?_toList, made_zero he] at h7
            simp only [World.cell?, q3, Nat.zero_add]
            simpa using h7
          · simp [World.frozen?, q3]
        have hsw := search_walk b.n (fun i => b.I i 0) M.b M.off cap w'.heap.size 0 b.n w.heap.size (by omega) (by omega) h4 (Nat.le_refl _) b.n 0 (fun _ => 0) 0 [] (.slice none 0 0) w'' (Nat.zero_add _) (Nat.le_refl _) (by omega) hE (.inl ⟨rfl, rfl⟩) (.inl rfl)
        refine hsw.mono fun e w3 ⟨v', k1, k2, k3, k4, k5⟩ => ⟨v', k1, ?_, ?_⟩
        · exact ⟨k2.os.trans (hg.os.trans hb.os), k2.tape.trans (hg.tape.trans hb.tape), k2.output.trans (hg.output.trans hb.output), by have := k2.size; omega, fun k hk => ((k2.block k (by omega) (by omega)).trans (hblk k (by omega))).trans (hb.block k hk)⟩
        · rcases k4 with k4 | ⟨k, o, c, m1, m2, m3, m4, m5, m6, cur', ty, m7, m8⟩
          · exact .inl k4
          · exact .inr ⟨k, o, c, m1, m2, m3, by omega, m5, m6, cur', ty, m7, m8⟩
    · obtain ⟨ρ', g1, g2⟩ := out_row (r := .nil) hb (.inl ⟨rfl, rfl⟩)
      refine ⟨_, rfl, hb, [.slice (some ⟨0, 0, some 0⟩) 0 0, i64 (ckE b)], [some (.row ks1 true .nil)], ρ', ?_, g1, ?_⟩
      · unfold rgR
        rw [if_neg hne]
        rfl
      · refine .tuple rfl fun j x y hx hy => ?_
        match j, hx, hy with
        | 0, hx, hy => simp at hx hy; subst hx hy; exact g2
        | 1, hx, hy => simp at hx hy; subst hx hy; exact .int
    · have hr : rgR b = fr (rgF b).length (fun e => (rgF b).getD e 0) := by unfold rgR; rw [if_pos hz]
      obtain ⟨ρ', g1, g2⟩ := out_row (r := rgR b) (v := v') hb (by
        rw [hr]
        rcases hB with ⟨h1, h2⟩ | ⟨k, o, c, m1, m2, m3, m4, m5, m6, cur', ty, m7, m8⟩
        · exact .inl ⟨by show (rgF b).length = 0; rw [h1]; rfl, h2⟩
        · exact .inr ⟨k, o, c, cur', ty, m1, m2, m6, m7, m8, m5⟩)
      refine ⟨_, rfl, hb, [.slice (some ⟨0, 0, some 0⟩) (rgR b).n 0, i64 (ckE b)], [some (.row ks1 true (rgR b))], ρ', rfl, g1, ?_⟩
      refine .tuple rfl fun j x y hx hy => ?_
      match j, hx, hy with
      | 0, hx, hy => simp at hx hy; subst hx hy; exact g2
      | 1, hx, hy =>
        simp at hx hy; subst hx hy
        rw [hz]
        exact .int
  · cases hF
end Go.Proofs.YtpblmkephkhlkaaDoor.Rf
/- The reference's pay: its loops. No conditions. -/
namespace Go.Proofs.YtpblmkephkhlkaaDoor.Rf
open Go.Ev
set_option linter.all false
def ks3 : List CK := [.int .i64, .int .i64, .int .i64]
def pI : PSt := { τ := [.v (.sl 0), .v (.sl 1), .v (.int .i64)] ++ pu 4 ++ [.v (.sl 2), .v (.sl 3), .v (.int .i64), .v (.int .i64), .v (.int .i64)] ++ pu 73, saved := [[]], mem := [.row [.int .i64] false, .row [.int .i64] false, .row [.int .i64] true, .row [.int .i64, .int .i64, .int .i64] true] }
def pO : PSt := { τ := [.v (.sl 0), .v (.sl 1), .v (.int .i64)] ++ pu 4 ++ [.v (.sl 2), .v (.sl 3)] ++ pu 76, saved := [[]], mem := [.row [.int .i64] false, .row [.int .i64] false, .row [.int .i64] true, .row [.int .i64, .int .i64, .int .i64] true] }
structure AI where
  nb : Nat
  nl : Nat
  gr : Int
  nf : Nat
  k : Nat
  fr : Int
  to : Int
  i : Int
  b : Row
  l : Row
  f : Row
  o : Row
def dI (its : List It) : Option AI := match its with | [.n nb, .n nl, .i gr, .n nf, .n k, .i fr, .i to, .i i, .r b, .r l, .r f, .r o] => some ⟨nb, nl, gr, nf, k, fr, to, i, b, l, f, o⟩ | _ => none
def cI (x : AI) : Bool := decide (x.i = (x.nb : Int) - 1 ∧ x.nb ≤ x.nl ∧ x.nb ≤ x.nf ∧ x.nb ≤ 1000)
theorem cI_iff {x : AI} : cI x = true ↔ x.i = (x.nb : Int) - 1 ∧ x.nb ≤ x.nl ∧ x.nb ≤ x.nf ∧ x.nb ≤ 1000 := by unfold cI; rw [decide_eq_true_eq]
def pyN (l f : Row) (gr : Int) (n j : Nat) (p : Int × Int) : Int × Int :=
  (if l.I (n - 1 - j) 0 = gr ∧ f.I (n - 1 - j) 0 > 0 then ((n - 1 - j : Nat) : Int) else p.1, if l.I (n - 1 - j) 0 = gr ∧ f.I (n - 1 - j) 0 < 0 then ((n - 1 - j : Nat) : Int) else p.2)
def lI : FoldL AI (Int × Int) where
  f := 33
  id := 5
  lv := [0, 1, 2, 7, 8, 9, 10, 11]
  lx := [0, 1, 2, 6, 7, 8, 9, 10]
  p := pI
  dat := dI
  S := fun x j p => [.n x.nb, .n x.nl, .i x.gr, .n x.nf, .n x.k, .i p.1, .i p.2, .i ((x.nb : Int) - 1 - j), .r x.b, .r x.l, .r x.f, .r x.o]
  len := fun x => x.nb
  cnd := cI
  ini := fun x => (x.fr, x.to)
  nx := fun x => pyN x.l x.f x.gr x.nb
  Ke := fun x p K => K (.exit 2) ⟨[.slice (some ⟨0, 0, some 0⟩) (x.nb) (0), .slice (some ⟨1, 0, some 0⟩) (x.nl) (0), i64 (x.gr)] ++ us 4 ++ [.slice (some ⟨2, 0, some 0⟩) (x.nf) (0), .slice (some ⟨3, 0, some 0⟩) (x.k) (0), i64 (p.1), i64 (p.2)] ++ us 74, [[]], [some (.row [.int .i64] false (x.b)), some (.row [.int .i64] false (x.l)), some (.row [.int .i64] true (x.f)), some (.row [.int .i64, .int .i64, .int .i64] true (x.o))]⟩
/-- Who pays whom next. -/
def pyP (l f : Row) (gr : Int) (n : Nat) : Int × Int := fldN (pyN l f gr n) n 0 (-1, -1)
def pyC (f : Row) (p : Int × Int) : Int := if IntKind.i64.wrap (0 - f.I (0 + p.2.toNat) 0) < f.I (0 + p.1.toNat) 0 then IntKind.i64.wrap (0 - f.I (0 + p.2.toNat) 0) else f.I (0 + p.1.toNat) 0
def pyL1 (f : Row) (p : Int × Int) : Row := f.setI (0 + p.1.toNat) 0 (IntKind.i64.wrap (f.I (0 + p.1.toNat) 0 - pyC f p))
def pyL2 (f : Row) (p : Int × Int) : Row := (pyL1 f p).setI (0 + p.2.toNat) 0 (IntKind.i64.wrap ((pyL1 f p).I (0 + p.2.toNat) 0 + pyC f p))
def pyO (o : Row) (k : Nat) (p : Int × Int) (c : Int) : Row := (winOf o 0 k).app (winOf ((((Row.zeros 1).setI 0 0 p.1).setI 0 1 p.2).setI 0 2 c) 0 1)
/-- The payments of a group. -/
def pyF (l : Row) (gr : Int) (n : Nat) : Nat → Row → Row → Option Row
  | 0, f, o => if (pyP l f gr n).1 < 0 then some o else none
  | c + 1, f, o => if (pyP l f gr n).1 < 0 then some o else if 0 ≤ (pyP l f gr n).2 ∧ (pyP l f gr n).1 < n ∧ (pyP l f gr n).2 < n ∧ o.n ≤ 1000000 then pyF l gr n c (pyL2 f (pyP l f gr n)) (pyO o o.n (pyP l f gr n) (pyC f (pyP l f gr n))) else none
def obR (x : Option Row) (k : Row → Option (List D)) : Option (List D) := match x with
  | some r => k r
  | none => none
def cO (nb nl nf k : Nat) (o : Row) : Bool := decide (nb ≤ nl ∧ nf = nb ∧ nb ≤ 1000 ∧ k = o.n)
def lO (F : Row → Int → Nat → Row → Row → Option Row) : LoopC where
  f := 33
  id := 3
  lv := [0, 1, 2, 7, 8, 10920008]
  lx := [6]
  p := pO
  G := fun its K => match its with
    | [.n nb, .n nl, .i gr, .n nf, .n k, .r b, .r l, .r f, .r o] => br (cO nb nl nf k o) (obR (F l gr nb f o) fun o' => K .ret ⟨us 6 ++ [.slice (some ⟨0, 0, some 0⟩) (o'.n) (0)] ++ us 78, [[]], [some (.row ks3 true o')]⟩) none
    | _ => none
noncomputable def CY (F : Row → Int → Nat → Row → Row → Option Row) : Cx := mkCx Tryd.prog fns [] [lI.C, lO F]
theorem rI (F : Row → Int → Nat → Row → Row → Option Row) (R : St → Option (List D)) (K : X → St → Option (List D)) (q nb nl nf k : Nat) (gr fr to i : Int) (b l f o : Row) : bodyOf (CY F) 33 5 q (Go.Ev.bst pI [.n nb, .n nl, .i gr, .n nf, .n k, .i fr, .i to, .i i, .r b, .r l, .r f, .r o]) (rnd [0, 1, 2, 7, 8, 9, 10, 11] (some [0, 1, 2, 6, 7, 8, 9, 10]) R K) =
    br (decide (i ≥ 0)) (br (decide (0 ≤ i) && decide (i < (↑nl : Int))) (br (l.I (0 + i.toNat) 0 == gr) (br (decide (0 ≤ i) && decide (i < (↑nf : Int))) (br (decide (f.I (0 + i.toNat) 0 > 0)) (br (decide (0 ≤ i) && decide (i < (↑nl : Int))) (br (l.I (0 + i.toNat) 0 == gr) (br (decide (0 ≤ i) && decide (i < (↑nf : Int))) (br (decide (f.I (0 + i.toNat) 0 < 0)) (R ⟨[.slice (some ⟨0, 0, some 0⟩) (nb) (0), .slice (some ⟨1, 0, some 0⟩) (nl) (0), i64 (gr)] ++ us 4 ++ [.slice (some ⟨2, 0, some 0⟩) (nf) (0), .slice (some ⟨3, 0, some 0⟩) (k) (0), i64 (i), i64 (i), i64 (IntKind.i64.wrap (i - 1))] ++ us 73, [[]], [some (.row [.int .i64] false (b)), some (.row [.int .i64] false (l)), some (.row [.int .i64] true (f)), some (.row [.int .i64, .int .i64, .int .i64] true (o))]⟩) (R ⟨[.slice (some ⟨0, 0, some 0⟩) (nb) (0), .slice (some ⟨1, 0, some 0⟩) (nl) (0), i64 (gr)] ++ us 4 ++ [.slice (some ⟨2, 0, some 0⟩) (nf) (0), .slice (some ⟨3, 0, some 0⟩) (k) (0), i64 (i), i64 (to), i64 (IntKind.i64.wrap (i - 1))] ++ us 73, [[]], [some (.row [.int .i64] false (b)), some (.row [.int .i64] false (l)), some (.row [.int .i64] true (f)), some (.row [.int .i64, .int .i64, .int .i64] true (o))]⟩)) (none)) (R ⟨[.slice (some ⟨0, 0, some 0⟩) (nb) (0), .slice (some ⟨1, 0, some 0⟩) (nl) (0), i64 (gr)] ++ us 4 ++ [.slice (some ⟨2, 0, some 0⟩) (nf) (0), .slice (some ⟨3, 0, some 0⟩) (k) (0), i64 (i), i64 (to), i64 (IntKind.i64.wrap (i - 1))] ++ us 73, [[]], [some (.row [.int .i64] false (b)), some (.row [.int .i64] false (l)), some (.row [.int .i64] true (f)), some (.row [.int .i64, .int .i64, .int .i64] true (o))]⟩)) (none)) (br (decide (0 ≤ i) && decide (i < (↑nl : Int))) (br (l.I (0 + i.toNat) 0 == gr) (br (decide (0 ≤ i) && decide (i < (↑nf : Int))) (br (decide (f.I (0 + i.toNat) 0 < 0)) (R ⟨[.slice (some ⟨0, 0, some 0⟩) (nb) (0), .slice (some ⟨1, 0, some 0⟩) (nl) (0), i64 (gr)] ++ us 4 ++ [.slice (some ⟨2, 0, some 0⟩) (nf) (0), .slice (some ⟨3, 0, some 0⟩) (k) (0), i64 (fr), i64 (i), i64 (IntKind.i64.wrap (i - 1))] ++ us 73, [[]], [some (.row [.int .i64] false (b)), some (.row [.int .i64] false (l)), some (.row [.int .i64] true (f)), some (.row [.int .i64, .int .i64, .int .i64] true (o))]⟩) (R ⟨[.slice (some ⟨0, 0, some 0⟩) (nb) (0), .slice (some ⟨1, 0, some 0⟩) (nl) (0), i64 (gr)] ++ us 4 ++ [.slice (some ⟨2, 0, some 0⟩) (nf) (0), .slice (some ⟨3, 0, some 0⟩) (k) (0), i64 (fr), i64 (to), i64 (IntKind.i64.wrap (i - 1))] ++ us 73, [[]], [some (.row [.int .i64] false (b)), some (.row [.int .i64] false (l)), some (.row [.int .i64] true (f)), some (.row [.int .i64, .int .i64, .int .i64] true (o))]⟩)) (none)) (R ⟨[.slice (some ⟨0, 0, some 0⟩) (nb) (0), .slice (some ⟨1, 0, some 0⟩) (nl) (0), i64 (gr)] ++ us 4 ++ [.slice (some ⟨2, 0, some 0⟩) (nf) (0), .slice (some ⟨3, 0, some 0⟩) (k) (0), i64 (fr), i64 (to), i64 (IntKind.i64.wrap (i - 1))] ++ us 73, [[]], [some (.row [.int .i64] false (b)), some (.row [.int .i64] false (l)), some (.row [.int .i64] true (f)), some (.row [.int .i64, .int .i64, .int .i64] true (o))]⟩)) (none))) (none)) (br (decide (0 ≤ i) && decide (i < (↑nl : Int))) (br (l.I (0 + i.toNat) 0 == gr) (br (decide (0 ≤ i) && decide (i < (↑nf : Int))) (br (decide (f.I (0 + i.toNat) 0 < 0)) (R ⟨[.slice (some ⟨0, 0, some 0⟩) (nb) (0), .slice (some ⟨1, 0, some 0⟩) (nl) (0), i64 (gr)] ++ us 4 ++ [.slice (some ⟨2, 0, some 0⟩) (nf) (0), .slice (some ⟨3, 0, some 0⟩) (k) (0), i64 (fr), i64 (i), i64 (IntKind.i64.wrap (i - 1))] ++ us 73, [[]], [some (.row [.int .i64] false (b)), some (.row [.int .i64] false (l)), some (.row [.int .i64] true (f)), some (.row [.int .i64, .int .i64, .int .i64] true (o))]⟩) (R ⟨[.slice (some ⟨0, 0, some 0⟩) (nb) (0), .slice (some ⟨1, 0, some 0⟩) (nl) (0), i64 (gr)] ++ us 4 ++ [.slice (some ⟨2, 0, some 0⟩) (nf) (0), .slice (some ⟨3, 0, some 0⟩) (k) (0), i64 (fr), i64 (to), i64 (IntKind.i64.wrap (i - 1))] ++ us 73, [[]], [some (.row [.int .i64] false (b)), some (.row [.int .i64] false (l)), some (.row [.int .i64] true (f)), some (.row [.int .i64, .int .i64, .int .i64] true (o))]⟩)) (none)) (R ⟨[.slice (some ⟨0, 0, some 0⟩) (nb) (0), .slice (some ⟨1, 0, some 0⟩) (nl) (0), i64 (gr)] ++ us 4 ++ [.slice (some ⟨2, 0, some 0⟩) (nf) (0), .slice (some ⟨3, 0, some 0⟩) (k) (0), i64 (fr), i64 (to), i64 (IntKind.i64.wrap (i - 1))] ++ us 73, [[]], [some (.row [.int .i64] false (b)), some (.row [.int .i64] false (l)), some (.row [.int .i64] true (f)), some (.row [.int .i64, .int .i64, .int .i64] true (o))]⟩)) (none))) (none)) (K (.exit 2) ⟨[.slice (some ⟨0, 0, some 0⟩) (nb) (0), .slice (some ⟨1, 0, some 0⟩) (nl) (0), i64 (gr)] ++ us 4 ++ [.slice (some ⟨2, 0, some 0⟩) (nf) (0), .slice (some ⟨3, 0, some 0⟩) (k) (0), i64 (fr), i64 (to)] ++ us 74, [[]], [some (.row [.int .i64] false (b)), some (.row [.int .i64] false (l)), some (.row [.int .i64] true (f)), some (.row [.int .i64, .int .i64, .int .i64] true (o))]⟩) := by kernel_rfl
theorem rO (F : Row → Int → Nat → Row → Row → Option Row) (R : St → Option (List D)) (K : X → St → Option (List D)) (q nb nl nf k : Nat) (gr : Int) (b l f o : Row) : bodyOf (CY F) 33 3 q (Go.Ev.bst pO [.n nb, .n nl, .i gr, .n nf, .n k, .r b, .r l, .r f, .r o]) (rnd [0, 1, 2, 7, 8, 10920008] (some [6]) R K) =
    br (cI ⟨nb, nl, gr, nf, k, -1, -1, IntKind.i64.wrap ((nb : Int) - 1), b, l, f, o⟩)
      (br (decide ((pyP l f gr nb).1 < 0)) (K .ret ⟨us 6 ++ [.slice (some ⟨0, 0, some 0⟩) (k) (0)] ++ us 78, [[]], [some (.row [.int .i64, .int .i64, .int .i64] true (o))]⟩)
        (br (decide (0 ≤ (pyP l f gr nb).1) && decide ((pyP l f gr nb).1 < (nf : Int))) (br (decide (0 ≤ (pyP l f gr nb).2) && decide ((pyP l f gr nb).2 < (nf : Int))) (br (decide (k + 1 ≤ 10000000000)) (br (decide (0 ≤ (pyP l f gr nb).1) && decide ((pyP l f gr nb).1 < (nf : Int))) (br (decide (0 ≤ (pyP l f gr nb).1) && decide ((pyP l f gr nb).1 < (nf : Int)))
          (br (decide (0 ≤ (pyP l f gr nb).2) && decide ((pyP l f gr nb).2 < (nf : Int))) (br (decide (0 ≤ (pyP l f gr nb).2) && decide ((pyP l f gr nb).2 < (nf : Int)))
            (R (Go.Ev.bst pO [.n nb, .n nl, .i gr, .n nf, .n (k + 1), .r b, .r l, .r (pyL2 f (pyP l f gr nb)), .r (pyO o k (pyP l f gr nb) (pyC f (pyP l f gr nb)))])) none) none) none) none) none) none) none)) none := by kernel_rfl
theorem uP (F : Row → Int → Nat → Row → Row → Option Row) (b l : Row) (gr : Int) : evF (CY F) 6 33 [.slice ks1 b, .slice ks1 l, .v (i64 gr)] =
    br (decide (0 + b.n ≤ 10000000000)) (br (cO b.n l.n (0 + b.n) 0 .nil) (obR (F l gr b.n (Row.nil.app (winOf b 0 b.n)) .nil) fun o => some [.slice ks3 (winOf o 0 o.n)]) none) none := by kernel_rfl
set_option maxRecDepth 100000 in
theorem okI (F : Row → Int → Nat → Row → Row → Option Row) : LoopOk (CY F) lI.C := lI.ok (fun x i w => True) (by kernel_rfl)
  (fun its x h hc => by
    replace h : dI its = some x := h
    unfold dI at h
    split at h
    · cases h
      obtain ⟨h1, h2⟩ := cI_iff.1 hc
      dsimp only at h1
      subst h1
      show Go.Ev.bst lI.p _ = Go.Ev.bst lI.p [_, _, _, _, _, _, _, .i (_ - 1 - ((0 : Nat) : Int)), _, _, _, _]
      rw [show ∀ y : Int, y - 1 - ((0 : Nat) : Int) = y - 1 from fun y => by omega]
      rfl
    · cases h)
  (fun x hc => by have := (cI_iff.1 hc).2.2.2; show x.nb < 18446744073709551616; omega)
  (fun x hc => trivial)
  (fun x i o hc hi hI => trivial)
  (fun q ⟨nb, nl, gr, nf, k, fr0, to0, i0, b, l, f, o⟩ j p hc hj hI R K => by
    obtain ⟨h1, h2, h3, h4⟩ := cI_iff.1 hc
    dsimp only at h1 h2 h3 h4
    replace hj : j < nb := hj
    obtain ⟨e, he⟩ : ∃ e : Nat, (nb : Int) - 1 - j = e ∧ e = nb - 1 - j := ⟨nb - 1 - j, by omega, rfl⟩
    refine (rI F R K q nb nl nf k gr p.1 p.2 ((nb : Int) - 1 - j) b l f o).trans ?_
    rw [he.1, Int.toNat_natCast, Nat.zero_add, gd e nl (by omega), gd e nf (by omega), decide_eq_true (show (e : Int) ≥ 0 by omega), wrap64 (n := (e : Int) - 1) (by omega) (by omega)]
    show _ = R (Go.Ev.bst pI (lI.S ⟨nb, nl, gr, nf, k, fr0, to0, i0, b, l, f, o⟩ (j + 1) (pyN l f gr nb j p)))
    have e1 : (nb : Int) - 1 - ((j + 1 : Nat) : Int) = (e : Int) - 1 := by omega
    unfold pyN
    show _ = R (Go.Ev.bst pI [.n nb, .n nl, .i gr, .n nf, .n k, .i (if l.I (nb - 1 - j) 0 = gr ∧ f.I (nb - 1 - j) 0 > 0 then ((nb - 1 - j : Nat) : Int) else p.1), .i (if l.I (nb - 1 - j) 0 = gr ∧ f.I (nb - 1 - j) 0 < 0 then ((nb - 1 - j : Nat) : Int) else p.2), .i ((nb : Int) - 1 - ((j + 1 : Nat) : Int)), .r b, .r l, .r f, .r o])
    rw [e1, ← he.2]
    by_cases c1 : l.I e 0 = gr
    · rw [show (l.I e 0 == gr) = true by simpa using c1]
      by_cases c2 : f.I e 0 > 0
      · rw [decide_eq_true c2, decide_eq_false (show ¬ f.I e 0 < 0 by omega), if_pos ⟨c1, c2⟩, if_neg (fun h => absurd h.2 (by omega))]
        rfl
      · rw [decide_eq_false c2, if_neg (fun h => c2 h.2)]
        by_cases c3 : f.I e 0 < 0
        · rw [decide_eq_true c3, if_pos ⟨c1, c3⟩]; rfl
        · rw [decide_eq_false c3, if_neg (fun h => c3 h.2)]; rfl
    · rw [show (l.I e 0 == gr) = false by simpa using c1, if_neg (fun h => c1 h.1), if_neg (fun h => c1 h.1)]
      rfl)
  (fun q ⟨nb, nl, gr, nf, k, fr0, to0, i0, b, l, f, o⟩ p hc hI R K => by
    refine (rI F R K q nb nl nf k gr p.1 p.2 ((nb : Int) - 1 - (nb : Nat)) b l f o).trans ?_
    rw [decide_eq_false (show ¬ (nb : Int) - 1 - (nb : Nat) ≥ 0 by omega)]
    rfl)
def pyG : Row → Int → Nat → Row → Row → Option Row := fun l gr n f o => pyF l gr n 10000 f o
theorem go_O {q nb nl nf k0 : Nat} {gr : Int} {b l : Row} (h1 : nb ≤ nl) (h2 : nf = nb) (h3 : nb ≤ 1000) (K : X → St → Option (List D)) {o' : Row} : ∀ (c fu : Nat) (f o : Row), pyF l gr nb c f o = some o' → c < fu →
    rounds [0, 1, 2, 7, 8, 10920008] (some [6]) (bodyOf (CY pyG) 33 3 q) fu (Go.Ev.bst pO [.n nb, .n nl, .i gr, .n nf, .n o.n, .r b, .r l, .r f, .r o]) K = K .ret ⟨us 6 ++ [.slice (some ⟨0, 0, some 0⟩) (o'.n) (0)] ++ us 78, [[]], [some (.row ks3 true o')]⟩
  | 0, fu + 1, f, o, h, hf => by
    unfold pyF at h
    rw [rnds1, rO, wrap64 (n := (nb : Int) - 1) (by omega) (by omega), cI_iff.2 ⟨rfl, h1, by show nb ≤ nf; omega, h3⟩, br_true]
    split at h
    · rename_i hc
      cases h
      rw [decide_eq_true hc]
      rfl
    · cases h
  | c + 1, fu + 1, f, o, h, hf => by
    unfold pyF at h
    rw [rnds1, rO, wrap64 (n := (nb : Int) - 1) (by omega) (by omega), cI_iff.2 ⟨rfl, h1, by show nb ≤ nf; omega, h3⟩, br_true]
    split at h
    · rename_i hc
      cases h
      rw [decide_eq_true hc]
      rfl
    · rename_i hc
      split at h
      · rename_i hd
        obtain ⟨d1, d2, d3, d4⟩ := hd
        rw [decide_eq_false hc, show (decide (0 ≤ (pyP l f gr nb).1) && decide ((pyP l f gr nb).1 < (nf : Int))) = true by simp only [Bool.and_eq_true, decide_eq_true_eq]; omega, show (decide (0 ≤ (pyP l f gr nb).2) && decide ((pyP l f gr nb).2 < (nf : Int))) = true by simp only [Bool.and_eq_true, decide_eq_true_eq]; omega, decide_eq_true (show o.n + 1 ≤ 10000000000 by omega), br_false, br_true, br_true, br_true, br_true, br_true, br_true, br_true]
        have hn : ∀ p c, (pyO o o.n p c).n = o.n + 1 := fun p c => rfl
        have ih := go_O (q := q) (k0 := k0) (b := b) h1 h2 h3 K c fu _ _ h (by omega)
        rw [hn] at ih
        exact ih
      · cases h
set_option maxRecDepth 100000 in
theorem okO : LoopOk (CY pyG) (lO pyG) := ⟨by kernel_rfl, fun q its k rr h => by
  show rounds [0, 1, 2, 7, 8, 10920008] (some [6]) (bodyOf (CY pyG) 33 3 q) 18446744073709551616 (Go.Ev.bst (lO pyG).p its) k = some rr
  dsimp only [lO] at h
  split at h
  · rename_i nb nl gr nf kk b l f o
    rcases br_some h with ⟨hc, h2⟩ | ⟨_, h2⟩
    · obtain ⟨c1, c2, c3, c4⟩ := of_decide_eq_true hc
      subst c4
      cases hp : pyG l gr nb f o with
      | none => rw [hp] at h2; cases h2
      | some o' =>
        rw [hp] at h2
        exact (go_O (q := q) (k0 := 0) (b := b) c1 c2 c3 k 10000 _ f o hp (by omega)).trans h2
    · cases h2
  · cases h⟩
theorem CY_ok : CxOk (CY pyG) := mkCx_ok enter mixed (fun p h => by cases h) (fun l h => by
  simp only [List.mem_cons, List.not_mem_nil, or_false] at h
  rcases h with rfl | rfl
  · exact okI _
  · exact okO)
def pyR (b l : Row) (gr : Int) : Row := match pyF l gr b.n 10000 (Row.nil.app (winOf b 0 b.n)) .nil with
  | some o => winOf o 0 o.n
  | none => .nil
def Fpay : List D → Option (Bool × List D)
  | [.slice [.int .i64] b, .slice [.int .i64] l, .v (.int .i64 gr)] => some (decide (b.n ≤ 1000 ∧ b.n ≤ l.n) && (pyF l gr b.n 10000 (Row.nil.app (winOf b 0 b.n)) .nil).isSome, [.slice ks3 (pyR b l gr)])
  | _ => none
theorem den_rpay : Den Tryd.prog 33 Fpay := evF_den CY_ok fun ds rs h => by
  unfold Fpay at h
  split at h
  · rename_i b l gr
    simp only [Option.some.injEq, Prod.mk.injEq, Bool.and_eq_true, decide_eq_true_eq] at h
    obtain ⟨⟨⟨h1, h2⟩, h3⟩, rfl⟩ := h
    refine (uP pyG b l gr).trans ?_
    rw [decide_eq_true (show 0 + b.n ≤ 10000000000 by omega), show cO b.n l.n (0 + b.n) 0 .nil = true from decide_eq_true ⟨h2, by omega, h1, rfl⟩]
    unfold pyR
    cases hp : pyF l gr b.n 10000 (Row.nil.app (winOf b 0 b.n)) .nil with
    | none => rw [hp] at h3; cases h3
    | some o =>
      show br true (br true (obR (pyF l gr b.n 10000 (Row.nil.app (winOf b 0 b.n)) .nil) _) none) none = _
      rw [hp]
      rfl
  · cases h
end Go.Proofs.YtpblmkephkhlkaaDoor.Rf
/- The reference's Settle. No conditions. -/
namespace Go.Proofs.YtpblmkephkhlkaaDoor.Rf
open Go.Ev
set_option linter.all false
def pS : PSt := { τ := [.v (.sl 0)] ++ pu 3 ++ [.v (.sl 1)] ++ pu 1 ++ [.v (.sl 2), .v (.int .i64)] ++ pu 21, saved := [[]], mem := [.row [.int .i64] false, .row [.int .i64] true, .row [.int .i64, .int .i64, .int .i64] true] }
structure AS where
  nb : Nat
  nl : Nat
  k : Nat
  i : Int
  b : Row
  l : Row
  o : Row
def dS (its : List It) : Option AS := match its with | [.n nb, .n nl, .n k, .i i, .r b, .r l, .r o] => some ⟨nb, nl, k, i, b, l, o⟩ | _ => none
def W1 (r : Row) : Row := winOf r 0 r.n
def payOk (b l : Row) (g : Nat) : Bool := (pyF (W1 l) (g : Int) b.n 10000 (Row.nil.app (W1 b)) .nil).isSome
def cS (x : AS) : Bool := decide (x.i = 0 ∧ x.k = x.o.n ∧ x.o.n = 0 ∧ x.nb = x.b.n ∧ x.nl = x.l.n ∧ x.b.n ≤ 1000 ∧ x.b.n ≤ x.l.n ∧ x.l.n ≤ 1000 ∧ 0 ≤ coR (W1 x.l) ∧ coR (W1 x.l) ≤ 1000) && !anyF (fun g => !payOk x.b x.l g) (coR (W1 x.l)).toNat 0
theorem cS_iff {x : AS} : cS x = true ↔ (x.i = 0 ∧ x.k = x.o.n ∧ x.o.n = 0 ∧ x.nb = x.b.n ∧ x.nl = x.l.n ∧ x.b.n ≤ 1000 ∧ x.b.n ≤ x.l.n ∧ x.l.n ≤ 1000 ∧ 0 ≤ coR (W1 x.l) ∧ coR (W1 x.l) ≤ 1000) ∧ ∀ g, g < (coR (W1 x.l)).toNat → payOk x.b x.l g = true := by
  unfold cS
  simp only [Bool.and_eq_true, decide_eq_true_eq, Bool.not_eq_true', anyF_false, Nat.zero_add, Nat.zero_le, forall_const, Bool.not_eq_false']
def pyS (b l : Row) (g : Nat) : Row := pyR (W1 b) (W1 l) (g : Int)
def nxS (b l : Row) (g : Nat) (o : Row) : Row := (winOf o 0 o.n).app (winOf (pyS b l g) 0 (pyS b l g).n)
def lS : FoldL AS Row where
  f := 12
  id := 6
  lv := [0, 4, 6, 7, 10920006]
  lx := [2, 3, 6]
  p := pS
  dat := dS
  S := fun x i o => [.n x.nb, .n x.nl, .n o.n, .i (i : Int), .r x.b, .r x.l, .r o]
  len := fun x => (coR (W1 x.l)).toNat
  cnd := cS
  ini := fun x => x.o
  nx := fun x => nxS x.b x.l
  Ke := fun x o K => K (.exit 0) ⟨us 6 ++ [.slice (some ⟨0, 0, some 0⟩) (o.n) (0)] ++ us 22, [[]], [some (.row [.int .i64, .int .i64, .int .i64] true (o))]⟩
noncomputable def CSt : Cx := mkCx Tryd.prog fns [(10, FrG), (21, Fcount), (33, Fpay)] [lS.C]
theorem rS (R : St → Option (List D)) (K : X → St → Option (List D)) (q nb nl k : Nat) (i : Int) (b l o : Row) : bodyOf CSt 12 6 q (Go.Ev.bst pS [.n nb, .n nl, .n k, .i i, .r b, .r l, .r o]) (rnd [0, 4, 6, 7, 10920006] (some [2, 3, 6]) R K) =
    br (decide (nl ≤ 1000)) (br (decide (i < coR (winOf l 0 nl))) (br (decide (nb ≤ 1000 ∧ nb ≤ nl) && (pyF (winOf l 0 nl) i nb 10000 (Row.nil.app (winOf b 0 nb)) .nil).isSome) (br (decide (k + (pyR (winOf b 0 nb) (winOf l 0 nl) i).n ≤ 10000000000))
      (R (Go.Ev.bst pS [.n nb, .n nl, .n (k + (pyR (winOf b 0 nb) (winOf l 0 nl) i).n), .i (IntKind.i64.wrap (i + 1)), .r b, .r l, .r ((winOf o 0 k).app (winOf (pyR (winOf b 0 nb) (winOf l 0 nl) i) 0 (pyR (winOf b 0 nb) (winOf l 0 nl) i).n))])) none) none)
      (K (.exit 0) ⟨us 6 ++ [.slice (some ⟨0, 0, some 0⟩) (k) (0)] ++ us 22, [[]], [some (.row [.int .i64, .int .i64, .int .i64] true (o))]⟩)) none := by kernel_rfl
def soR (b : Row) : Row := fldN (nxS b (rgR (W1 b))) (coR (W1 (rgR (W1 b)))).toNat 0 .nil
theorem uS (b : Row) : evF CSt 6 12 [.slice ks1 b] =
    br (ckE (W1 b) != 0) (some [.slice ks3 .nil, .v (i64 (ckE (W1 b)))]) (br (cS ⟨b.n, (rgR (W1 b)).n, 0, 0, b, rgR (W1 b), .nil⟩) (some [.slice ks3 (winOf (soR b) 0 (soR b).n), .v (i64 0)]) none) := by kernel_rfl
theorem pyF_n (l : Row) (gr : Int) (n : Nat) : ∀ (c : Nat) (f o o' : Row), pyF l gr n c f o = some o' → o.n ≤ o'.n ∧ o'.n ≤ o.n + c
  | 0, f, o, o', h => by
    unfold pyF at h
    split at h
    · cases h; exact ⟨Nat.le_refl _, Nat.le_refl _⟩
    · cases h
  | c + 1, f, o, o', h => by
    unfold pyF at h
    split at h
    · cases h; exact ⟨Nat.le_refl _, by omega⟩
    · split at h
      · have := pyF_n l gr n c _ _ _ h
        have hn : ∀ p c, (pyO o o.n p c).n = o.n + 1 := fun p c => rfl
        rw [hn] at this
        omega
      · cases h
theorem pyR_n (b l : Row) (gr : Int) : (pyR b l gr).n ≤ 10000 := by
  unfold pyR
  split
  · rename_i o h
    have := (pyF_n _ _ _ _ _ _ _ h).2
    show o.n ≤ _
    have : (Row.nil).n = 0 := rfl
    omega
  · exact Nat.zero_le _
set_option maxRecDepth 100000 in
theorem okS : LoopOk CSt lS.C := lS.ok (fun x i o => o.n ≤ i * 10000) (by kernel_rfl)
  (fun its x h hc => by
    replace h : dS its = some x := h
    unfold dS at h
    split at h
    · cases h
      obtain ⟨⟨h1, h2, h3, _⟩, _⟩ := cS_iff.1 hc
      dsimp only at h1 h2
      subst h1 h2
      rfl
    · cases h)
  (fun x hc => by obtain ⟨⟨_, _, _, _, _, _, _, _, h9, h10⟩, _⟩ := cS_iff.1 hc; show (coR (W1 x.l)).toNat < 18446744073709551616; omega)
  (fun x hc => by obtain ⟨⟨_, _, h3, _⟩, _⟩ := cS_iff.1 hc; show x.o.n ≤ _; omega)
  (fun x i o hc hi hI => by
    have := pyR_n (W1 x.b) (W1 x.l) (i : Int)
    show o.n + (pyR (W1 x.b) (W1 x.l) (i : Int)).n ≤ (i + 1) * 10000
    omega)
  (fun q ⟨nb, nl, k, i0, b, l, o0⟩ i o hc hi hI R K => by
    obtain ⟨⟨h1, h2, h3, h4, h5, h6, h7, h8, h9, h10⟩, h11⟩ := cS_iff.1 hc
    dsimp only at h1 h2 h3 h4 h5 h6 h7 h8 h9 h10 h11
    replace hi : i < (coR (W1 l)).toNat := hi
    subst h4 h5
    have hp := h11 i hi
    have hn := pyR_n (W1 b) (W1 l) (i : Int)
    refine (rS R K q b.n l.n o.n i b l o).trans ?_
    rw [decide_eq_true h8, show decide ((i : Int) < coR (winOf l 0 l.n)) = true from decide_eq_true (by show (i : Int) < coR (W1 l); omega), decide_eq_true (show b.n ≤ 1000 ∧ b.n ≤ l.n from ⟨h6, h7⟩), show (pyF (winOf l 0 l.n) (i : Int) b.n 10000 (Row.nil.app (winOf b 0 b.n)) .nil).isSome = true from hp,
      decide_eq_true (show o.n + (pyR (winOf b 0 b.n) (winOf l 0 l.n) (i : Int)).n ≤ 10000000000 by (have hn : (pyR (winOf b 0 b.n) (winOf l 0 l.n) (i : Int)).n ≤ 10000 := hn); omega), wsn (j := i) (by omega)]
    have e : (nxS b l i o).n = o.n + (pyR (winOf b 0 b.n) (winOf l 0 l.n) (i : Int)).n := rfl
    rw [br_true, Bool.and_true, br_true, br_true, br_true, ← e]
    rfl)
  (fun q x o hc hI R K => by
    obtain ⟨⟨h1, h2, h3, h4, h5, h6, h7, h8, h9, h10⟩, h11⟩ := cS_iff.1 hc
    clear hI hc
    refine (rS R K q x.nb x.nl o.n ((coR (W1 x.l)).toNat : Int) x.b x.l o).trans ?_
    have e : winOf x.l 0 x.nl = W1 x.l := by rw [h5]; rfl
    rw [e]
    generalize coR (W1 x.l) = c at *
    rw [decide_eq_true (show x.nl ≤ 1000 by omega), decide_eq_false (show ¬ ((c.toNat : Int) < c) by omega), br_true, br_false]
    rfl)
theorem CSt_ok : CxOk CSt := mkCx_ok enter mixed (fun p h => by
  simp only [List.mem_cons, List.not_mem_nil, or_false] at h
  rcases h with rfl | rfl | rfl
  · exact den_rGroups
  · exact den_count
  · exact den_rpay) (fun l h => by
  simp only [List.mem_cons, List.not_mem_nil, or_false] at h
  subst h
  exact okS)
def rsC (b : Row) : Bool := ckE b != 0 || cS ⟨b.n, (rgR b).n, 0, 0, b, rgR b, .nil⟩
def rsR (b : Row) : Row := if ckE b ≠ 0 then .nil else winOf (soR b) 0 (soR b).n
def FrS : List D → Option (Bool × List D)
  | [.slice [.int .i64] b] => some (rsC b, [.slice ks3 (rsR b), .v (i64 (ckE b))])
  | _ => none
theorem den_rSettle : Den Tryd.prog 12 FrS := evF_den CSt_ok fun ds rs h => by
  unfold FrS at h
  split at h
  · rename_i b
    simp only [Option.some.injEq, Prod.mk.injEq] at h
    obtain ⟨h0, rfl⟩ := h
    refine (uS b).trans ?_
    unfold rsC at h0
    unfold rsR
    rw [show ckE (W1 b) = ckE b from ckE_win b]
    by_cases hk : ckE b = 0
    · have hw : W1 b = b := win_self (by have := (ck_n' hk).1; omega)
      rw [hk] at h0
      rw [hw, hk, show cS ⟨b.n, (rgR b).n, 0, 0, b, rgR b, .nil⟩ = true from h0, if_neg (fun h => h rfl)]
      rfl
    · rw [show (ckE b != 0) = true by simpa using hk, if_pos hk]
      rfl
  · cases h
end Go.Proofs.YtpblmkephkhlkaaDoor.Rf
/- What the reference's search finds: the first of the best groupings. No conditions. -/
namespace Go.Proofs.YtpblmkephkhlkaaDoor.Rf
open Go.Ev Go.RowKit
set_option linter.all false
/-- A list of labels up to a place: the groups are numbered as they come. -/
structure Pf (B : Nat → Int) (at_ gr : Nat) (l : Nat → Int) : Prop where
  z : ∀ p, p < at_ → B p = 0 → l p = -1
  lo : ∀ p, p < at_ → B p ≠ 0 → 0 ≤ l p
  hi : ∀ p, p < at_ → B p ≠ 0 → l p < gr
  rg : ∀ p, p < at_ → B p ≠ 0 → ∀ q : Nat, (q : Int) < l p → ∃ p', p' < p ∧ B p' ≠ 0 ∧ l p' = q
  use : ∀ q : Nat, q < gr → ∃ p, p < at_ ∧ B p ≠ 0 ∧ l p = q
theorem Pf.nil (B l : Nat → Int) : Pf B 0 0 l := ⟨fun p h => absurd h (Nat.not_lt_zero p), fun p h => absurd h (Nat.not_lt_zero p), fun p h => absurd h (Nat.not_lt_zero p), fun p h => absurd h (Nat.not_lt_zero p), fun q h => absurd h (Nat.not_lt_zero q)⟩
theorem Pf.congr {B l l' : Nat → Int} {at_ gr : Nat} (h : Pf B at_ gr l) (he : ∀ e, e < at_ → l' e = l e) : Pf B at_ gr l' where
  z := fun p hp hb => by rw [he p hp]; exact h.z p hp hb
  lo := fun p hp hb => by rw [he p hp]; exact h.lo p hp hb
  hi := fun p hp hb => by rw [he p hp]; exact h.hi p hp hb
  rg := fun p hp hb q hq => by
    rw [he p hp] at hq
    obtain ⟨p', h1, h2, h3⟩ := h.rg p hp hb q hq
    exact ⟨p', h1, h2, by rw [he p' (by omega)]; exact h3⟩
  use := fun q hq => by
    obtain ⟨p, h1, h2, h3⟩ := h.use q hq
    exact ⟨p, h1, h2, by rw [he p h1]; exact h3⟩
theorem Pf.set0 {B l : Nat → Int} {at_ gr : Nat} (h : Pf B at_ gr l) (hb : B at_ = 0) : Pf B (at_ + 1) gr (upd l at_ (-1)) := by
  have he : ∀ e, e < at_ → upd l at_ (-1) e = l e := fun e he => if_neg (by omega)
  have ht : upd l at_ (-1) at_ = -1 := if_pos rfl
  have h' := h.congr he
  have hn : ∀ p, p < at_ + 1 → B p ≠ 0 → p < at_ := fun p hp hbp => by
    rcases Nat.lt_or_ge p at_ with h | h
    · exact h
    · exact absurd (by rw [show p = at_ by omega]; exact hb) hbp
  refine ⟨fun p hp hbp => ?_, fun p hp hbp => h'.lo p (hn p hp hbp) hbp, fun p hp hbp => h'.hi p (hn p hp hbp) hbp, fun p hp hbp => h'.rg p (hn p hp hbp) hbp, fun q hq => ?_⟩
  · rcases Nat.lt_or_ge p at_ with h1 | h1
    · exact h'.z p h1 hbp
    · rw [show p = at_ by omega]; exact ht
  · obtain ⟨p, h1, h2⟩ := h'.use q hq
    exact ⟨p, by omega, h2⟩
theorem Pf.set1 {B l : Nat → Int} {at_ gr : Nat} (h : Pf B at_ gr l) (hb : B at_ ≠ 0) {j : Nat} (hj : j ≤ gr) : Pf B (at_ + 1) (max gr (j + 1)) (upd l at_ (j : Int)) := by
  have he : ∀ e, e < at_ → upd l at_ (j : Int) e = l e := fun e he => if_neg (by omega)
  have ht : upd l at_ (j : Int) at_ = (j : Int) := if_pos rfl
  have h' := h.congr he
  refine ⟨fun p hp hbp => ?_, fun p hp hbp => ?_, fun p hp hbp => ?_, fun p hp hbp q hq => ?_, fun q hq => ?_⟩
  · rcases Nat.lt_or_ge p at_ with h1 | h1
    · exact h'.z p h1 hbp
    · exact absurd (by rw [← show p = at_ by omega]; exact hbp) hb
  · rcases Nat.lt_or_ge p at_ with h1 | h1
    · exact h'.lo p h1 hbp
    · rw [show p = at_ by omega, ht]; omega
  · rcases Nat.lt_or_ge p at_ with h1 | h1
    · have := h'.hi p h1 hbp; omega
    · rw [show p = at_ by omega, ht]; omega
  · rcases Nat.lt_or_ge p at_ with h1 | h1
    · exact h'.rg p h1 hbp q hq
    · have hp' : p = at_ := by omega
      subst hp'
      rw [ht] at hq
      obtain ⟨p', g1, g2, g3⟩ := h'.use q (by omega)
      exact ⟨p', g1, g2, g3⟩
  · by_cases hq' : q < gr
    · obtain ⟨p, h1, h2⟩ := h'.use q hq'
      exact ⟨p, by omega, h2⟩
    · exact ⟨at_, by omega, hb, by rw [ht]; omega⟩
theorem Pf.uniq {B l l' : Nat → Int} {at_ gr gr' : Nat} (h : Pf B at_ gr l) (h' : Pf B at_ gr' l') (he : ∀ e, e < at_ → l' e = l e) : gr' = gr := by
  have h2 := h.congr he
  rcases Nat.lt_trichotomy gr' gr with hc | hc | hc
  · obtain ⟨p, h3, h4, h5⟩ := h2.use gr' hc
    have := h'.hi p h3 h4
    omega
  · exact hc
  · obtain ⟨p, h3, h4, h5⟩ := h'.use gr hc
    have := h2.hi p h3 h4
    omega
/-- The number at a place that comes next. -/
theorem Pf.next {B l : Nat → Int} {at_ gr n m : Nat} (h : Pf B at_ gr l) {l' : Nat → Int} (h' : Pf B n m l') (he : ∀ e, e < at_ → l' e = l e) (ha : at_ < n) (hb : B at_ ≠ 0) : 0 ≤ l' at_ ∧ l' at_ ≤ gr := by
  refine ⟨h'.lo at_ ha hb, ?_⟩
  rcases Int.lt_or_le (gr : Int) (l' at_) with hc | hc
  · obtain ⟨p', h1, h2, h3⟩ := h'.rg at_ ha hb gr hc
    have := (h.congr he).hi p' h1 h2
    omega
  · exact hc
def Lx (n : Nat) (l' l : Nat → Int) : Prop := ∃ j, j < n ∧ (∀ e, e < j → l' e = l e) ∧ l' j < l j
/-- A grouping with m groups, whether its sums are 0 told by Z. -/
def Gd (Z : (Nat → Int) → Prop) (B : Nat → Int) (n m : Nat) (l : Nat → Int) : Prop := Pf B n m l ∧ Z l
structure Hz (n : Nat) (B : Nat → Int) (Z : (Nat → Int) → Prop) : Prop where
  c : ∀ l l', (∀ e, e < n → l' e = l e) → (Z l' ↔ Z l)
  g : ∀ l m, Pf B n m l → (gbF n B l = true ↔ Z l)
  t : ∀ l m, Pf B n m l → ctF (lst n l) = (m : Int)
def Out (Z : (Nat → Int) → Prop) (B : Nat → Int) (n : Nat) (S : (Nat → Int) → Prop) (best r : List Int) : Prop :=
  (r = best ∧ ∀ l' m, S l' → Gd Z B n m l' → best ≠ [] ∧ (m : Int) ≤ ctF best) ∨
  ∃ l0 m0, S l0 ∧ Gd Z B n m0 l0 ∧ r = lst n l0 ∧ (best = [] ∨ ctF best < (m0 : Int)) ∧ ∀ l' m, S l' → Gd Z B n m l' → m ≤ m0 ∧ (m = m0 → ¬ Lx n l' l0)
theorem Out.congr {Z : (Nat → Int) → Prop} {B : Nat → Int} {n : Nat} {S S' : (Nat → Int) → Prop} {best r : List Int} (h : Out Z B n S best r) (h1 : ∀ l m, S' l → Gd Z B n m l → S l) (h2 : ∀ l m, S l → Gd Z B n m l → S' l) : Out Z B n S' best r := by
  rcases h with ⟨h3, h4⟩ | ⟨l0, m0, a, b, c, d, e⟩
  · exact .inl ⟨h3, fun l' m hs hg => h4 l' m (h1 l' m hs hg) hg⟩
  · exact .inr ⟨l0, m0, h2 l0 m0 a b, b, c, d, fun l' m hs hg => e l' m (h1 l' m hs hg) hg⟩
theorem foldJ_step {α : Type} (f : Nat → α → α) (P : Nat → α → Prop) (a : α) (n : Nat) (h0 : P 0 a) (hs : ∀ j x, j < n → P j x → P (j + 1) (f j x)) : ∀ j, j ≤ n → P j (foldJ f j a)
  | 0, _ => h0
  | j + 1, hj => hs j _ (by omega) (foldJ_step f P a n h0 hs j (by omega))
theorem srch_spec {Z : (Nat → Int) → Prop} {B : Nat → Int} {n : Nat} (hz : Hz n B Z) : ∀ (k at_ : Nat) (l : Nat → Int) (gr : Nat) (best : List Int), at_ + k = n → Pf B at_ gr l →
    (∀ e, e < at_ → (srch n B k at_ l gr best).2 e = l e) ∧ Out Z B n (fun l' => ∀ e, e < at_ → l' e = l e) best (srch n B k at_ l gr best).1
  | 0, at_, l, gr, best, hk, hp => by
    have : at_ = n := by omega
    subst this
    refine ⟨fun e he => rfl, ?_⟩
    have hag : ∀ l' m, (∀ e, e < at_ → l' e = l e) → Gd Z B at_ m l' → m = gr ∧ Z l := fun l' m he hg => ⟨hp.uniq hg.1 he, (hz.c l l' he).1 hg.2⟩
    show Out Z B at_ _ best (if gbF at_ B l = true ∧ (best = [] ∨ ctF best < gr) then lst at_ l else best)
    by_cases hg : gbF at_ B l = true
    · have hZ := (hz.g l gr hp).1 hg
      by_cases hb : best = [] ∨ ctF best < gr
      · rw [if_pos ⟨hg, hb⟩]
        refine .inr ⟨l, gr, fun e he => rfl, ⟨hp, hZ⟩, rfl, hb, fun l' m he hg' => ⟨Nat.le_of_eq (hag l' m he hg').1, fun _ hx => ?_⟩⟩
        obtain ⟨j, h1, h2, h3⟩ := hx
        rw [he j h1] at h3
        omega
      · rw [if_neg fun h => hb h.2]
        refine .inl ⟨rfl, fun l' m he hg' => ⟨fun h => hb (.inl h), ?_⟩⟩
        rw [(hag l' m he hg').1]
        exact Int.not_lt.1 fun h => hb (.inr h)
    · rw [if_neg fun h => hg h.1]
      exact .inl ⟨rfl, fun l' m he hg' => absurd ((hz.g l gr hp).2 (hag l' m he hg').2) hg⟩
  | k + 1, at_, l, gr, best, hk, hp => by
    have hat : at_ < n := by omega
    by_cases hb : B at_ = 0
    · have e : srch n B (k + 1) at_ l gr best = srch n B k (at_ + 1) (upd l at_ (-1)) gr best := by
        show (if B at_ = 0 then _ else _) = _
        rw [if_pos hb]
      rw [e]
      obtain ⟨i1, i2⟩ := srch_spec hz k (at_ + 1) (upd l at_ (-1)) gr best (by omega) (hp.set0 hb)
      have hu : ∀ e, e < at_ → upd l at_ (-1) e = l e := fun e he => if_neg (by omega)
      refine ⟨fun e he => (i1 e (by omega)).trans (hu e he), i2.congr (fun l' m hs hg e he => ?_) (fun l' m hs hg e he => (hs e (by omega)).trans (hu e he))⟩
      by_cases hea : e = at_
      · rw [hea, hg.1.z at_ hat hb]
        exact (if_pos rfl).symm
      · rw [hu e (by omega)]
        exact hs e (by omega)
    · have e : srch n B (k + 1) at_ l gr best = foldJ (fun g x => srch n B k (at_ + 1) (upd x.2 at_ (g : Int)) (max gr (g + 1)) x.1) (gr + 1) (best, l) := by
        show (if B at_ = 0 then _ else _) = _
        rw [if_neg hb]
      rw [e]
      have key := foldJ_step (fun g (x : List Int × (Nat → Int)) => srch n B k (at_ + 1) (upd x.2 at_ (g : Int)) (max gr (g + 1)) x.1)
        (fun j x => (∀ e, e < at_ → x.2 e = l e) ∧ Out Z B n (fun l' => (∀ e, e < at_ → l' e = l e) ∧ l' at_ < (j : Int)) best x.1) (best, l) (gr + 1)
        ⟨fun e he => rfl, .inl ⟨rfl, fun l' m hs hg => by have := (hp.next hg.1 hs.1 hat hb).1; have := hs.2; omega⟩⟩
        (fun j x hj ⟨h1, h2⟩ => by
          have hpx : Pf B at_ gr x.2 := hp.congr h1
          obtain ⟨i1, i2⟩ := srch_spec hz k (at_ + 1) (upd x.2 at_ (j : Int)) (max gr (j + 1)) x.1 (by omega) (hpx.set1 hb (by omega))
          have hu : ∀ e, e < at_ → upd x.2 at_ (j : Int) e = l e := fun e he => (if_neg (by omega)).trans (h1 e he)
          have hut : upd x.2 at_ (j : Int) at_ = (j : Int) := if_pos rfl
          refine ⟨fun e he => (i1 e (by omega)).trans (hu e he), ?_⟩
          -- those with the label j
          have i3 : Out Z B n (fun l' => (∀ e, e < at_ → l' e = l e) ∧ l' at_ = (j : Int)) x.1 (srch n B k (at_ + 1) (upd x.2 at_ (j : Int)) (max gr (j + 1)) x.1).1 :=
            i2.congr (fun l' m hs hg e he => by
              by_cases hea : e = at_
              · rw [hea, hut]; exact hs.2
              · rw [hu e (by omega)]; exact hs.1 e (by omega)) (fun l' m hs hg => ⟨fun e he => (hs e (by omega)).trans (hu e he), (hs at_ (by omega)).trans hut⟩)
          have hlt : ∀ (l' : Nat → Int), (((∀ e, e < at_ → l' e = l e) ∧ l' at_ < ((j + 1 : Nat) : Int)) ↔ ((∀ e, e < at_ → l' e = l e) ∧ l' at_ < (j : Int)) ∨ ((∀ e, e < at_ → l' e = l e) ∧ l' at_ = (j : Int))) := fun l' => by
            constructor
            · rintro ⟨a, b⟩
              by_cases hc : l' at_ < (j : Int)
              · exact .inl ⟨a, hc⟩
              · exact .inr ⟨a, by omega⟩
            · rintro (⟨a, b⟩ | ⟨a, b⟩)
              · exact ⟨a, by omega⟩
              · exact ⟨a, by omega⟩
          generalize hr : (srch n B k (at_ + 1) (upd x.2 at_ (j : Int)) (max gr (j + 1)) x.1).1 = r at i3 ⊢
          show Out Z B n _ best r
          rcases h2 with ⟨a1, a2⟩ | ⟨l0, m0, b1, b2, b3, b4, b5⟩
          · rw [a1] at i3
            rcases i3 with ⟨c1, c2⟩ | ⟨l1, m1, d1, d2, d3, d4, d5⟩
            · refine .inl ⟨c1, fun l' m hs hg => ?_⟩
              rcases (hlt l').1 hs with h | h
              · exact a2 l' m h hg
              · exact c2 l' m h hg
            · refine .inr ⟨l1, m1, (hlt l1).2 (.inr d1), d2, d3, d4, fun l' m hs hg => ?_⟩
              rcases (hlt l').1 hs with h | h
              · obtain ⟨e1, e2⟩ := a2 l' m h hg
                have : ctF best < (m1 : Int) := d4.resolve_left e1
                exact ⟨by omega, fun h => by omega⟩
              · exact d5 l' m h hg
          · have hc0 : ctF x.1 = (m0 : Int) := by rw [b3]; exact hz.t l0 m0 b2.1
            have hne : x.1 ≠ [] := by
              rw [b3]
              intro h
              have := congrArg List.length h
              rw [lst_len] at this
              simp at this
              omega
            rcases i3 with ⟨c1, c2⟩ | ⟨l1, m1, d1, d2, d3, d4, d5⟩
            · refine .inr ⟨l0, m0, (hlt l0).2 (.inl b1), b2, c1.trans b3, b4, fun l' m hs hg => ?_⟩
              rcases (hlt l').1 hs with h | h
              · exact b5 l' m h hg
              · have := (c2 l' m h hg).2
                refine ⟨by omega, fun _ hx => ?_⟩
                obtain ⟨y, y1, y2, y3⟩ := hx
                rcases Nat.lt_trichotomy y at_ with hy | hy | hy
                · rw [h.1 y hy, b1.1 y hy] at y3; omega
                · subst hy
                  have := b1.2
                  have := h.2
                  omega
                · have h4 := y2 at_ hy
                  have := b1.2
                  have := h.2
                  omega
            · have hm : (m0 : Int) < m1 := by
                rcases d4 with d4 | d4
                · exact absurd d4 hne
                · omega
              refine .inr ⟨l1, m1, (hlt l1).2 (.inr d1), d2, d3, ?_, fun l' m hs hg => ?_⟩
              · rcases b4 with h | h
                · exact .inl h
                · exact .inr (by omega)
              · rcases (hlt l').1 hs with h | h
                · have := (b5 l' m h hg).1
                  exact ⟨by omega, fun h => by omega⟩
                · exact d5 l' m h hg) (gr + 1) (Nat.le_refl _)
      obtain ⟨k1, k2⟩ := key
      exact ⟨k1, k2.congr (fun l' m hs hg => ⟨hs, by have := (hp.next hg.1 hs hat hb).2; omega⟩) (fun l' m hs hg => hs.1)⟩
end Go.Proofs.YtpblmkephkhlkaaDoor.Rf
/- Groupings and their numbers, as the reference reckons them. No conditions. -/
namespace Go.Proofs.YtpblmkephkhlkaaDoor.Rf
open Go.Ev Go.RowKit
set_option linter.all false
theorem Pf.le {B l : Nat → Int} {n m : Nat} (h : Pf B n m l) : ∀ (N p : Nat), p ≤ N → p < n → l p ≤ p
  | N, p, hN, hp => by
    by_cases hb : B p = 0
    · rw [h.z p hp hb]; omega
    · have h0 := h.lo p hp hb
      rcases Int.lt_or_le (l p) 1 with h1 | h1
      · omega
      · obtain ⟨p', g1, g2, g3⟩ := h.rg p hp hb (l p - 1).toNat (by omega)
        match N, hN with
        | 0, hN => omega
        | N + 1, hN =>
          have := Pf.le h N p' (by omega) (by omega)
          omega
theorem lS_ext {f : Nat → Int} {c c' : Nat → Nat} {q : Nat} : ∀ {n}, (∀ i, i < n → c' i = c i) → Mk.lS f c' q n = Mk.lS f c q n
  | 0, _ => rfl
  | n + 1, h => by
    unfold Mk.lS
    rw [lS_ext (n := n) fun i hi => h i (by omega), h n (by omega)]
theorem lS_bound {f : Nat → Int} {c : Nat → Nat} {q : Nat} : ∀ {n}, (∀ i, i < n → -1000000000 ≤ f i ∧ f i ≤ 1000000000) → -1000000000 * (n : Int) ≤ Mk.lS f c q n ∧ Mk.lS f c q n ≤ 1000000000 * (n : Int)
  | 0, _ => by simp [Mk.lS]
  | n + 1, h => by
    have h1 := lS_bound (f := f) (c := c) (q := q) (n := n) fun i hi => h i (by omega)
    have h2 := h n (by omega)
    unfold Mk.lS
    split <;> omega
theorem lS_none {f : Nat → Int} {c : Nat → Nat} {q : Nat} : ∀ {n}, (∀ i, i < n → c i = q → f i = 0) → Mk.lS f c q n = 0
  | 0, _ => rfl
  | n + 1, h => by
    unfold Mk.lS
    rw [lS_none (n := n) fun i hi => h i (by omega)]
    split
    · rename_i hc; rw [h n (by omega) hc]; rfl
    · rfl
def tn (l : Nat → Int) : Nat → Nat := fun i => (l i).toNat
/-- The sums of the groups are 0. -/
def Zs (n : Nat) (B : Nat → Int) (l : Nat → Int) : Prop := ∀ q : Nat, Mk.lS B (tn l) q n = 0
structure InvG (B l : Nat → Int) (j : Nat) (p : Int × Row) : Prop where
  lo : 0 ≤ p.1
  hi : p.1 ≤ j
  c : ∀ e, e < j → B e ≠ 0 → l e + 1 ≤ p.1
  s : ∀ q, p.2.I q 0 = Mk.lS B (tn l) q j
theorem setI_I {r : Row} {e j : Nat} {x : Int} : (r.setI j 0 x).I e 0 = if e = j then x else r.I e 0 := Mk.sI_I
theorem fr_I (n : Nat) (f : Nat → Int) (i : Nat) : (fr n f).I i 0 = f i := rfl
theorem gst_false {B l : Nat → Int} {n m j : Nat} (h : Pf B n m l) (hj : j < n) {p : Int × Row} (hI : InvG B l j p) : gSt (fr n B) (fr n l) j p = false := by
  unfold gSt
  rw [fr_I, fr_I]
  by_cases hb : B j = 0
  · rw [h.z j hj hb, hb, decide_eq_false (show ¬ (-1 : Int) > p.1 by have := hI.lo; omega)]
    rfl
  · have h0 := h.lo j hj hb
    have hle : l j ≤ p.1 := by
      rcases Int.lt_or_le (l j) 1 with h1 | h1
      · have := hI.lo; omega
      · obtain ⟨p', g1, g2, g3⟩ := h.rg j hj hb (l j - 1).toNat (by omega)
        have := hI.c p' g1 g2
        omega
    rw [beq_eq_false_iff_ne.2 (show l j ≠ -1 by omega), beq_eq_false_iff_ne.2 hb, decide_eq_false (show ¬ l j < -1 by omega), decide_eq_false (show ¬ l j > p.1 by omega)]
    rfl
theorem InvG.nx {B l : Nat → Int} {n m j : Nat} (h : Pf B n m l) (hn : n ≤ 10) (hB : ∀ i, i < n → -1000000000 ≤ B i ∧ B i ≤ 1000000000) (hj : j < n) {p : Int × Row} (hI : InvG B l j p) : InvG B l (j + 1) (gNx (fr n B) (fr n l) j p) := by
  have hst := gst_false h hj hI
  unfold gNx
  rw [fr_I]
  have hlS : ∀ q, Mk.lS B (tn l) q (j + 1) = Mk.lS B (tn l) q j + if tn l j = q then B j else 0 := fun q => rfl
  by_cases hb : B j = 0
  · rw [h.z j hj hb, if_neg (by omega)]
    refine ⟨hI.lo, by have := hI.hi; omega, fun e he hbe => ?_, fun q => ?_⟩
    · by_cases hej : e = j
      · exact absurd (by rw [hej]; exact hb) hbe
      · exact hI.c e (by omega) hbe
    · rw [hI.s, hlS, hb]
      split <;> omega
  · have h0 := h.lo j hj hb
    rw [if_pos h0]
    have hle : l j ≤ p.1 := by
      unfold gSt at hst
      rw [fr_I, fr_I] at hst
      simp only [Bool.or_eq_false_iff, decide_eq_false_iff_not] at hst
      omega
    have hi := hI.hi
    have hw : IntKind.i64.wrap (l j + 1) = l j + 1 := wrap64 (by omega) (by omega)
    have hcx : cnX (fr n l) j p.1 = if l j + 1 > p.1 then l j + 1 else p.1 := by unfold cnX; rw [fr_I, hw]
    refine ⟨?_, ?_, fun e he hbe => ?_, fun q => ?_⟩
    · show 0 ≤ cnX (fr n l) j p.1
      rw [hcx]; have := hI.lo; split <;> omega
    · show cnX (fr n l) j p.1 ≤ ((j + 1 : Nat) : Int)
      rw [hcx]; split <;> omega
    · show l e + 1 ≤ cnX (fr n l) j p.1
      rw [hcx]
      by_cases hej : e = j
      · rw [hej]; split <;> omega
      · have := hI.c e (by omega) hbe
        split <;> omega
    · show (p.2.setI (l j).toNat 0 (IntKind.i64.wrap (p.2.I (l j).toNat 0 + B j))).I q 0 = _
      rw [setI_I, hlS, hI.s, hI.s]
      have hbd := lS_bound (f := B) (c := tn l) (q := (l j).toNat) (n := j) fun i hi => hB i (by omega)
      have hbj := hB j hj
      by_cases hq : q = (l j).toNat
      · rw [if_pos hq, if_pos (show tn l j = q from hq.symm), wrap64 (by omega) (by omega), hq]
      · rw [if_neg hq, if_neg (show ¬ tn l j = q from fun h => hq h.symm), Int.add_zero]
theorem gpS_inv {B l : Nat → Int} {n m : Nat} (h : Pf B n m l) (hn : n ≤ 10) (hB : ∀ i, i < n → -1000000000 ≤ B i ∧ B i ≤ 1000000000) (k : Nat) :
    (gpS (fr n B) (fr n l) k).1 = false ∧ InvG B l n (gpS (fr n B) (fr n l) k).2.2 := by
  have key := runS_inv (stop := gSt (fr n B) (fr n l)) (nx := gNx (fr n B) (fr n l)) (Inv := fun j p => InvG B l j p) (len := n) (fun j p hj hI _ => hI.nx h hn hB hj) (m := n) (j := 0) (a := (0, Row.zeros k)) (Nat.zero_add _)
    ⟨Int.le_refl _, Int.le_refl _, fun e he => absurd he (Nat.not_lt_zero e), fun q => rfl⟩
  obtain ⟨k1, k2, k3⟩ := key
  have hf : (gpS (fr n B) (fr n l) k).1 = false := by
    cases hc : (gpS (fr n B) (fr n l) k).1
    · rfl
    · obtain ⟨g1, g2⟩ := k2 hc
      rw [gst_false h g1 k1] at g2
      cases g2
  refine ⟨hf, ?_⟩
  have := k3 hf
  have k1 : InvG B l (gpS (fr n B) (fr n l) k).2.1 (gpS (fr n B) (fr n l) k).2.2 := k1
  rw [show (gpS (fr n B) (fr n l) k).2.1 = n from this] at k1
  exact k1
theorem scan_iff (p : Nat → Bool) (m : Nat) : (runS (fun i (_ : Unit) => p i) (fun _ _ => ()) m 0 ()).1 = false ↔ ∀ i, i < m → p i = false := by
  obtain ⟨k1, k2, k3⟩ := runS_inv (stop := fun i (_ : Unit) => p i) (nx := fun _ _ => ()) (Inv := fun j _ => ∀ i, i < j → p i = false) (len := m) (fun j _ hj hI hs i hi => by
    by_cases hij : i = j
    · rw [hij]; exact hs
    · exact hI i (by omega)) (m := m) (j := 0) (a := ()) (Nat.zero_add _) (fun i hi => absurd hi (Nat.not_lt_zero i))
  constructor
  · intro h i hi
    have := k3 h
    exact k1 i (by rw [this]; exact hi)
  · intro h
    cases hc : (runS (fun i (_ : Unit) => p i) (fun _ _ => ()) m 0 ()).1
    · rfl
    · obtain ⟨g1, g2⟩ := k2 hc
      have g2 : p _ = true := g2
      rw [h _ g1] at g2
      cases g2
theorem hz_s {B : Nat → Int} {n : Nat} (hn : n ≤ 10) (hB : ∀ i, i < n → -1000000000 ≤ B i ∧ B i ≤ 1000000000) : Hz n B (Zs n B) where
  c := fun l l' he => by
    have : ∀ q, Mk.lS B (tn l') q n = Mk.lS B (tn l) q n := fun q => lS_ext fun i hi => by unfold tn; rw [he i hi]
    unfold Zs
    constructor
    · intro h q; rw [← this]; exact h q
    · intro h q; rw [this]; exact h q
  g := fun l m h => by
    obtain ⟨h1, h2⟩ := gpS_inv h hn hB (n + 1)
    unfold gbF gpB
    have e : (fr n B).n = n := rfl
    rw [show (((fr n l).n : Int) != ((fr n B).n : Int)) = false from bne_self_eq_false (n : Int), cond_false, e, h1, cond_false, Bool.not_eq_true', scan_iff]
    constructor
    · intro hs q
      by_cases hq : q < n + 1
      · have := hs q hq
        rw [h2.s] at this
        simpa using this
      · refine lS_none fun i hi hc => ?_
        exfalso
        have h3 : l i ≤ i := h.le i i (Nat.le_refl _) hi
        have hc : (l i).toNat = q := hc
        omega
    · intro hs i hi
      rw [h2.s, hs i]
      rfl
  t := fun l m h => by
    unfold ctF coR
    have e : (fr (lst n l).length fun e => (lst n l).getD e 0).n = n := lst_len n l
    rw [e]
    have hI : ∀ i, i < n → (fr (lst n l).length fun e => (lst n l).getD e 0).I i 0 = l i := fun i hi => lst_get hi
    generalize hr : (fr (lst n l).length fun e => (lst n l).getD e 0) = r at hI
    have key := fold_inv (nx := cnX r) (Inv := fun j (a : Int) => 0 ≤ a ∧ (∀ e, e < j → l e + 1 ≤ a) ∧ (a = 0 ∨ ∃ e, e < j ∧ l e + 1 = a)) (len := n) (fun j a hj ⟨i1, i2, i3⟩ => by
      have h3 : l j ≤ j := h.le j j (Nat.le_refl _) hj
      have h4 : -1 ≤ l j := by
        by_cases hb : B j = 0
        · rw [h.z j hj hb]; omega
        · have := h.lo j hj hb; omega
      have hcx : cnX r j a = if l j + 1 > a then l j + 1 else a := by unfold cnX; rw [hI j hj, wrap64 (by omega) (by omega)]
      rw [hcx]
      by_cases hc : l j + 1 > a
      · rw [if_pos hc]
        refine ⟨by omega, fun e he => ?_, .inr ⟨j, by omega, rfl⟩⟩
        by_cases hej : e = j
        · rw [hej]; omega
        · have := i2 e (by omega); omega
      · rw [if_neg hc]
        refine ⟨i1, fun e he => ?_, ?_⟩
        · by_cases hej : e = j
          · rw [hej]; omega
          · exact i2 e (by omega)
        · rcases i3 with h | ⟨e, he, h⟩
          · exact .inl h
          · exact .inr ⟨e, by omega, h⟩) (m := n) (j := 0) (a := 0) (Nat.zero_add _) ⟨Int.le_refl _, fun e he => absurd he (Nat.not_lt_zero e), .inl rfl⟩
    generalize fldN (cnX r) n 0 0 = a at key
    obtain ⟨i1, i2, i3⟩ := key
    rcases Int.lt_trichotomy a m with hc | hc | hc
    · obtain ⟨p, g1, g2, g3⟩ := h.use a.toNat (by omega)
      have := i2 p g1
      omega
    · exact hc
    · rcases i3 with h0 | ⟨e, he, h0⟩
      · omega
      · by_cases hb : B e = 0
        · rw [h.z e he hb] at h0; omega
        · have := h.hi e he hb; omega
/-- What the search finds, in all. -/
theorem search_finds {B : Nat → Int} {n : Nat} (hn : n ≤ 10) (hB : ∀ i, i < n → -1000000000 ≤ B i ∧ B i ≤ 1000000000) {l m} (hg : Gd (Zs n B) B n m l) :
    ∃ l0 m0, Gd (Zs n B) B n m0 l0 ∧ rgL n B = lst n l0 ∧ ∀ l' m, Gd (Zs n B) B n m l' → m ≤ m0 ∧ (m = m0 → ¬ Lx n l' l0) := by
  have h := (srch_spec (hz_s hn hB) n 0 (fun _ => 0) 0 [] (Nat.zero_add _) (Pf.nil B _)).2
  rcases h with ⟨h1, h2⟩ | ⟨l0, m0, a, b, c, d, e⟩
  · exact absurd rfl (h2 l m (fun e he => absurd he (Nat.not_lt_zero e)) hg).1
  · exact ⟨l0, m0, b, c, fun l' m hg => e l' m (fun e he => absurd he (Nat.not_lt_zero e)) hg⟩
end Go.Proofs.YtpblmkephkhlkaaDoor.Rf
/- The program's grouping takes the first group each time. No conditions. -/
namespace Go.Proofs.YtpblmkephkhlkaaDoor.Mk
open Go.Ev
set_option linter.all false
/-- One set comes before another one: it has the first party in which they differ. -/
def Bf (g h : Nat) : Prop := ∃ i, g.testBit i = true ∧ h.testBit i = false ∧ ∀ j, j < i → g.testBit j = h.testBit j
theorem Bf.irr {g : Nat} : ¬ Bf g g := fun ⟨i, h1, h2, _⟩ => by rw [h1] at h2; cases h2
theorem Bf.trans {g h k : Nat} (a : Bf g h) (b : Bf h k) : Bf g k := by
  obtain ⟨i, a1, a2, a3⟩ := a
  obtain ⟨j, b1, b2, b3⟩ := b
  rcases Nat.lt_trichotomy i j with hc | hc | hc
  · exact ⟨i, a1, by rw [← b3 i hc]; exact a2, fun x hx => (a3 x hx).trans (b3 x (by omega))⟩
  · subst hc
    rw [b1] at a2; cases a2
  · exact ⟨j, by rw [a3 j hc]; exact b1, b2, fun x hx => (a3 x (by omega)).trans (b3 x hx)⟩
theorem befN_iff {g h : Nat} (hg : g < 2 ^ 62) (hh : h < 2 ^ 62) : befN g h = true ↔ Bf g h := by
  by_cases he : g = h
  · subst he
    have : befN g g = false := by unfold befN; rw [Nat.xor_self]; simp
    rw [this]
    exact ⟨(fun h => by cases h), fun h => absurd h Bf.irr⟩
  · have hx0 : g ^^^ h ≠ 0 := fun hx => he (by
      apply Nat.eq_of_testBit_eq
      intro i
      have := congrArg (fun x => x.testBit i) hx
      simp only [Nat.testBit_xor, Nat.zero_testBit] at this
      revert this
      cases g.testBit i <;> cases h.testBit i <;> simp)
    have hx : g ^^^ h < 2 ^ 62 := Nat.xor_lt_two_pow hg hh
    obtain ⟨l1, l2, _⟩ := low_bits hx0 hx
    have hl : lowN (g ^^^ h) = 2 ^ ctzN (g ^^^ h) := (Lib.lowest_bit 64 _ hx0 (by omega)).1
    have hb : befN g h = g.testBit (ctzN (g ^^^ h)) := by
      unfold befN
      have : (g ^^^ h) &&& (18446744073709551616 - (g ^^^ h)) = 2 ^ ctzN (g ^^^ h) := hl
      rw [this]
      cases hgt : g.testBit (ctzN (g ^^^ h))
      · have : 2 ^ ctzN (g ^^^ h) &&& g = 0 := by
          apply Nat.eq_of_testBit_eq
          intro i
          rw [Nat.testBit_and, Nat.testBit_two_pow, Nat.zero_testBit]
          by_cases hi : ctzN (g ^^^ h) = i
          · rw [← hi, hgt, Bool.and_false]
          · rw [decide_eq_false hi, Bool.false_and]
        rw [this]
        rfl
      · have : 2 ^ ctzN (g ^^^ h) &&& g ≠ 0 := fun hz => by
          have := congrArg (fun x => x.testBit (ctzN (g ^^^ h))) hz
          simp only [Nat.testBit_and, Nat.testBit_two_pow, Nat.zero_testBit, hgt, decide_true, Bool.true_and] at this
          cases this
        cases hn : Nat.beq (2 ^ ctzN (g ^^^ h) &&& g) 0
        · rfl
        · exact absurd (Nat.eq_of_beq_eq_true hn) this
    rw [hb]
    generalize ctzN (g ^^^ h) = c at l1 l2
    rw [Nat.testBit_xor] at l1
    have l3 : ∀ j, j < c → g.testBit j = h.testBit j := fun j hj => by
      have := l2 j hj
      rw [Nat.testBit_xor] at this
      revert this
      cases g.testBit j <;> cases h.testBit j <;> simp
    constructor
    · intro hgc
      refine ⟨c, hgc, ?_, l3⟩
      rw [hgc] at l1
      revert l1
      cases h.testBit c <;> simp
    · rintro ⟨i, h1, h2, h3⟩
      rcases Nat.lt_trichotomy i c with hc | hc | hc
      · have := l3 i hc
        rw [h1, h2] at this
        cases this
      · rw [← hc]; exact h1
      · have := h3 c hc
        rw [this] at l1
        revert l1
        cases h.testBit c <;> simp
theorem bst_best {m : Row} {rest low : Nat} (hr : rest < 2 ^ 62) : ∀ (n g best : Nat), g &&& rest = g → g < n → (best = 0 ∨ Cand m rest low best) → (∀ h, Cand m rest low h → g < h → best ≠ 0 ∧ ¬ Bf h best) →
    ∀ h, Cand m rest low h → bst m rest low n g best ≠ 0 ∧ ¬ Bf h (bst m rest low n g best)
  | n + 1, g, best, hg, hn, hb, hbest => by
    unfold bst
    by_cases h0 : g = 0
    · rw [if_pos h0]
      exact fun h hc => hbest h hc (by have := hc.1; omega)
    · rw [if_neg h0]
      have hle : (g - 1) &&& rest ≤ g - 1 := Nat.and_le_left
      have hsub : ((g - 1) &&& rest) &&& rest = (g - 1) &&& rest := by rw [Nat.and_assoc, Nat.and_self]
      have hlt : ∀ x, x &&& rest = x → x < 2 ^ 62 := fun x hx => Nat.lt_of_le_of_lt (sub_le hx) hr
      have hu : bstU m rest low g best = 0 ∨ Cand m rest low (bstU m rest low g best) := by
        unfold bstU
        split
        · exact hb
        · rename_i hc
          split
          · exact .inr ⟨h0, hg, fun h => hc (.inl h), (by have : ¬ m.I g 0 < 1 := fun h => hc (.inr (.inl h)); omega), Classical.not_not.1 fun h => hc (.inr (.inr h))⟩
          · exact hb
      refine bst_best hr n ((g - 1) &&& rest) (bstU m rest low g best) hsub (by omega) hu fun h hc hgt => ?_
      have hge : g ≤ h := by
        rcases Nat.lt_or_ge h g with hlt' | hge
        · have := pred_and g rest g h (Nat.le_refl _) hg hc.2.1 hlt'
          omega
        · exact hge
      unfold bstU
      rcases Nat.lt_or_ge g h with hgh | hgh
      · obtain ⟨b1, b2⟩ := hbest h hc hgh
        split
        · exact ⟨b1, b2⟩
        · split
          · rename_i hbn
            refine ⟨h0, fun hb' => ?_⟩
            rcases hbn with hbn | hbn
            · exact b1 hbn
            · have hbc := hb.resolve_left b1
              exact b2 (hb'.trans ((befN_iff (hlt g hg) (hlt best hbc.2.1)).1 hbn))
          · exact ⟨b1, b2⟩
      · have : h = g := by omega
        subst this
        rw [if_neg (by
          rintro (h' | h' | h')
          · exact hc.2.2.1 h'
          · have := hc.2.2.2.1; omega
          · exact h' hc.2.2.2.2)]
        split
        · exact ⟨h0, Bf.irr⟩
        · rename_i hbn
          have hb0 : best ≠ 0 := fun h => hbn (.inl h)
          have hbc := hb.resolve_left hb0
          exact ⟨hb0, fun hb' => hbn (.inr ((befN_iff (hlt h hg) (hlt best hbc.2.1)).2 hb'))⟩
/-- One step of the program's grouping. -/
structure Stp (b : Row) (f rest g0 : Nat) (o o' : Row) (r : Nat) : Prop where
  c : Cand (mostR b) rest (lowN rest) r
  best : ∀ h, Cand (mostR b) rest (lowN rest) h → ¬ Bf h r
  go : grS (mostR b) b.n f (rest ^^^ r) (g0 + 1) (asR r g0 b.n 0 o) = some o'
  lt : rest ^^^ r < 2 ^ b.n
  z : Sg b (rest ^^^ r) = 0
  m : mN b (rest ^^^ r) = mN b rest - 1
  cls : ∀ q, clM (lab o') rest q b.n = if q = g0 then r else clM (lab o') (rest ^^^ r) q b.n
theorem grS_step {b : Row} (hf : Fit b) {f rest g0 : Nat} {o o' : Row} (ht : rest < 2 ^ b.n) (hz : Sg b rest = 0) (hm : mN b rest ≤ (f + 1 : Nat)) (h0 : rest ≠ 0) (hgo : grS (mostR b) b.n (f + 1) rest g0 o = some o') : ∃ r, Stp b f rest g0 o o' r := by
  have hp10 : 2 ^ b.n ≤ 2 ^ 10 := Nat.pow_le_pow_right (by decide) hf.1
  unfold grS at hgo
  rw [if_neg h0] at hgo
  obtain ⟨k1, k2, k3⟩ := bst_cand (m := mostR b) (rest := rest) (low := lowN rest) (rest + 1) rest 0 (Nat.and_self _) (by omega) (.inl rfl)
  have hbest := bst_best (m := mostR b) (rest := rest) (low := lowN rest) (by omega) (rest + 1) rest 0 (Nat.and_self _) (by omega) (.inl rfl) (fun h hc hlt => by have := sub_le hc.2.1; omega)
  obtain ⟨h, hc⟩ := cand_ex hf ht h0 hz
  have hr := k1.resolve_left (k3 h hc (sub_le hc.2.1))
  have hgo : grS (mostR b) b.n f (rest ^^^ bst (mostR b) rest (lowN rest) (rest + 1) rest 0) (g0 + 1) (asR (bst (mostR b) rest (lowN rest) (rest + 1) rest 0) g0 b.n 0 o) = some o' := hgo
  generalize bst (mostR b) rest (lowN rest) (rest + 1) rest 0 = r at hr hgo hbest
  have hr' := hr
  obtain ⟨r0, rs, rl, rm, rx⟩ := hr
  have hrl : r < 2 ^ b.n := Nat.lt_of_le_of_lt (sub_le rs) ht
  have hrz : Sg b r = 0 := Classical.not_not.1 fun hne => by
    have := (most_good hf hrl).neg r0 hne
    unfold mN at this
    omega
  have hx : mN b (rest ^^^ r) = mN b rest - 1 := by rw [wi_m hf ht] at rx; exact rx
  have hxs : Sg b (rest ^^^ r) = 0 := by
    have : Sg b (rest ^^^ r) = Sg b rest - Sg b r := sM_xor rs
    omega
  have hlt : rest ^^^ r < 2 ^ b.n := Nat.lt_of_le_of_lt (xor_le rs) ht
  obtain ⟨a1, a2⟩ := asR_I r (g0 : Int) b.n 0 o
  obtain ⟨o2, e1, e2⟩ := grS_spec hf f (rest ^^^ r) (g0 + 1) (asR r g0 b.n 0 o) hlt hxs (by omega)
  rw [hgo] at e1
  cases e1
  have hin : ∀ p, r.testBit p = true → o'.I p 0 = g0 := fun p hp => by
    rw [e2.out p (by rw [Nat.testBit_xor, hp, sub_bit rs hp]; rfl), a2, if_pos ⟨by omega, by have := bit_lt hrl hp; omega, hp⟩]
  refine ⟨r, hr', fun h hc => (hbest h hc).2, hgo, hlt, hxs, hx, fun q => ?_⟩
  apply Nat.eq_of_testBit_eq
  intro i
  rw [clM_bit]
  split
  · rename_i hq
    subst hq
    cases hri : r.testBit i
    · cases hsi : rest.testBit i
      · simp
      · have := e2.lo i (by rw [Nat.testBit_xor, hri, hsi]; rfl)
        rw [decide_eq_false (show ¬ lab o' i = q by unfold lab; omega)]; simp
    · rw [decide_eq_true (bit_lt hrl hri), sub_bit rs hri, decide_eq_true (show lab o' i = q by unfold lab; rw [hin i hri]; omega)]; rfl
  · rename_i hq
    rw [clM_bit, Nat.testBit_xor]
    cases hri : r.testBit i
    · rw [Bool.xor_false]
    · rw [sub_bit rs hri, decide_eq_false (show ¬ lab o' i = q by unfold lab; rw [hin i hri]; omega)]; simp
end Go.Proofs.YtpblmkephkhlkaaDoor.Mk
/- The program's grouping: what is needed of it. No conditions. -/
namespace Go.Proofs.YtpblmkephkhlkaaDoor.Mk
open Go.Ev
set_option linter.all false
theorem cls_lab {b : Row} {rest q r : Nat} {o' : Row} (hl : rest < 2 ^ b.n) (h : clM (lab o') rest q b.n = r) {p : Nat} (hp : rest.testBit p = true) : lab o' p = q ↔ r.testBit p = true := by
  rw [← h, clM_bit, decide_eq_true (bit_lt hl hp), hp, Bool.true_and, Bool.true_and, decide_eq_true_eq]
theorem low_of {s r : Nat} (h0 : s ≠ 0) (h1 : s < 2 ^ 62) (h : r &&& lowN s ≠ 0) : r.testBit (ctzN s) = true := by
  have hl : lowN s = 2 ^ ctzN s := (Lib.lowest_bit 64 s h0 (by omega)).1
  rw [hl] at h
  obtain ⟨i, hi⟩ := Nat.exists_testBit_of_ne_zero h
  rw [Nat.testBit_and, Nat.testBit_two_pow] at hi
  simp only [Bool.and_eq_true, decide_eq_true_eq] at hi
  rw [hi.2]; exact hi.1
theorem rgS {b : Row} (hf : Fit b) : ∀ (f rest g0 : Nat) (o o' : Row), rest < 2 ^ b.n → Sg b rest = 0 → mN b rest ≤ f → grS (mostR b) b.n f rest g0 o = some o' →
    ∀ p, rest.testBit p = true → ∀ q, g0 ≤ q → q < lab o' p → ∃ p', p' < p ∧ rest.testBit p' = true ∧ lab o' p' = q := by
  intro f
  have hp10 : 2 ^ b.n ≤ 2 ^ 10 := Nat.pow_le_pow_right (by decide) hf.1
  induction f with
  | zero =>
    intro rest g0 o o' ht hz hm hgo p hp
    have h0 : rest = 0 := by
      by_cases h : rest = 0
      · exact h
      · have := ((most_good hf ht).pos h hz).1
        unfold mN at hm
        have : (1 : Int) ≤ mN b rest := this
        unfold mN at this
        omega
    rw [h0, Nat.zero_testBit] at hp
    cases hp
  | succ f ih =>
    intro rest g0 o o' ht hz hm hgo p hp q hq hql
    have h0 : rest ≠ 0 := fun h => by rw [h, Nat.zero_testBit] at hp; cases hp
    obtain ⟨r, hs⟩ := grS_step hf ht hz hm h0 hgo
    have hr := hs.cls g0
    rw [if_pos rfl] at hr
    have hlow := low_bits h0 (by omega)
    have hlr := low_of h0 (by omega) hs.c.2.2.1
    have hrp : r.testBit p = false := by
      cases h : r.testBit p
      · rfl
      · have := (cls_lab ht hr hp).2 h
        omega
    by_cases hqg : q = g0
    · subst hqg
      refine ⟨ctzN rest, ?_, hlow.1, (cls_lab ht hr hlow.1).2 hlr⟩
      rcases Nat.lt_trichotomy (ctzN rest) p with h | h | h
      · exact h
      · rw [h, hrp] at hlr; cases hlr
      · rw [hlow.2.1 p h] at hp; cases hp
    · obtain ⟨p', h1, h2, h3⟩ := ih (rest ^^^ r) (g0 + 1) _ o' hs.lt hs.z (by have := hs.m; omega) hs.go p (by rw [Nat.testBit_xor, hp, hrp]; rfl) q (by omega) hql
      refine ⟨p', h1, ?_, h3⟩
      have := sub_bit (sub_xor hs.c.2.1) h2
      exact this
theorem sM_class2 {f : Nat → Int} {c : Nat → Nat} {s q : Nat} : ∀ {n k}, k ≤ n → (∀ i, i < k → s.testBit i = false → f i = 0) → sM f (clM c s q n) k = lS f c q k
  | n, 0, _, _ => rfl
  | n, k + 1, h, hz => by
    unfold sM lS
    rw [sM_class2 (n := n) (k := k) (by omega) (fun i hi => hz i (by omega)), clM_bit, decide_eq_true (show k < n by omega), Bool.true_and]
    cases hs : s.testBit k
    · rw [hz k (by omega) hs]; simp
    · by_cases hc : c k = q
      · rw [decide_eq_true hc, if_pos hc]; rfl
      · rw [decide_eq_false hc, if_neg hc]; rfl
/-- What is needed of the program's grouping. -/
structure Prg (b : Row) (M : Nat) : Prop where
  nz : Nz b M
  lt : M < 2 ^ b.n
  z : Sg b M = 0
  gd : Rf.Gd (Rf.Zs b.n (bF b)) (bF b) b.n (mN b M).toNat (fun p => (gpR b).I p 0)
  m0 : 0 ≤ mN b M
  g0 : M ≠ 0 → ∀ h, Cand (mostR b) M (lowN M) h → ¬ Bf h (clM (lab (gpR b)) M 0 b.n)
  g1 : M ≠ 0 → M ^^^ clM (lab (gpR b)) M 0 b.n ≠ 0 → ∀ h, Cand (mostR b) (M ^^^ clM (lab (gpR b)) M 0 b.n) (lowN (M ^^^ clM (lab (gpR b)) M 0 b.n)) h → ¬ Bf h (clM (lab (gpR b)) M 1 b.n)
theorem prg {b : Row} (h : ckE b = 0) : ∃ M, Prg b M := by
  obtain ⟨hf, hn, ht⟩ := ck_fit h
  obtain ⟨r1, r2, r3⟩ := rsR_I b b.n 0 (0, Row.zeros b.n)
  have hnz : Nz b (rsR b b.n 0 (0, Row.zeros b.n)).1 := fun i => by
    rw [r2 i, Nat.zero_testBit, Bool.false_or]
    congr 1
    by_cases hi : i < b.n
    · rw [decide_eq_true hi, decide_eq_true (by omega)]
    · rw [decide_eq_false hi, decide_eq_false (by omega)]
  have hl : (rsR b b.n 0 (0, Row.zeros b.n)).1 < 2 ^ b.n := by
    have := rsR_lt b b.n 0 (0, Row.zeros b.n) (show 0 < 2 ^ 0 by decide)
    rwa [Nat.zero_add] at this
  generalize hM : (rsR b b.n 0 (0, Row.zeros b.n)).1 = M at hnz hl
  have hz : Sg b M = 0 := by
    unfold Sg
    rw [sM_tot fun i hi hb => ?_]
    · exact ht
    · rw [hnz, decide_eq_true hi, Bool.true_and] at hb
      exact Classical.not_not.1 (of_decide_eq_false hb)
  have hpc := mN_pc hf _ _ (Nat.le_refl _) hl
  have hpb : pc M b.n ≤ b.n := cntB_bound
  have hn1 := hf.1
  have hm64 : mN b M ≤ (64 : Nat) := by omega
  obtain ⟨o, e1, e2⟩ := grS_spec hf 64 M 0 (rsR b b.n 0 (0, Row.zeros b.n)).2 hl hz hm64
  have hgo : gpO b = some o := by
    unfold gpO
    rw [hM]
    exact e1
  have hgr : gpR b = winOf o 0 b.n := by unfold gpR; rw [if_neg (fun h' => h' h), hgo]
  have hI : ∀ p, (winOf o 0 b.n).I p 0 = o.I p 0 := fun _ => rfl
  have hlab : lab (winOf o 0 b.n) = lab o := rfl
  have hm0 : 0 ≤ mN b M := by
    by_cases h0 : M = 0
    · rw [(most_good hf hl).zero h0]; exact Int.le_refl _
    · have := ((most_good hf hl).pos h0 hz).1; omega
  have hbit : ∀ p, p < b.n → bF b p ≠ 0 → M.testBit p = true := fun p hp hb => by rw [hnz, decide_eq_true hp, show decide (b.I p 0 ≠ 0) = true from decide_eq_true hb]; rfl
  have hbit' : ∀ p, M.testBit p = true → p < b.n ∧ bF b p ≠ 0 := fun p hp => by
    rw [hnz, Bool.and_eq_true] at hp
    exact ⟨of_decide_eq_true hp.1, fun h => (of_decide_eq_true hp.2) h⟩
  have rg := rgS hf 64 M 0 _ o hl hz hm64 e1
  refine ⟨M, hnz, hl, hz, ?_, hm0, ?_, ?_⟩
  · rw [hgr]
    refine ⟨⟨fun p hp hb => ?_, fun p hp hb => ?_, fun p hp hb => ?_, fun p hp hb q hq => ?_, fun q hq => ?_⟩, fun q => ?_⟩
    · show o.I p 0 = -1
      have hmp : M.testBit p = false := by rw [hnz, decide_eq_true hp, show decide (b.I p 0 ≠ 0) = false from decide_eq_false (fun h => h hb)]; rfl
      rw [e2.out p hmp, r3, if_pos (by omega)]
    · have := e2.lo p (hbit p hp hb); show 0 ≤ o.I p 0; omega
    · have := e2.hi p (hbit p hp hb); show o.I p 0 < _; omega
    · have hq : (q : Int) < o.I p 0 := hq
      obtain ⟨p', g1, g2, g3⟩ := rg p (hbit p hp hb) q (Nat.zero_le _) (by unfold lab; omega)
      have := e2.lo p' g2
      have g3 : (o.I p' 0).toNat = q := g3
      exact ⟨p', g1, (hbit' p' g2).2, by show o.I p' 0 = q; omega⟩
    · obtain ⟨p, g1, g2, g3⟩ := use_iff.1 (e2.all q (Nat.zero_le _) (by omega))
      have := e2.lo p g2
      have g3 : (o.I p 0).toNat = q := g3
      exact ⟨p, g1, (hbit' p g2).2, by show o.I p 0 = q; omega⟩
    · have := e2.sum q
      unfold Sg at this
      rw [sM_class2 (c := lab o) (Nat.le_refl b.n) (fun i hib hi => ?_)] at this
      · exact this
      · rw [hnz, decide_eq_true hib, Bool.true_and] at hi
        exact Classical.not_not.1 (of_decide_eq_false hi)
  · intro h0 g hc
    obtain ⟨r, hs⟩ := grS_step hf hl hz hm64 h0 e1
    have hr := hs.cls 0
    rw [if_pos rfl] at hr
    rw [hgr, hlab, hr]
    exact hs.best g hc
  · intro h0 hR g hc
    obtain ⟨r, hs⟩ := grS_step hf hl hz hm64 h0 e1
    have hr := hs.cls 0
    rw [if_pos rfl] at hr
    have hr1 := hs.cls 1
    rw [if_neg (by decide)] at hr1
    rw [hgr, hlab, hr] at hR hc
    rw [hgr, hlab, hr1]
    have hm1 := hs.m
    obtain ⟨r', hs'⟩ := grS_step hf hs.lt hs.z (f := 62) (by omega) hR hs.go
    have hr2 := hs'.cls 1
    rw [if_pos rfl] at hr2
    rw [hr2]
    exact hs'.best g hc
end Go.Proofs.YtpblmkephkhlkaaDoor.Mk

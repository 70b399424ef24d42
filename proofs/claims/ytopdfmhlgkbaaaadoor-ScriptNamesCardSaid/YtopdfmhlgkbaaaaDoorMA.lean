/- Texts T1 T2 T3 T4 T5 T6 T7 T8 T9 in one. No conditions. -/
import Derived.Test.YtopdfmhlgkbaaaaDoorEvZa
import Derived.Test.YtopdfmhlgkbaaaaDoorRows
/- Contracts of loops that scan, and of loops that hand something on. No conditions. -/
namespace Go.Ev
set_option linter.all false
/-- A loop that scans: from round 0 on, until something is found. -/
structure ScanL (ι : Type) where
  f : FuncId
  id : Nat
  lv : List Tmp
  lx : List Tmp
  p : PSt
  dat : List It → Option ι
  S : ι → Nat → List It
  len : ι → Nat
  cnd : ι → Bool
  bad : ι → Nat → Bool
  Kb : ι → Nat → (X → St → Option (List D)) → Option (List D)
  Ke : ι → (X → St → Option (List D)) → Option (List D)
/-- The first round in which something is found. -/
def fstF (p : Nat → Bool) : Nat → Nat → Nat
  | 0, j => j
  | m + 1, j => bif p j then j else fstF p m (j + 1)
theorem fstF_ge (p : Nat → Bool) : ∀ m j, j ≤ fstF p m j
  | 0, j => Nat.le_refl _
  | m + 1, j => by
    unfold fstF
    cases p j
    · exact Nat.le_trans (Nat.le_succ _) (fstF_ge p m (j + 1))
    · exact Nat.le_refl _
theorem fstF_any (p : Nat → Bool) : ∀ m j, anyF p m j = true → fstF p m j < j + m ∧ p (fstF p m j) = true ∧ ∀ i, j ≤ i → i < fstF p m j → p i = false
  | 0, j, h => by cases h
  | m + 1, j, h => by
    unfold fstF
    cases hp : p j
    · simp only [anyF, hp, Bool.false_or] at h
      obtain ⟨h1, h2, h3⟩ := fstF_any p m (j + 1) h
      refine ⟨by simp only [cond_false]; omega, h2, fun i hi hlt => ?_⟩
      by_cases e : i = j
      · rw [e]; exact hp
      · exact h3 i (by omega) hlt
    · exact ⟨by simp only [cond_true]; omega, hp, fun i hi hlt => by simp only [cond_true] at hlt; omega⟩
def ScanL.G {ι : Type} (s : ScanL ι) (its : List It) (k : X → St → Option (List D)) : Option (List D) := match s.dat its with
  | some x => br (s.cnd x) (br (anyF (s.bad x) (s.len x) 0) (s.Kb x (fstF (s.bad x) (s.len x) 0) k) (s.Ke x k)) none
  | none => none
def ScanL.C {ι : Type} (s : ScanL ι) : LoopC := ⟨s.f, s.id, s.lv, s.lx, s.p, s.G⟩
noncomputable abbrev bodyOf (C : Cx) (f : FuncId) (id q : Nat) : St → (X → St → Option (List D)) → Option (List D) := evCode C f true (inl C (q + 4)) (lbody C.P f id)
theorem scan_go {f : St → (X → St → Option (List D)) → Option (List D)} {lv : List Tmp} {lx : Option (List Tmp)} {S : Nat → St} {len : Nat} {bad : Nat → Bool} {Kb : Nat → (X → St → Option (List D)) → Option (List D)} {Ke : (X → St → Option (List D)) → Option (List D)}
    (hr : ∀ j, j < len → ∀ R K, f (S j) (rnd lv lx R K) = br (bad j) (Kb j K) (R (S (j + 1)))) (he : ∀ R K, f (S len) (rnd lv lx R K) = Ke K) (K : X → St → Option (List D)) :
    ∀ (m j : Nat), j + m = len → ∀ N, m < N → rounds lv lx f N (S j) K = br (anyF bad m j) (Kb (fstF bad m j) K) (Ke K)
  | 0, j, hj, N, hN => by
    obtain ⟨N, rfl⟩ : ∃ N', N = N' + 1 := ⟨N - 1, by omega⟩
    have : j = len := by omega
    subst this
    simp only [rounds, anyF]
    exact he _ K
  | m + 1, j, hj, N, hN => by
    obtain ⟨N, rfl⟩ : ∃ N', N = N' + 1 := ⟨N - 1, by omega⟩
    simp only [rounds, anyF, fstF]
    rw [hr j (by omega), scan_go hr he K m (j + 1) (by omega) N (by omega)]
    cases bad j <;> rfl
theorem ScanL.ok {ι : Type} {C : Cx} (s : ScanL ι) (h1 : Nat.beq ((loopsOf C.P s.f).filter fun b => Nat.beq (firstRegion b) s.id).length 1 = true)
    (hS : ∀ its x, s.dat its = some x → s.cnd x = true → Go.Ev.bst s.p its = Go.Ev.bst s.p (s.S x 0))
    (hlen : ∀ x, s.cnd x = true → s.len x < C.N)
    (hr : ∀ q x j, s.cnd x = true → j < s.len x → ∀ R K, bodyOf C s.f s.id q (Go.Ev.bst s.p (s.S x j)) (rnd s.lv (some s.lx) R K) = br (s.bad x j) (s.Kb x j K) (R (Go.Ev.bst s.p (s.S x (j + 1)))))
    (he : ∀ q x, s.cnd x = true → ∀ R K, bodyOf C s.f s.id q (Go.Ev.bst s.p (s.S x (s.len x))) (rnd s.lv (some s.lx) R K) = s.Ke x K) : LoopOk C s.C := ⟨h1, fun q its k rr h => by
  change s.G its k = some rr at h
  unfold ScanL.G at h
  split at h
  · rename_i x hx
    rcases br_some h with ⟨hc, h2⟩ | ⟨_, h2⟩
    · rw [← h2]
      show rounds s.lv (some s.lx) (bodyOf C s.f s.id q) C.N (Go.Ev.bst s.p its) k = _
      rw [hS its x hx hc]
      exact scan_go (S := fun j => Go.Ev.bst s.p (s.S x j)) (hr q x · hc) (he q x hc) k (s.len x) 0 (by omega) C.N (hlen x hc)
    · cases h2
  · cases h⟩

/-- A loop that hands something on. -/
structure RunL (ι β : Type) where
  f : FuncId
  id : Nat
  lv : List Tmp
  lx : List Tmp
  p : PSt
  dat : List It → Option ι
  S : ι → Nat → β → List It
  len : ι → Nat
  cnd : ι → Bool
  ini : ι → β
  stop : ι → Nat → β → Bool
  nx : ι → Nat → β → β
  Kb : ι → Nat → β → (X → St → Option (List D)) → Option (List D)
  Ke : ι → β → (X → St → Option (List D)) → Option (List D)
def runS {β : Type} (stop : Nat → β → Bool) (nx : Nat → β → β) : Nat → Nat → β → Bool × Nat × β
  | 0, j, a => (false, j, a)
  | m + 1, j, a => bif stop j a then (true, j, a) else runS stop nx m (j + 1) (nx j a)
theorem runS_s {β : Type} {stop : Nat → β → Bool} {nx : Nat → β → β} {m j : Nat} {a : β} (h : stop j a = false) : runS stop nx (m + 1) j a = runS stop nx m (j + 1) (nx j a) := by
  show (bif stop j a then _ else _) = _
  rw [h]; rfl
theorem runS_t {β : Type} {stop : Nat → β → Bool} {nx : Nat → β → β} {m j : Nat} {a : β} (h : stop j a = true) : runS stop nx (m + 1) j a = (true, j, a) := by
  show (bif stop j a then _ else _) = _
  rw [h]; rfl
theorem runS_inv {β : Type} {stop : Nat → β → Bool} {nx : Nat → β → β} {Inv : Nat → β → Prop} {len : Nat} (hI : ∀ j a, j < len → Inv j a → stop j a = false → Inv (j + 1) (nx j a)) : ∀ {m j : Nat} {a : β}, j + m = len → Inv j a →
    Inv (runS stop nx m j a).2.1 (runS stop nx m j a).2.2 ∧ ((runS stop nx m j a).1 = true → (runS stop nx m j a).2.1 < len ∧ stop (runS stop nx m j a).2.1 (runS stop nx m j a).2.2 = true) ∧ ((runS stop nx m j a).1 = false → (runS stop nx m j a).2.1 = len)
  | 0, j, a, hj, h => ⟨h, fun h => (by cases h), fun _ => hj⟩
  | m + 1, j, a, hj, h => by
    cases hs : stop j a
    · rw [runS_s hs]
      exact runS_inv hI (by omega) (hI j a (by omega) h hs)
    · rw [runS_t hs]
      exact ⟨h, fun _ => ⟨(by dsimp only; omega), hs⟩, fun h => (by cases h)⟩
theorem runS_congr {β : Type} {stop stop' : Nat → β → Bool} {nx nx' : Nat → β → β} {Inv : Nat → β → Prop} {len : Nat} (hI : ∀ j a, j < len → Inv j a → stop j a = false → Inv (j + 1) (nx j a)) (hs : ∀ j a, j < len → Inv j a → stop' j a = stop j a) (hn : ∀ j a, j < len → Inv j a → nx' j a = nx j a) : ∀ {m j : Nat} {a : β}, j + m = len → Inv j a →
    runS stop' nx' m j a = runS stop nx m j a
  | 0, j, a, hj, h => rfl
  | m + 1, j, a, hj, h => by
    cases hc : stop j a
    · rw [runS_s hc, runS_s ((hs j a (by omega) h).trans hc), hn j a (by omega) h]
      exact runS_congr hI hs hn (by omega) (hI j a (by omega) h hc)
    · rw [runS_t hc, runS_t ((hs j a (by omega) h).trans hc)]
def RunL.G {ι β : Type} (s : RunL ι β) (its : List It) (k : X → St → Option (List D)) : Option (List D) := match s.dat its with
  | some x => br (s.cnd x) (br (runS (s.stop x) (s.nx x) (s.len x) 0 (s.ini x)).1 (s.Kb x (runS (s.stop x) (s.nx x) (s.len x) 0 (s.ini x)).2.1 (runS (s.stop x) (s.nx x) (s.len x) 0 (s.ini x)).2.2 k) (s.Ke x (runS (s.stop x) (s.nx x) (s.len x) 0 (s.ini x)).2.2 k)) none
  | none => none
def RunL.C {ι β : Type} (s : RunL ι β) : LoopC := ⟨s.f, s.id, s.lv, s.lx, s.p, s.G⟩
theorem run_go {β : Type} {f : St → (X → St → Option (List D)) → Option (List D)} {lv : List Tmp} {lx : Option (List Tmp)} {S : Nat → β → St} {len : Nat} {stop : Nat → β → Bool} {nx : Nat → β → β} {Kb : Nat → β → (X → St → Option (List D)) → Option (List D)} {Ke : β → (X → St → Option (List D)) → Option (List D)} {Inv : Nat → β → Prop}
    (hI : ∀ j a, j < len → Inv j a → stop j a = false → Inv (j + 1) (nx j a))
    (hr : ∀ j a, j < len → Inv j a → ∀ R K, f (S j a) (rnd lv lx R K) = br (stop j a) (Kb j a K) (R (S (j + 1) (nx j a)))) (he : ∀ a, Inv len a → ∀ R K, f (S len a) (rnd lv lx R K) = Ke a K) (K : X → St → Option (List D)) :
    ∀ (m j : Nat) (a : β), j + m = len → Inv j a → ∀ N, m < N → rounds lv lx f N (S j a) K = br (runS stop nx m j a).1 (Kb (runS stop nx m j a).2.1 (runS stop nx m j a).2.2 K) (Ke (runS stop nx m j a).2.2 K)
  | 0, j, a, hj, h, N, hN => by
    obtain ⟨N, rfl⟩ : ∃ N', N = N' + 1 := ⟨N - 1, by omega⟩
    have : j = len := by omega
    subst this
    simp only [rounds, runS]
    exact he a h _ K
  | m + 1, j, a, hj, h, N, hN => by
    obtain ⟨N, rfl⟩ : ∃ N', N = N' + 1 := ⟨N - 1, by omega⟩
    rw [rnds1, hr j a (by omega) h]
    cases hs : stop j a
    · rw [runS_s hs, br_false]
      exact run_go hI hr he K m (j + 1) (nx j a) (by omega) (hI j a (by omega) h hs) N (by omega)
    · rw [runS_t hs]
      rfl
theorem RunL.ok {ι β : Type} {C : Cx} (s : RunL ι β) (Inv : ι → Nat → β → Prop) (h1 : Nat.beq ((loopsOf C.P s.f).filter fun b => Nat.beq (firstRegion b) s.id).length 1 = true)
    (hS : ∀ its x, s.dat its = some x → s.cnd x = true → Go.Ev.bst s.p its = Go.Ev.bst s.p (s.S x 0 (s.ini x)))
    (hlen : ∀ x, s.cnd x = true → s.len x < C.N) (hI0 : ∀ x, s.cnd x = true → Inv x 0 (s.ini x))
    (hI : ∀ x j a, s.cnd x = true → j < s.len x → Inv x j a → s.stop x j a = false → Inv x (j + 1) (s.nx x j a))
    (hr : ∀ q x j a, s.cnd x = true → j < s.len x → Inv x j a → ∀ R K, bodyOf C s.f s.id q (Go.Ev.bst s.p (s.S x j a)) (rnd s.lv (some s.lx) R K) = br (s.stop x j a) (s.Kb x j a K) (R (Go.Ev.bst s.p (s.S x (j + 1) (s.nx x j a)))))
    (he : ∀ q x a, s.cnd x = true → Inv x (s.len x) a → ∀ R K, bodyOf C s.f s.id q (Go.Ev.bst s.p (s.S x (s.len x) a)) (rnd s.lv (some s.lx) R K) = s.Ke x a K) : LoopOk C s.C := ⟨h1, fun q its k rr h => by
  change s.G its k = some rr at h
  unfold RunL.G at h
  split at h
  · rename_i x hx
    rcases br_some h with ⟨hc, h2⟩ | ⟨_, h2⟩
    · rw [← h2]
      show rounds s.lv (some s.lx) (bodyOf C s.f s.id q) C.N (Go.Ev.bst s.p its) k = _
      rw [hS its x hx hc]
      exact run_go (S := fun j a => Go.Ev.bst s.p (s.S x j a)) (Inv := Inv x) (hI x · · hc) (fun j a hj hi R K => hr q x j a hc hj hi R K) (fun a hi R K => he q x a hc hi R K) k (s.len x) 0 (s.ini x) (by omega) (hI0 x hc) C.N (hlen x hc)
    · cases h2
  · cases h⟩
theorem gd (j n : Nat) (h : j < n) : (decide (0 ≤ (j : Int)) && decide ((j : Int) < (n : Int))) = true := by simp only [Bool.and_eq_true, decide_eq_true_eq]; omega
theorem ltd (j n : Nat) (h : j < n) : decide ((j : Int) < (n : Int)) = true := decide_eq_true (by omega)
theorem ltn (n : Nat) : decide ((n : Int) < (n : Int)) = false := decide_eq_false (by omega)
theorem wsn {j : Nat} (h : j < 1000001) : IntKind.i64.wrap ((j : Int) + 1) = ((j + 1 : Nat) : Int) := by
  rw [wrap64 (by omega) (by omega)]; omega
end Go.Ev
namespace Go.Proofs.YtopdfmhlgkbaaaaDoor
open Go.Ev
def fns : List Nat := [3, 4, 5, 6, 7, 8, 9, 10, 11, 12, 13, 14, 15, 16, 17, 18, 19, 20, 21, 22, 23, 24, 25, 26, 27, 28, 29, 30, 31, 32, 33, 34, 35, 36, 37, 38, 39, 40, 41, 42, 43, 44, 45, 46, 47, 48, 52, 57, 58, 59, 60, 61]
theorem enter : ∀ (g : FuncId), fns.contains g = true → ∀ (args : Array Value) (w : World), (callFunc g args).run Tryd.prog w = .ok (.enter g args) w := by
  intro g hg
  simp only [fns, List.contains_cons, List.contains_nil, Bool.or_false, Bool.or_eq_true, beq_iff_eq] at hg
  rcases hg with rfl | rfl | rfl | rfl | rfl | rfl | rfl | rfl | rfl | rfl | rfl | rfl | rfl | rfl | rfl | rfl | rfl | rfl | rfl | rfl | rfl | rfl | rfl | rfl | rfl | rfl | rfl | rfl | rfl | rfl | rfl | rfl | rfl | rfl | rfl | rfl | rfl | rfl | rfl | rfl | rfl | rfl | rfl | rfl | rfl | rfl | rfl | rfl | rfl | rfl | rfl | rfl
  · exact Tryd.call3
  · exact Tryd.call4
  · exact Tryd.call5
  · exact Tryd.call6
  · exact Tryd.call7
  · exact Tryd.call8
  · exact Tryd.call9
  · exact Tryd.call10
  · exact Tryd.call11
  · exact Tryd.call12
  · exact Tryd.call13
  · exact Tryd.call14
  · exact Tryd.call15
  · exact Tryd.call16
  · exact Tryd.call17
  · exact Tryd.call18
  · exact Tryd.call19
  · exact Tryd.call20
  · exact Tryd.call21
  · exact Tryd.call22
  · exact Tryd.call23
  · exact Tryd.call24
  · exact Tryd.call25
  · exact Tryd.call26
  · exact Tryd.call27
  · exact Tryd.call28
  · exact Tryd.call29
  · exact Tryd.call30
  · exact Tryd.call31
  · exact Tryd.call32
  · exact Tryd.call33
  · exact Tryd.call34
  · exact Tryd.call35
  · exact Tryd.call36
  · exact Tryd.call37
  · exact Tryd.call38
  · exact Tryd.call39
  · exact Tryd.call40
  · exact Tryd.call41
  · exact Tryd.call42
  · exact Tryd.call43
  · exact Tryd.call44
  · exact Tryd.call45
  · exact Tryd.call46
  · exact Tryd.call47
  · exact Tryd.call48
  · exact Tryd.call52
  · exact Tryd.call57
  · exact Tryd.call58
  · exact Tryd.call59
  · exact Tryd.call60
  · exact Tryd.call61
theorem mixed : Tryd.prog.follows .mixedOrders = true := by kernel_rfl
def ksN : List CK := [.str, .int .u8]
def ksS : List CK := [.str]
def ksI : List CK := [.int .i64]
def ksB : List CK := [.int .u8]
def ksL : List CK := [.int .u8, .slice [.str], .slice [.int .i64]]
end Go.Proofs.YtopdfmhlgkbaaaaDoor
/- Package script and its reference: names, and lists of strings with a string twice. No conditions. -/
namespace Go.Proofs.YtopdfmhlgkbaaaaDoor
open Go.Ev
set_option linter.all false
def p16 : PSt := { τ := [.v (.str)] ++ pu 6 ++ [.v (.sl 0), .v (.int .i64), .v (.int .i64)] ++ pu 37, saved := [[]], mem := [.row [.int .u8] false] }
def p18 : PSt := { τ := [.v (.str)] ++ pu 2 ++ [.v (.int .i64)] ++ pu 52, saved := [[]], mem := [] }
/-- What a loop asks: its length is the slice's, and no great one; it begins with the first round. -/
def z3 (n : Nat) (len j : Int) : Bool := decide (len = n ∧ j = 0 ∧ n ≤ 1000000)
def z2 (n : Nat) (j : Int) : Bool := decide (j = 0 ∧ n ≤ 1000000)
theorem z3_iff {n : Nat} {len j : Int} : z3 n len j = true ↔ len = n ∧ j = 0 ∧ n ≤ 1000000 := by unfold z3; rw [decide_eq_true_eq]
theorem z2_iff {n : Nat} {j : Int} : z2 n j = true ↔ j = 0 ∧ n ≤ 1000000 := by unfold z2; rw [decide_eq_true_eq]
def dSNIIR (its : List It) : Option (ByteArray × Nat × Int × Int × Row) := match its with | [.s s, .n n, .i len, .i j, .r r] => some (s, n, len, j, r) | _ => none
def dSI (its : List It) : Option (ByteArray × Int) := match its with | [.s s, .i j] => some (s, j) | _ => none
def bad16 (r : Row) (j : Nat) : Bool := decide (¬ (97 ≤ r.I j 0 ∧ r.I j 0 ≤ 122) ∧ (j = 0 ∨ r.I j 0 ≠ 45 ∧ (r.I j 0 < 48 ∨ r.I j 0 > 57)))
def l16 : ScanL (ByteArray × Nat × Int × Int × Row) where
  f := 35
  id := 2
  lv := [0, 7, 8, 9]
  lx := [0, 2]
  p := p16
  dat := dSNIIR
  S := fun (s, n, _, _, r) j => [.s s, .n n, .i n, .i j, .r r]
  len := fun (_, n, _, _, _) => n
  cnd := fun (_, n, len, j, _) => z3 n len j
  bad := fun (_, _, _, _, r) => bad16 r
  Kb := fun (s, _, _, _, _) j k => k .ret ⟨[.string s] ++ us 1 ++ [.bool (false)] ++ us 44, [[]], []⟩
  Ke := fun (s, _, _, _, _) k => k (.exit 0) ⟨[.string s] ++ us 46, [[]], []⟩
noncomputable def C16 : Cx := mkCx Tryd.prog fns [] [l16.C]
theorem r16 (R : St → Option (List D)) (K : X → St → Option (List D)) (q : Nat) (s : ByteArray) (n : Nat) (len j : Int) (r : Row) : bodyOf C16 35 2 q (Go.Ev.bst p16 [.s s, .n n, .i len, .i j, .r r]) (rnd [0, 7, 8, 9] (some [0, 2]) R K) =
    br (decide (j < len)) (br (decide (0 ≤ j) && decide (j < (↑n : Int))) (br (decide (r.I (0 + j.toNat) 0 ≥ 97)) (br (!decide (r.I (0 + j.toNat) 0 ≤ 122)) (br (j == 0) (K .ret ⟨[.string (s)] ++ us 1 ++ [.bool (false)] ++ us 44, [[]], []⟩) (br (r.I (0 + j.toNat) 0 != 45) (br (decide (r.I (0 + j.toNat) 0 < 48)) (K .ret ⟨[.string (s)] ++ us 1 ++ [.bool (false)] ++ us 44, [[]], []⟩) (br (decide (r.I (0 + j.toNat) 0 > 57)) (K .ret ⟨[.string (s)] ++ us 1 ++ [.bool (false)] ++ us 44, [[]], []⟩) (R ⟨[.string (s)] ++ us 6 ++ [.slice (some ⟨0, 0, some 0⟩) (n) (0), i64 (len), i64 (IntKind.i64.wrap (j + 1))] ++ us 37, [[]], [some (.row [.int .u8] false (r))]⟩))) (R ⟨[.string (s)] ++ us 6 ++ [.slice (some ⟨0, 0, some 0⟩) (n) (0), i64 (len), i64 (IntKind.i64.wrap (j + 1))] ++ us 37, [[]], [some (.row [.int .u8] false (r))]⟩))) (R ⟨[.string (s)] ++ us 6 ++ [.slice (some ⟨0, 0, some 0⟩) (n) (0), i64 (len), i64 (IntKind.i64.wrap (j + 1))] ++ us 37, [[]], [some (.row [.int .u8] false (r))]⟩)) (br (j == 0) (K .ret ⟨[.string (s)] ++ us 1 ++ [.bool (false)] ++ us 44, [[]], []⟩) (br (r.I (0 + j.toNat) 0 != 45) (br (decide (r.I (0 + j.toNat) 0 < 48)) (K .ret ⟨[.string (s)] ++ us 1 ++ [.bool (false)] ++ us 44, [[]], []⟩) (br (decide (r.I (0 + j.toNat) 0 > 57)) (K .ret ⟨[.string (s)] ++ us 1 ++ [.bool (false)] ++ us 44, [[]], []⟩) (R ⟨[.string (s)] ++ us 6 ++ [.slice (some ⟨0, 0, some 0⟩) (n) (0), i64 (len), i64 (IntKind.i64.wrap (j + 1))] ++ us 37, [[]], [some (.row [.int .u8] false (r))]⟩))) (R ⟨[.string (s)] ++ us 6 ++ [.slice (some ⟨0, 0, some 0⟩) (n) (0), i64 (len), i64 (IntKind.i64.wrap (j + 1))] ++ us 37, [[]], [some (.row [.int .u8] false (r))]⟩)))) (none)) (K (.exit 0) ⟨[.string (s)] ++ us 46, [[]], []⟩) := by kernel_rfl
def bad18 (s : ByteArray) (j : Nat) : Bool := decide ((((s.data.getD j 0).toNat : Nat) : Int) ≠ 45 ∧ ¬ (97 ≤ (((s.data.getD j 0).toNat : Nat) : Int) ∧ (((s.data.getD j 0).toNat : Nat) : Int) ≤ 122) ∧ ¬ (48 ≤ (((s.data.getD j 0).toNat : Nat) : Int) ∧ (((s.data.getD j 0).toNat : Nat) : Int) ≤ 57))
def l18 : ScanL (ByteArray × Int) where
  f := 60
  id := 4
  lv := [0, 3]
  lx := [2]
  p := p18
  dat := dSI
  S := fun (s, _) j => [.s s, .i j]
  len := fun (s, _) => s.size
  cnd := fun (s, j) => z2 s.size j
  bad := fun (s, _) => bad18 s
  Kb := fun x j k => k .ret ⟨us 2 ++ [.bool (false)] ++ us 53, [[]], []⟩
  Ke := fun x k => k (.exit 0) ⟨us 56, [[]], []⟩
noncomputable def C18 : Cx := mkCx Tryd.prog fns [] [l18.C]
theorem r18 (R : St → Option (List D)) (K : X → St → Option (List D)) (q : Nat) (s : ByteArray) (j : Int) : bodyOf C18 60 4 q (Go.Ev.bst p18 [.s s, .i j]) (rnd [0, 3] (some [2]) R K) =
    br (decide (j < (↑s.size : Int))) (br (decide (0 ≤ j) && decide (j < (↑s.size : Int))) (br ((↑(s.data.getD j.toNat 0).toNat : Int) != 45) (br (decide (0 ≤ j) && decide (j < (↑s.size : Int))) (br (decide ((↑(s.data.getD j.toNat 0).toNat : Int) < 97)) (br (decide (0 ≤ j) && decide (j < (↑s.size : Int))) (br (decide ((↑(s.data.getD j.toNat 0).toNat : Int) < 48)) (K .ret ⟨us 2 ++ [.bool (false)] ++ us 53, [[]], []⟩) (br (decide (0 ≤ j) && decide (j < (↑s.size : Int))) (br (decide ((↑(s.data.getD j.toNat 0).toNat : Int) > 57)) (K .ret ⟨us 2 ++ [.bool (false)] ++ us 53, [[]], []⟩) (R ⟨[.string (s)] ++ us 2 ++ [i64 (IntKind.i64.wrap (j + 1))] ++ us 52, [[]], []⟩)) (none))) (none)) (br (decide (0 ≤ j) && decide (j < (↑s.size : Int))) (br (decide ((↑(s.data.getD j.toNat 0).toNat : Int) > 122)) (br (decide (0 ≤ j) && decide (j < (↑s.size : Int))) (br (decide ((↑(s.data.getD j.toNat 0).toNat : Int) < 48)) (K .ret ⟨us 2 ++ [.bool (false)] ++ us 53, [[]], []⟩) (br (decide (0 ≤ j) && decide (j < (↑s.size : Int))) (br (decide ((↑(s.data.getD j.toNat 0).toNat : Int) > 57)) (K .ret ⟨us 2 ++ [.bool (false)] ++ us 53, [[]], []⟩) (R ⟨[.string (s)] ++ us 2 ++ [i64 (IntKind.i64.wrap (j + 1))] ++ us 52, [[]], []⟩)) (none))) (none)) (R ⟨[.string (s)] ++ us 2 ++ [i64 (IntKind.i64.wrap (j + 1))] ++ us 52, [[]], []⟩)) (none))) (none)) (R ⟨[.string (s)] ++ us 2 ++ [i64 (IntKind.i64.wrap (j + 1))] ++ us 52, [[]], []⟩)) (none)) (K (.exit 0) ⟨us 56, [[]], []⟩) := by kernel_rfl
theorem t16 (s : ByteArray) : evF C16 6 35 [.v (.string s)] =
    br (z3 s.size (↑s.size : Int) 0) (br (anyF (bad16 (Ev.bytesRow s)) s.size 0) (some [.v (.bool (false))]) (br (decide ((↑s.size : Int) > 0)) (some [.v (.bool (decide ((↑s.size : Int) ≤ 40)))]) (some [.v (.bool (false))]))) (none) := by kernel_rfl
theorem t18 (s : ByteArray) : evF C18 6 60 [.v (.string s)] =
    br (decide ((↑s.size : Int) < 1)) (some [.v (.bool (false))]) (br (decide ((↑s.size : Int) > 40)) (some [.v (.bool (false))]) (br (decide (0 ≤ 0) && decide (0 < (↑s.size : Int))) (br (decide ((↑(s.data.getD (0) 0).toNat : Int) < 97)) (some [.v (.bool (false))]) (br (decide (0 ≤ 0) && decide (0 < (↑s.size : Int))) (br (decide ((↑(s.data.getD (0) 0).toNat : Int) > 122)) (some [.v (.bool (false))]) (br (z2 s.size 0) (br (anyF (bad18 s) s.size 0) (some [.v (.bool (false))]) (some [.v (.bool (true))])) (none))) (none))) (none))) := by kernel_rfl

theorem ok16 : LoopOk C16 l16.C := l16.ok (by kernel_rfl)
  (fun its x h hc => by
    replace h : dSNIIR its = some x := h
    unfold dSNIIR at h
    split at h
    · cases h
      obtain ⟨h1, h2, h3⟩ := z3_iff.1 hc
      subst h1 h2
      rfl
    · cases h)
  (fun ⟨s, n, len, j, r⟩ hc => by have := (z3_iff.1 hc).2.2; show n < 18446744073709551616; omega)
  (fun q ⟨s, n, len, j, r⟩ i hc hi R K => by
    have h3 := (z3_iff.1 hc).2.2
    replace hi : i < n := hi
    refine (r16 R K q s n n i r).trans ?_
    rw [gd i n hi, ltd i n hi, wsn (by omega), Int.toNat_natCast, Nat.zero_add]
    simp only [br_true]
    clear hc
    repeat' refine br_split (fun h => ?_) (fun h => ?_)
    all_goals (try simp only [Bool.not_eq_true, Bool.not_eq_true', Bool.and_eq_true, decide_eq_true_eq, decide_eq_false_iff_not, beq_iff_eq, bne_iff_ne, ne_eq, not_tr, Classical.not_not, beq_eq_false_iff_ne, bne_eq_false_iff_eq] at *)
    all_goals first
      | (rw [show l16.bad (s, n, len, j, r) i = true from decide_eq_true (by omega)]; rfl)
      | (rw [show l16.bad (s, n, len, j, r) i = false from decide_eq_false (by omega)]; rfl))
  (fun q ⟨s, n, len, j, r⟩ hc R K => by
    refine (r16 R K q s n n n r).trans ?_
    rw [ltn n]
    rfl)
theorem C16_ok : CxOk C16 := mkCx_ok enter mixed (fun p h => by cases h) (fun l h => by
  simp only [List.mem_cons, List.not_mem_nil, or_false] at h
  rcases h with rfl
  exact ok16)
theorem ok18 : LoopOk C18 l18.C := l18.ok (by kernel_rfl)
  (fun its x h hc => by
    replace h : dSI its = some x := h
    unfold dSI at h
    split at h
    · cases h
      obtain ⟨h2, h3⟩ := z2_iff.1 hc
      subst h2
      rfl
    · cases h)
  (fun ⟨s, j⟩ hc => by have := (z2_iff.1 hc).2; show s.size < 18446744073709551616; omega)
  (fun q ⟨s, j⟩ i hc hi R K => by
    have h3 := (z2_iff.1 hc).2
    replace hi : i < s.size := hi
    refine (r18 R K q s i).trans ?_
    rw [gd i s.size hi, ltd i s.size hi, wsn (by omega), Int.toNat_natCast]
    simp only [br_true]
    clear hc
    repeat' refine br_split (fun h => ?_) (fun h => ?_)
    all_goals (try simp only [Bool.not_eq_true, Bool.not_eq_true', Bool.and_eq_true, decide_eq_true_eq, decide_eq_false_iff_not, beq_iff_eq, bne_iff_ne, ne_eq, not_tr, Classical.not_not, beq_eq_false_iff_ne, bne_eq_false_iff_eq] at *)
    all_goals first
      | (rw [show l18.bad (s, j) i = true from decide_eq_true (by omega)]; rfl)
      | (rw [show l18.bad (s, j) i = false from decide_eq_false (by omega)]; rfl))
  (fun q ⟨s, j⟩ hc R K => by
    refine (r18 R K q s s.size).trans ?_
    rw [ltn s.size]
    rfl)
theorem C18_ok : CxOk C18 := mkCx_ok enter mixed (fun p h => by cases h) (fun l h => by
  simp only [List.mem_cons, List.not_mem_nil, or_false] at h
  rcases h with rfl
  exact ok18)
/-- Whether a string is a name. -/
def nmB (s : ByteArray) : Bool := decide (0 < s.size) && decide (s.size ≤ 40) && !anyF (bad16 (Go.Ev.bytesRow s)) s.size 0
def Fname : List D → Option (Bool × List D)
  | [.v (.string s)] => some (decide (s.size ≤ 1000000), [.v (.bool (nmB s))])
  | _ => none
theorem den_name : Den Tryd.prog 35 Fname := evF_den C16_ok fun ds rs h => by
  unfold Fname at h
  split at h
  · rename_i s
    simp only [Option.some.injEq, Prod.mk.injEq] at h
    obtain ⟨h0, rfl⟩ := h
    refine (t16 s).trans ?_
    rw [z3_iff.2 ⟨rfl, rfl, of_decide_eq_true h0⟩, br_true]
    unfold nmB
    cases anyF (bad16 (Go.Ev.bytesRow s)) s.size 0
    · by_cases h1 : 0 < s.size
      · rw [decide_eq_true (show (s.size : Int) > 0 by omega), decide_eq_true h1]
        by_cases h2 : s.size ≤ 40
        · rw [decide_eq_true (show (s.size : Int) ≤ 40 by omega), decide_eq_true h2]; rfl
        · rw [decide_eq_false (show ¬ (s.size : Int) ≤ 40 by omega), decide_eq_false h2]; rfl
      · rw [decide_eq_false (show ¬ (s.size : Int) > 0 by omega), decide_eq_false h1]; rfl
    · rw [Bool.not_true, Bool.and_false]; rfl
  · cases h
theorem nm_first (s : ByteArray) (h : 0 < s.size) (hl : s.size ≤ 40) : nmB s = (decide (97 ≤ (((s.data.getD 0 0).toNat : Nat) : Int)) && decide ((((s.data.getD 0 0).toNat : Nat) : Int) ≤ 122) && !anyF (bad18 s) s.size 0) := by
  unfold nmB
  rw [decide_eq_true h, decide_eq_true hl, Bool.true_and, Bool.true_and, Bool.eq_iff_iff]
  simp only [Bool.and_eq_true, decide_eq_true_eq, Bool.not_eq_true', anyF_false, Nat.zero_add, Nat.zero_le, forall_const, bad16, bad18, decide_eq_false_iff_not]
  constructor
  · intro h1
    have h0 := h1 0 h
    have e0 : (Go.Ev.bytesRow s).I 0 0 = (((s.data.getD 0 0).toNat : Nat) : Int) := rfl
    rw [e0] at h0
    refine ⟨by omega, fun i hi => ?_⟩
    have hi := h1 i hi
    have ei : (Go.Ev.bytesRow s).I i 0 = (((s.data.getD i 0).toNat : Nat) : Int) := rfl
    rw [ei] at hi
    omega
  · rintro ⟨⟨h1, h2⟩, h3⟩ i hi
    have hi := h3 i hi
    have ei : (Go.Ev.bytesRow s).I i 0 = (((s.data.getD i 0).toNat : Nat) : Int) := rfl
    rw [ei]
    by_cases e : i = 0
    · subst e; omega
    · omega
theorem den_Name : Den Tryd.prog 60 Fname := evF_den C18_ok fun ds rs h => by
  unfold Fname at h
  split at h
  · rename_i s
    simp only [Option.some.injEq, Prod.mk.injEq] at h
    obtain ⟨h0, rfl⟩ := h
    refine (t18 s).trans ?_
    rw [z2_iff.2 ⟨rfl, of_decide_eq_true h0⟩, br_true]
    by_cases h1 : 0 < s.size
    · by_cases h2 : s.size ≤ 40
      · rw [nm_first s h1 h2, decide_eq_false (show ¬ (s.size : Int) < 1 by omega), decide_eq_false (show ¬ (s.size : Int) > 40 by omega), decide_eq_true (show (0 : Int) < (s.size : Int) by omega)]
        show br (decide ((((s.data.getD 0 0).toNat : Nat) : Int) < 97)) _ (br (decide ((((s.data.getD 0 0).toNat : Nat) : Int) > 122)) _ _) = _
        generalize (((s.data.getD 0 0).toNat : Nat) : Int) = c
        by_cases a1 : c < 97
        · rw [decide_eq_true a1, decide_eq_false (show ¬ 97 ≤ c by omega)]; rfl
        · rw [decide_eq_false a1, decide_eq_true (show 97 ≤ c by omega)]
          by_cases a2 : c ≤ 122
          · rw [decide_eq_false (show ¬ c > 122 by omega), decide_eq_true a2]
            cases anyF (bad18 s) s.size 0 <;> rfl
          · rw [decide_eq_true (show c > 122 by omega), decide_eq_false a2]; rfl
      · rw [decide_eq_false (show ¬ (s.size : Int) < 1 by omega), decide_eq_true (show (s.size : Int) > 40 by omega)]
        unfold nmB
        rw [decide_eq_false h2, Bool.and_false]; rfl
    · rw [decide_eq_true (show (s.size : Int) < 1 by omega)]
      unfold nmB
      rw [decide_eq_false h1]; rfl
  · cases h
end Go.Proofs.YtopdfmhlgkbaaaaDoor
/- Package script and its reference: lists of strings with a string twice. No conditions. -/
namespace Go.Proofs.YtopdfmhlgkbaaaaDoor
open Go.Ev
set_option linter.all false
def p25 : PSt := { τ := pu 3 ++ [.v (.c (.map (some 0)))] ++ pu 3 ++ [.v (.sl 1), .v (.int .i64), .v (.int .i64)] ++ pu 9, saved := [[]], mem := [.map (.bool), .row [.str] false] }
def p28 : PSt := { τ := [.v (.sl 0)] ++ pu 2 ++ [.v (.int .i64)] ++ pu 21, saved := [[]], mem := [.row [.str] false] }
def p28i : PSt := { τ := [.v (.sl 0)] ++ pu 2 ++ [.v (.int .i64), .v (.int .i64)] ++ pu 20, saved := [[]], mem := [.row [.str] false] }

def eqS (a b : ByteArray) : Bool := a.toList == b.toList
theorem eqS_iff {a b : ByteArray} : eqS a b = true ↔ a = b := bytesEq_iff a b
def dDif (its : List It) : Option (Nat × Int × Int × (ByteArray → Int) × (ByteArray → Bool) × Row) := match its with | [.n n, .i len, .i j, .mi I, .mb B, .r r] => some (n, len, j, I, B, r) | _ => none
def dNIR (its : List It) : Option (Nat × Int × Row) := match its with | [.n n, .i j, .r r] => some (n, j, r) | _ => none
def dNIIR (its : List It) : Option (Nat × Int × Int × Row) := match its with | [.n n, .i i, .i j, .r r] => some (n, i, j, r) | _ => none
def l25 : RunL (Nat × Int × Int × (ByteArray → Int) × (ByteArray → Bool) × Row) (ByteArray → Bool) where
  f := 58
  id := 3
  lv := [3, 7, 8, 9]
  lx := [2]
  p := p25
  dat := dDif
  S := fun (n, _, _, I, _, r) j B => [.n n, .i n, .i j, .mi I, .mb B, .r r]
  len := fun (n, _, _, _, _, _) => n
  cnd := fun (n, len, j, _, _, _) => z3 n len j
  ini := fun (_, _, _, _, B, _) => B
  stop := fun (_, _, _, _, _, r) j B => B (r.S j 0)
  nx := fun (_, _, _, _, _, r) j B => updB B (r.S j 0) true
  Kb := fun _ j B k => k .ret ⟨us 2 ++ [.bool (false)] ++ us 16, [[]], []⟩
  Ke := fun _ B k => k (.exit 0) ⟨us 19, [[]], []⟩
noncomputable def C25 : Cx := mkCx Tryd.prog fns [] [l25.C]
theorem r25 (R : St → Option (List D)) (K : X → St → Option (List D)) (q n : Nat) (len j : Int) (I : ByteArray → Int) (B : ByteArray → Bool) (r : Row) : bodyOf C25 58 3 q (Go.Ev.bst p25 [.n n, .i len, .i j, .mi I, .mb B, .r r]) (rnd [3, 7, 8, 9] (some [2]) R K) =
    br (decide (j < len)) (br (decide (0 ≤ j) && decide (j < (↑n : Int))) (br (B (r.S (0 + j.toNat) 0)) (K .ret ⟨us 2 ++ [.bool (false)] ++ us 16, [[]], []⟩) (R ⟨us 3 ++ [.map (some 0)] ++ us 3 ++ [.slice (some ⟨1, 0, some 0⟩) (n) (0), i64 (len), i64 (IntKind.i64.wrap (j + 1))] ++ us 9, [[]], [some (.map (.bool) (I) (updB B (r.S (0 + j.toNat) 0) true)), some (.row [.str] false (r))]⟩)) (none)) (K (.exit 0) ⟨us 19, [[]], []⟩) := by kernel_rfl
theorem t25 (r : Row) : evF C25 6 58 [.slice ksS r] =
    br (z3 r.n (↑r.n : Int) 0) (br ((runS (l25.stop (r.n, (↑r.n : Int), 0, fun x => 0, fun x => false, r)) (l25.nx (r.n, (↑r.n : Int), 0, fun x => 0, fun x => false, r)) (l25.len (r.n, (↑r.n : Int), 0, fun x => 0, fun x => false, r)) 0 (l25.ini (r.n, (↑r.n : Int), 0, fun x => 0, fun x => false, r))).1) (some [.v (.bool (false))]) (some [.v (.bool (true))])) (none) := by kernel_rfl
def z28 (n : Nat) (i j : Int) : Bool := decide (0 ≤ i ∧ i < n ∧ n ≤ 1000000 ∧ j = 0)
theorem z28_iff {n : Nat} {i j : Int} : z28 n i j = true ↔ 0 ≤ i ∧ i < n ∧ n ≤ 1000000 ∧ j = 0 := by unfold z28; rw [decide_eq_true_eq]
def l28i : ScanL (Nat × Int × Int × Row) where
  f := 61
  id := 5
  lv := [0, 3, 4]
  lx := [0, 2, 3]
  p := p28i
  dat := dNIIR
  S := fun (n, i, _, r) j => [.n n, .i i, .i j, .r r]
  len := fun (_, i, _, _) => i.toNat
  cnd := fun (n, i, j, _) => z28 n i j
  bad := fun (_, i, _, r) j => eqS (r.S j 0) (r.S i.toNat 0)
  Kb := fun (n, i, _, r) j k => k .ret ⟨[.slice (some ⟨0, 0, some 0⟩) (n) (0)] ++ us 1 ++ [.bool (true), i64 (i)] ++ us 21, [[]], [some (.row [.str] false (r))]⟩
  Ke := fun (n, i, _, r) k => k (.exit 2) ⟨[.slice (some ⟨0, 0, some 0⟩) (n) (0)] ++ us 2 ++ [i64 i] ++ us 21, [[]], [some (.row [.str] false (r))]⟩
def twi (r : Row) (i : Nat) : Bool := anyF (fun j => eqS (r.S j 0) (r.S i 0)) i 0
def l28 : ScanL (Nat × Int × Row) where
  f := 61
  id := 2
  lv := [0, 3]
  lx := [2]
  p := p28
  dat := dNIR
  S := fun (n, _, r) j => [.n n, .i j, .r r]
  len := fun (n, _, _) => n
  cnd := fun (n, j, _) => z2 n j
  bad := fun (_, _, r) => twi r
  Kb := fun _ j k => k .ret ⟨us 2 ++ [.bool (true)] ++ us 22, [[]], []⟩
  Ke := fun _ k => k (.exit 0) ⟨us 25, [[]], []⟩
noncomputable def C28 : Cx := mkCx Tryd.prog fns [] [l28.C, l28i.C]
theorem r28i (R : St → Option (List D)) (K : X → St → Option (List D)) (q n : Nat) (i j : Int) (r : Row) : bodyOf C28 61 5 q (Go.Ev.bst p28i [.n n, .i i, .i j, .r r]) (rnd [0, 3, 4] (some [0, 2, 3]) R K) =
    br (decide (j < i)) (br (decide (0 ≤ j) && decide (j < (↑n : Int))) (br (decide (0 ≤ i) && decide (i < (↑n : Int))) (br ((r.S (0 + j.toNat) 0).toList == (r.S (0 + i.toNat) 0).toList) (K .ret ⟨[.slice (some ⟨0, 0, some 0⟩) (n) (0)] ++ us 1 ++ [.bool (true), i64 (i)] ++ us 21, [[]], [some (.row [.str] false (r))]⟩) (R ⟨[.slice (some ⟨0, 0, some 0⟩) (n) (0)] ++ us 2 ++ [i64 (i), i64 (IntKind.i64.wrap (j + 1))] ++ us 20, [[]], [some (.row [.str] false (r))]⟩)) (none)) (none)) (K (.exit 2) ⟨[.slice (some ⟨0, 0, some 0⟩) (n) (0)] ++ us 2 ++ [i64 (i)] ++ us 21, [[]], [some (.row [.str] false (r))]⟩) := by kernel_rfl
theorem ok28i : LoopOk C28 l28i.C := l28i.ok (by kernel_rfl)
  (fun its x h hc => by
    replace h : dNIIR its = some x := h
    unfold dNIIR at h
    split at h
    · cases h
      obtain ⟨h1, h2, h3, h4⟩ := z28_iff.1 hc
      subst h4
      rfl
    · cases h)
  (fun ⟨n, i, j, r⟩ hc => by have := z28_iff.1 hc; show i.toNat < 18446744073709551616; omega)
  (fun q ⟨n, i, j, r⟩ m hc hi R K => by
    obtain ⟨h1, h2, h3, h4⟩ := z28_iff.1 hc
    replace hi : m < i.toNat := hi
    refine (r28i R K q n i m r).trans ?_
    rw [decide_eq_true (show (m : Int) < i by omega), gd m n (by omega), show (decide (0 ≤ i) && decide (i < (n : Int))) = true by simp only [Bool.and_eq_true, decide_eq_true_eq]; omega, wsn (by omega), Int.toNat_natCast, Nat.zero_add, Nat.zero_add]
    rfl)
  (fun q ⟨n, i, j, r⟩ hc R K => by
    obtain ⟨h1, h2, h3, h4⟩ := z28_iff.1 hc
    refine (r28i R K q n i i.toNat r).trans ?_
    rw [decide_eq_false (show ¬ ((i.toNat : Nat) : Int) < i by omega)]
    rfl)
theorem r28 (R : St → Option (List D)) (K : X → St → Option (List D)) (q n : Nat) (j : Int) (r : Row) : bodyOf C28 61 2 q (Go.Ev.bst p28 [.n n, .i j, .r r]) (rnd [0, 3] (some [2]) R K) =
    br (decide (j < (↑n : Int))) (br (z28 n j 0) (br (anyF
  (fun j_1 =>
    match (n, j, 0, r) with
    | (fst, i, fst_1, r) => eqS (r.S j_1 0) (r.S i.toNat 0))
  j.toNat 0) (K .ret ⟨us 2 ++ [.bool (true)] ++ us 22, [[]], []⟩) (R ⟨[.slice (some ⟨0, 0, some 0⟩) (n) (0)] ++ us 2 ++ [i64 (IntKind.i64.wrap (j + 1))] ++ us 21, [[]], [some (.row [.str] false (r))]⟩)) (none)) (K (.exit 0) ⟨us 25, [[]], []⟩) := by kernel_rfl
theorem t28 (r : Row) : evF C28 6 61 [.slice ksS r] =
    br (z2 r.n 0) (br (anyF (twi r) r.n 0) (some [.v (.bool (true))]) (some [.v (.bool (false))])) (none) := by kernel_rfl
theorem ok28 : LoopOk C28 l28.C := l28.ok (by kernel_rfl)
  (fun its x h hc => by
    replace h : dNIR its = some x := h
    unfold dNIR at h
    split at h
    · cases h
      obtain ⟨h1, h2⟩ := z2_iff.1 hc
      subst h1
      rfl
    · cases h)
  (fun ⟨n, j, r⟩ hc => by have := z2_iff.1 hc; show n < 18446744073709551616; omega)
  (fun q ⟨n, j, r⟩ i hc hi R K => by
    obtain ⟨h1, h2⟩ := z2_iff.1 hc
    replace hi : i < n := hi
    refine (r28 R K q n i r).trans ?_
    rw [ltd i n hi, z28_iff.2 ⟨by omega, by omega, by omega, rfl⟩, wsn (by omega), Int.toNat_natCast]
    rfl)
  (fun q ⟨n, j, r⟩ hc R K => by
    refine (r28 R K q n n r).trans ?_
    rw [ltn n]
    rfl)
theorem C28_ok : CxOk C28 := mkCx_ok enter mixed (fun p h => by cases h) (fun l h => by
  simp only [List.mem_cons, List.not_mem_nil, or_false] at h
  rcases h with rfl | rfl
  · exact ok28
  · exact ok28i)
/-- Whether a list has a string twice. -/
def twB (r : Row) : Bool := anyF (twi r) r.n 0
def Ftwice : List D → Option (Bool × List D)
  | [.slice [.str] r] => some (decide (r.n ≤ 1000000), [.v (.bool (twB r))])
  | _ => none
def Fdiff : List D → Option (Bool × List D)
  | [.slice [.str] r] => some (decide (r.n ≤ 1000000), [.v (.bool (!twB r))])
  | _ => none
theorem den_twice : Den Tryd.prog 61 Ftwice := evF_den C28_ok fun ds rs h => by
  unfold Ftwice at h
  split at h
  · rename_i r
    simp only [Option.some.injEq, Prod.mk.injEq] at h
    obtain ⟨h0, rfl⟩ := h
    refine (t28 r).trans ?_
    rw [z2_iff.2 ⟨rfl, of_decide_eq_true h0⟩, br_true]
    unfold twB
    cases anyF (twi r) r.n 0 <;> rfl
  · cases h
theorem ok25 : LoopOk C25 l25.C := l25.ok (fun _ _ _ => True) (by kernel_rfl)
  (fun its x h hc => by
    replace h : dDif its = some x := h
    unfold dDif at h
    split at h
    · cases h
      obtain ⟨h1, h2, h3⟩ := z3_iff.1 hc
      subst h1 h2
      rfl
    · cases h)
  (fun ⟨n, len, j, I, B, r⟩ hc => by have := (z3_iff.1 hc).2.2; show n < 18446744073709551616; omega) (fun _ _ => trivial) (fun _ _ _ _ _ _ _ => trivial)
  (fun q ⟨n, len, j, I, B0, r⟩ i B hc hi _ R K => by
    have h3 := (z3_iff.1 hc).2.2
    replace hi : i < n := hi
    refine (r25 R K q n n i I B r).trans ?_
    rw [gd i n hi, ltd i n hi, wsn (by omega), Int.toNat_natCast, Nat.zero_add]
    rfl)
  (fun q ⟨n, len, j, I, B0, r⟩ B hc _ R K => by
    refine (r25 R K q n n n I B r).trans ?_
    rw [ltn n]
    rfl)
theorem C25_ok : CxOk C25 := mkCx_ok enter mixed (fun p h => by cases h) (fun l h => by
  simp only [List.mem_cons, List.not_mem_nil, or_false] at h
  rcases h with rfl
  exact ok25)
theorem updB_iff {B : ByteArray → Bool} {s t : ByteArray} {b : Bool} : updB B s b t = if t = s then b else B t := by
  unfold updB
  by_cases h : t = s
  · rw [if_pos h, show (t.toList == s.toList) = true from (bytesEq_iff t s).2 h]; rfl
  · rw [if_neg h, show (t.toList == s.toList) = false from by
      cases hb : (t.toList == s.toList)
      · rfl
      · exact absurd ((bytesEq_iff t s).1 hb) h]
    rfl
theorem dif_run (r : Row) : ∀ (m j : Nat) (B : ByteArray → Bool), (∀ s, B s = true ↔ ∃ i, i < j ∧ r.S i 0 = s) → (runS (fun j (B : ByteArray → Bool) => B (r.S j 0)) (fun j B => updB B (r.S j 0) true) m j B).1 = anyF (twi r) m j
  | 0, j, B, h => rfl
  | m + 1, j, B, h => by
    have ht : twi r j = B (r.S j 0) := by
      rw [Bool.eq_iff_iff, h]
      unfold twi
      rw [anyF_iff]
      constructor
      · rintro ⟨i, _, h2, h3⟩
        exact ⟨i, by omega, eqS_iff.1 h3⟩
      · rintro ⟨i, h2, h3⟩
        exact ⟨i, by omega, by omega, eqS_iff.2 h3⟩
    unfold anyF
    rw [ht]
    cases hb : B (r.S j 0)
    · rw [runS_s hb, Bool.false_or]
      refine dif_run r m (j + 1) _ fun s => ?_
      rw [updB_iff]
      by_cases e : s = r.S j 0
      · rw [if_pos e]
        exact ⟨fun _ => ⟨j, by omega, e.symm⟩, fun _ => rfl⟩
      · rw [if_neg e, h]
        constructor
        · rintro ⟨i, h1, h2⟩; exact ⟨i, by omega, h2⟩
        · rintro ⟨i, h1, h2⟩
          by_cases e2 : i = j
          · subst e2; exact absurd h2.symm e
          · exact ⟨i, by omega, h2⟩
    · rw [runS_t hb]; rfl
theorem den_diff : Den Tryd.prog 58 Fdiff := evF_den C25_ok fun ds rs h => by
  unfold Fdiff at h
  split at h
  · rename_i r
    simp only [Option.some.injEq, Prod.mk.injEq] at h
    obtain ⟨h0, rfl⟩ := h
    refine (t25 r).trans ?_
    rw [z3_iff.2 ⟨rfl, rfl, of_decide_eq_true h0⟩, br_true]
    show br (runS (fun j (B : ByteArray → Bool) => B (r.S j 0)) (fun j B => updB B (r.S j 0) true) r.n 0 (fun _ => false)).1 _ _ = _
    rw [dif_run r r.n 0 _ (fun s => ⟨fun h => (by cases h), fun ⟨i, h, _⟩ => (by omega)⟩)]
    unfold twB
    cases anyF (twi r) r.n 0 <;> rfl
  · cases h
end Go.Proofs.YtopdfmhlgkbaaaaDoor
/- Package script and its reference: what lines with a word have. No conditions. -/
namespace Go.Proofs.YtopdfmhlgkbaaaaDoor
open Go.Ev
set_option linter.all false
def ksW : List CK := [.str, .int .i64, .int .i64, .int .i64, .int .i64, .bool, .int .u8]
/-- The table of the words, as the program makes it. -/
def Wt : Row := winOf (((((((((((((((((((((((((((((((((((((((((((((((((((((((((((((((((((((((Row.zeros 10).setS (10 - (9 + 1)) 0 { data := #[97, 103, 101, 110, 116] : ByteArray }).setI (10 - (9 + 1)) (0 + 1) 1).setI (10 - (9 + 1)) (0 + 1 + 1) 1).setI (10 - (9 + 1)) (0 + 1 + 1 + 1) 4).setI (10 - (9 + 1)) (0 + 1 + 1 + 1 + 1) 90).setB (10 - (9 + 1)) (0 + 1 + 1 + 1 + 1 + 1) true).setI (10 - (9 + 1)) (0 + 1 + 1 + 1 + 1 + 1 + 1) 0).setS (10 - (8 + 1)) 0 { data := #[112, 97, 114, 116, 121] : ByteArray }).setI (10 - (8 + 1)) (0 + 1) 1).setI (10 - (8 + 1)) (0 + 1 + 1) 1).setI (10 - (8 + 1)) (0 + 1 + 1 + 1) 0).setI (10 - (8 + 1)) (0 + 1 + 1 + 1 + 1) 0).setB (10 - (8 + 1)) (0 + 1 + 1 + 1 + 1 + 1) true).setI (10 - (8 + 1)) (0 + 1 + 1 + 1 + 1 + 1 + 1) 0).setS (10 - (7 + 1)) 0 { data := #[112, 97, 121] : ByteArray }).setI (10 - (7 + 1)) (0 + 1) 2).setI (10 - (7 + 1)) (0 + 1 + 1) 2).setI (10 - (7 + 1)) (0 + 1 + 1 + 1) 1).setI (10 - (7 + 1)) (0 + 1 + 1 + 1 + 1) 1).setB (10 - (7 + 1)) (0 + 1 + 1 + 1 + 1 + 1) false).setI (10 - (7 + 1)) (0 + 1 + 1 + 1 + 1 + 1 + 1) 2).setS (10 - (6 + 1)) 0 { data := #[115, 104, 97, 114, 101] : ByteArray }).setI (10 - (6 + 1)) (0 + 1) 2).setI (10 - (6 + 1)) (0 + 1 + 1) 10).setI (10 - (6 + 1)) (0 + 1 + 1 + 1) 1).setI (10 - (6 + 1)) (0 + 1 + 1 + 1 + 1) 1).setB (10 - (6 + 1)) (0 + 1 + 1 + 1 + 1 + 1) false).setI (10 - (6 + 1)) (0 + 1 + 1 + 1 + 1 + 1 + 1) 2).setS (10 - (5 + 1)) 0 { data := #[98, 97, 114, 103, 97, 105, 110] : ByteArray }).setI (10 - (5 + 1)) (0 + 1) 1).setI (10 - (5 + 1)) (0 + 1 + 1) 1).setI (10 - (5 + 1)) (0 + 1 + 1 + 1) 9).setI 4 4 9).setB 4 5 true).setI 4 6 0).setS 5 0 { data := { toList := [99, 97, 115, 101] : Array UInt8 } : ByteArray }).setI 5 1 1).setI 5 2 1).setI 5 3 6).setI 5 4 6).setB 5 5 true).setI 5 6 0).setS 6 0 { data := { toList := [101, 118, 101, 110, 116] : Array UInt8 } : ByteArray }).setI 6 1 1).setI 6 2 1).setI 6 3 3).setI 6 4 3).setB 6 5 false).setI 6 6 6).setS 7 0 { data := { toList := [109, 97, 116, 116, 101, 114] : Array UInt8 } : ByteArray }).setI 7 1 1).setI 7 2 1).setI 7 3 5).setI 7 4 5).setB 7 5 true).setI 7 6 0).setS 8 0 { data := { toList := [115, 116, 101, 112] : Array UInt8 } : ByteArray }).setI 8 1 1).setI 8 2 1).setI 8 3 3).setI 8 4 3).setB 8 5 false).setI 8 6 8).setS 9 0 { data := { toList := [100, 105, 118, 105, 100, 101] : Array UInt8 } : ByteArray }).setI 9 1 1).setI 9 2 6).setI 9 3 1).setI 9 4 1).setB 9 5 false).setI 9 6 1) 0 10
def pick {α : Type} (w : Int) : List (Int × α) → α → α
  | [], d => d
  | (k, a) :: l, d => bif w == k then a else pick w l d
def brs {α : Type} (w : Int) (f : α → List D) : List (Int × α) → α → Option (List D)
  | [], d => some (f d)
  | (k, a) :: l, d => br (w == k) (some (f a)) (brs w f l d)
theorem brs_pick {α : Type} (w : Int) (f : α → List D) : ∀ (l : List (Int × α)) (d : α), brs w f l d = some (f (pick w l d))
  | [], d => rfl
  | (k, a) :: l, d => by
    unfold brs pick
    rw [brs_pick w f l d]
    cases w == k <;> rfl
def wordL : List (Int × ByteArray) := [(1, ⟨⟨[97, 103, 101, 110, 116]⟩⟩), (2, ⟨⟨[112, 97, 114, 116, 121]⟩⟩), (3, ⟨⟨[112, 97, 121]⟩⟩), (4, ⟨⟨[115, 104, 97, 114, 101]⟩⟩), (5, ⟨⟨[98, 97, 114, 103, 97, 105, 110]⟩⟩), (6, ⟨⟨[99, 97, 115, 101]⟩⟩), (7, ⟨⟨[101, 118, 101, 110, 116]⟩⟩), (8, ⟨⟨[109, 97, 116, 116, 101, 114]⟩⟩), (9, ⟨⟨[115, 116, 101, 112]⟩⟩), (10, ⟨⟨[100, 105, 118, 105, 100, 101]⟩⟩)]
def wordS (w : Int) : ByteArray := pick w wordL ⟨⟨[]⟩⟩
structure Hs where
  a : Int
  b : Int
  c : Int
  d : Int
def hasL : List (Int × Hs) := [(1, ⟨1, 1, 4, 90⟩), (2, ⟨1, 1, 0, 0⟩), (3, ⟨2, 2, 1, 1⟩), (4, ⟨2, 10, 1, 1⟩), (5, ⟨1, 1, 9, 9⟩), (6, ⟨1, 1, 6, 6⟩), (8, ⟨1, 1, 5, 5⟩), (10, ⟨1, 6, 1, 1⟩)]
/-- How many names and numbers a line with a word has. -/
def hasS (w : Int) : Hs := pick w hasL ⟨1, 1, 3, 3⟩
/-- Whether lines with a word have a new name. -/
def newB (w : Int) : Bool := pick w [(1, true), (2, true), (5, true), (6, true)] (w == 8)
/-- With which word the names of a line must be known. -/
def neeI (w : Int) : Int := pick w [(7, 6), (9, 8), (10, 1)] 2
noncomputable def C0 : Cx := mkCx Tryd.prog fns [] []
theorem k27 (w : Int) : evF C0 6 41 [.v (u8 w)] = brs w (fun s => [.v (.string s)]) wordL ⟨⟨[]⟩⟩ := by kernel_rfl
theorem t27 (w : Int) : evF C0 6 41 [.v (u8 w)] = some [.v (.string (wordS w))] := (k27 w).trans (brs_pick w _ _ _)
theorem k26 (w : Int) : evF C0 6 59 [.v (u8 w)] = brs w (fun h => [.agg [.v (i64 h.a), .v (i64 h.b), .v (i64 h.c), .v (i64 h.d)]]) hasL ⟨1, 1, 3, 3⟩ := by kernel_rfl
theorem t26 (w : Int) : evF C0 6 59 [.v (u8 w)] = some [.agg [.v (i64 (hasS w).a), .v (i64 (hasS w).b), .v (i64 (hasS w).c), .v (i64 (hasS w).d)]] := (k26 w).trans (brs_pick w _ _ _)
theorem k22 (w : Int) : evF C0 6 18 [.v (u8 w)] = brs w (fun h => [.v (.bool h)]) [(1, true), (2, true), (5, true), (6, true)] (w == 8) := by kernel_rfl
theorem t22 (w : Int) : evF C0 6 18 [.v (u8 w)] = some [.v (.bool (newB w))] := (k22 w).trans (brs_pick w _ _ _)
theorem k23 (w : Int) : evF C0 6 52 [.v (u8 w)] = brs w (fun h => [.v (u8 h)]) [(7, 6), (9, 8), (10, 1)] 2 := by kernel_rfl
theorem t23 (w : Int) : evF C0 6 52 [.v (u8 w)] = some [.v (u8 (neeI w))] := (k23 w).trans (brs_pick w _ _ _)
theorem t20 : evF C0 6 37 [] = some [.slice ksW Wt] := by kernel_rfl
theorem C0_ok : CxOk C0 := mkCx_ok enter mixed (fun p h => by cases h) (fun l h => by cases h)
def Fword : List D → Option (Bool × List D)
  | [.v (.int .u8 w)] => some (true, [.v (.string (wordS w))])
  | _ => none
def Fhas : List D → Option (Bool × List D)
  | [.v (.int .u8 w)] => some (true, [.agg [.v (i64 (hasS w).a), .v (i64 (hasS w).b), .v (i64 (hasS w).c), .v (i64 (hasS w).d)]])
  | _ => none
def Fnew : List D → Option (Bool × List D)
  | [.v (.int .u8 w)] => some (true, [.v (.bool (newB w))])
  | _ => none
def Fnee : List D → Option (Bool × List D)
  | [.v (.int .u8 w)] => some (true, [.v (u8 (neeI w))])
  | _ => none
def Fwords : List D → Option (Bool × List D)
  | [] => some (true, [.slice ksW Wt])
  | _ => none
theorem den_word : Den Tryd.prog 41 Fword := evF_den C0_ok fun ds rs h => by
  unfold Fword at h
  split at h
  · rename_i w
    cases h
    exact t27 w
  · cases h
theorem den_has : Den Tryd.prog 59 Fhas := evF_den C0_ok fun ds rs h => by
  unfold Fhas at h
  split at h
  · rename_i w
    cases h
    exact t26 w
  · cases h
theorem den_new : Den Tryd.prog 18 Fnew := evF_den C0_ok fun ds rs h => by
  unfold Fnew at h
  split at h
  · rename_i w
    cases h
    exact t22 w
  · cases h
theorem den_needs : Den Tryd.prog 52 Fnee := evF_den C0_ok fun ds rs h => by
  unfold Fnee at h
  split at h
  · rename_i w
    cases h
    exact t23 w
  · cases h
theorem den_words : Den Tryd.prog 37 Fwords := evF_den C0_ok fun ds rs h => by
  unfold Fwords at h
  split at h
  · cases h
    exact t20
  · cases h
/-- What the table says. -/
theorem Wt_has {w : Int} (h1 : 1 ≤ w) (h2 : w ≤ 10) : (w - 1).toNat < Wt.n ∧ Wt.I (w - 1).toNat 1 = (hasS w).a ∧ Wt.I (w - 1).toNat 2 = (hasS w).b ∧ Wt.I (w - 1).toNat 3 = (hasS w).c ∧ Wt.I (w - 1).toNat 4 = (hasS w).d ∧ Wt.B (w - 1).toNat 5 = newB w ∧ (newB w = false → Wt.I (w - 1).toNat 6 = neeI w) ∧ Wt.S (w - 1).toNat 0 = wordS w := by
  have : w = 1 ∨ w = 2 ∨ w = 3 ∨ w = 4 ∨ w = 5 ∨ w = 6 ∨ w = 7 ∨ w = 8 ∨ w = 9 ∨ w = 10 := by omega
  rcases this with rfl | rfl | rfl | rfl | rfl | rfl | rfl | rfl | rfl | rfl <;> exact ⟨by decide, by kernel_rfl, by kernel_rfl, by kernel_rfl, by kernel_rfl, by kernel_rfl, fun h => (by first | exact absurd h (by decide) | kernel_rfl), by kernel_rfl⟩
theorem pick_none {α : Type} {w : Int} : ∀ {l : List (Int × α)} {d : α}, (∀ p ∈ l, w ≠ p.1) → pick w l d = d
  | [], d, _ => rfl
  | (k, a) :: l, d, h => by
    unfold pick
    rw [show (w == k) = false by simpa using h (k, a) (by simp)]
    exact pick_none fun p hp => h p (by simp [hp])
theorem wordS_nil (w : Int) : ((wordS w).toList == ByteArray.toList ⟨⟨[]⟩⟩) = !(decide (1 ≤ w ∧ w ≤ 10)) := by
  by_cases h : 1 ≤ w ∧ w ≤ 10
  · rw [decide_eq_true h]
    have : w = 1 ∨ w = 2 ∨ w = 3 ∨ w = 4 ∨ w = 5 ∨ w = 6 ∨ w = 7 ∨ w = 8 ∨ w = 9 ∨ w = 10 := by omega
    cases hb : ((wordS w).toList == ByteArray.toList ⟨⟨[]⟩⟩)
    · rfl
    · have hb := congrArg ByteArray.size ((bytesEq_iff _ _).1 hb)
      rcases this with rfl | rfl | rfl | rfl | rfl | rfl | rfl | rfl | rfl | rfl <;> cases hb
  · rw [decide_eq_false h]
    refine (bytesEq_iff _ _).2 (pick_none fun p hp => ?_)
    simp only [wordL, List.mem_cons, List.not_mem_nil, or_false] at hp
    rcases hp with rfl | rfl | rfl | rfl | rfl | rfl | rfl | rfl | rfl | rfl <;> dsimp only <;> omega
end Go.Proofs.YtopdfmhlgkbaaaaDoor
/- Package script and its reference: valid lines. No conditions. -/
namespace Go.Proofs.YtopdfmhlgkbaaaaDoor
open Go.Ev
set_option linter.all false
def p19a : PSt := { τ := pu 1 ++ [.v (.c (.pointer (some ⟨0, 0, some 0⟩)))] ++ pu 37 ++ [.v (.sl 1), .v (.int .i64), .v (.int .i64)] ++ pu 31, saved := [[]], mem := [.box [.v (.int .u8), .v (.sl 1), .v (.sl 2)], .row [.str] false, .row [.int .i64] false] }
def p19b : PSt := { τ := pu 1 ++ [.v (.c (.pointer (some ⟨0, 0, some 0⟩)))] ++ pu 48 ++ [.v (.sl 1), .v (.int .i64), .v (.int .i64)] ++ pu 20, saved := [[]], mem := [.box [.v (.int .u8), .v (.sl 2), .v (.sl 1)], .row [.int .i64] false, .row [.str] false] }
def p21a : PSt := { τ := pu 1 ++ [.v (.c (.pointer (some ⟨0, 0, some 0⟩)))] ++ pu 2 ++ [.v (.int .i64)] ++ pu 87, saved := [[]], mem := [.box [.v (.int .u8), .v (.sl 1), .v (.sl 2)], .row [.str] false, .row [.int .i64] false] }
def p21b : PSt := { τ := pu 1 ++ [.v (.c (.pointer (some ⟨0, 0, some 0⟩)))] ++ pu 3 ++ [.v (.int .i64)] ++ pu 86, saved := [[]], mem := [.box [.v (.int .u8), .v (.sl 1), .v (.sl 2)], .row [.str] false, .row [.int .i64] false] }

def z5 (n m : Nat) (len j : Int) : Bool := decide (len = n ∧ j = 0 ∧ n ≤ 1000000 ∧ n = m)
theorem z5_iff {n m : Nat} {len j : Int} : z5 n m len j = true ↔ len = n ∧ j = 0 ∧ n ≤ 1000000 ∧ n = m := by unfold z5; rw [decide_eq_true_eq]
/-- Strings that are no great ones. -/
def smN (r : Row) (n : Nat) : Bool := decide (n ≤ 1000000) && !anyF (fun i => decide (1000000 < (r.S i 0).size)) n 0
theorem smN_iff {r : Row} {n : Nat} : smN r n = true ↔ n ≤ 1000000 ∧ ∀ i, i < n → (r.S i 0).size ≤ 1000000 := by
  unfold smN
  simp only [Bool.and_eq_true, decide_eq_true_eq, Bool.not_eq_true', anyF_false, Nat.zero_add, Nat.zero_le, forall_const, decide_eq_false_iff_not, Nat.not_lt]
def badN (r : Row) (j : Nat) : Bool := !nmB (r.S j 0)
def badU (r : Row) (j : Nat) : Bool := decide (r.I j 0 < -1000000000) || decide (r.I j 0 > 1000000000)
def d19a (its : List It) : Option (Nat × Int × Int × Int × Nat × Nat × Row × Row) := match its with | [.n n, .i len, .i j, .i w, .n a, .n b, .r nm, .r nu] => some (n, len, j, w, a, b, nm, nu) | _ => none
def d19b (its : List It) : Option (Nat × Int × Int × Int × Nat × Nat × Row × Row) := match its with | [.n n, .i len, .i j, .i w, .n a, .n b, .r nu, .r nm] => some (n, len, j, w, a, b, nm, nu) | _ => none
def d21 (its : List It) : Option (Int × Int × Nat × Nat × Row × Row) := match its with | [.i j, .i w, .n a, .n b, .r nm, .r nu] => some (j, w, a, b, nm, nu) | _ => none
def l19a : ScanL (Nat × Int × Int × Int × Nat × Nat × Row × Row) where
  f := 46
  id := 7
  lv := [1, 39, 40, 41]
  lx := [1, 2]
  p := p19a
  dat := d19a
  S := fun (n, _, _, w, a, b, nm, nu) j => [.n n, .i n, .i j, .i w, .n a, .n b, .r nm, .r nu]
  len := fun (n, _, _, _, _, _, _, _) => n
  cnd := fun (n, len, j, _, _, _, nm, _) => z3 n len j && smN nm n
  bad := fun (_, _, _, _, _, _, nm, _) => badN nm
  Kb := fun (_, _, _, w, a, b, nm, nu) _ k => k .ret ⟨us 1 ++ [.pointer (some ⟨0, 0, some 0⟩), .bool (false)] ++ us 70, [[]], [some (.box [.int .u8 (w), .slice (some ⟨1, 0, some 0⟩) (a) (0), .slice (some ⟨2, 0, some 0⟩) (b) (0)]), some (.row [.str] false (nm)), some (.row [.int .i64] false (nu))]⟩
  Ke := fun (_, _, _, w, a, b, nm, nu) k => k (.exit 0) ⟨us 1 ++ [.pointer (some ⟨0, 0, some 0⟩)] ++ us 71, [[]], [some (.box [.int .u8 (w), .slice (some ⟨1, 0, some 0⟩) (a) (0), .slice (some ⟨2, 0, some 0⟩) (b) (0)]), some (.row [.str] false (nm)), some (.row [.int .i64] false (nu))]⟩
def l19b : ScanL (Nat × Int × Int × Int × Nat × Nat × Row × Row) where
  f := 46
  id := 13
  lv := [1, 50, 51, 52]
  lx := [1, 2]
  p := p19b
  dat := d19b
  S := fun (n, _, _, w, a, b, nm, nu) j => [.n n, .i n, .i j, .i w, .n a, .n b, .r nu, .r nm]
  len := fun (n, _, _, _, _, _, _, _) => n
  cnd := fun (n, len, j, _, _, _, _, _) => z3 n len j
  bad := fun (_, _, _, _, _, _, _, nu) => badU nu
  Kb := fun (_, _, _, w, a, b, nm, nu) _ k => k .ret ⟨us 1 ++ [.pointer (some ⟨0, 0, some 0⟩), .bool (false)] ++ us 70, [[]], [some (.box [.int .u8 (w), .slice (some ⟨1, 0, some 0⟩) (a) (0), .slice (some ⟨2, 0, some 0⟩) (b) (0)]), some (.row [.str] false (nm)), some (.row [.int .i64] false (nu))]⟩
  Ke := fun (_, _, _, w, a, b, nm, nu) k => k (.exit 2) ⟨us 1 ++ [.pointer (some ⟨0, 0, some 0⟩)] ++ us 71, [[]], [some (.box [.int .u8 (w), .slice (some ⟨1, 0, some 0⟩) (a) (0), .slice (some ⟨2, 0, some 0⟩) (b) (0)]), some (.row [.str] false (nm)), some (.row [.int .i64] false (nu))]⟩
def l21a : ScanL (Int × Int × Nat × Nat × Row × Row) where
  f := 48
  id := 5
  lv := [1, 4]
  lx := [1, 2]
  p := p21a
  dat := d21
  S := fun (_, w, a, b, nm, nu) j => [.i j, .i w, .n a, .n b, .r nm, .r nu]
  len := fun (_, w, a, b, nm, nu) => a
  cnd := fun (j, w, a, b, nm, nu) => z2 a j && smN nm a
  bad := fun (_, w, a, b, nm, nu) => badN nm
  Kb := fun (_, w, a, b, nm, nu) _ k => k .ret ⟨us 1 ++ [.pointer (some ⟨0, 0, some 0⟩), .bool (false)] ++ us 89, [[]], [some (.box [.int .u8 (w), .slice (some ⟨1, 0, some 0⟩) (a) (0), .slice (some ⟨2, 0, some 0⟩) (b) (0)]), some (.row [.str] false (nm)), some (.row [.int .i64] false (nu))]⟩
  Ke := fun (_, w, a, b, nm, nu) k => k (.exit 0) ⟨us 1 ++ [.pointer (some ⟨0, 0, some 0⟩)] ++ us 90, [[]], [some (.box [.int .u8 (w), .slice (some ⟨1, 0, some 0⟩) (a) (0), .slice (some ⟨2, 0, some 0⟩) (b) (0)]), some (.row [.str] false (nm)), some (.row [.int .i64] false (nu))]⟩
def l21b : ScanL (Int × Int × Nat × Nat × Row × Row) where
  f := 48
  id := 10
  lv := [1, 5]
  lx := [1, 2]
  p := p21b
  dat := d21
  S := fun (_, w, a, b, nm, nu) j => [.i j, .i w, .n a, .n b, .r nm, .r nu]
  len := fun (_, w, a, b, nm, nu) => b
  cnd := fun (j, w, a, b, nm, nu) => z2 b j
  bad := fun (_, w, a, b, nm, nu) => badU nu
  Kb := fun (_, w, a, b, nm, nu) _ k => k .ret ⟨us 1 ++ [.pointer (some ⟨0, 0, some 0⟩), .bool (false)] ++ us 89, [[]], [some (.box [.int .u8 (w), .slice (some ⟨1, 0, some 0⟩) (a) (0), .slice (some ⟨2, 0, some 0⟩) (b) (0)]), some (.row [.str] false (nm)), some (.row [.int .i64] false (nu))]⟩
  Ke := fun (_, w, a, b, nm, nu) k => k (.exit 2) ⟨us 1 ++ [.pointer (some ⟨0, 0, some 0⟩)] ++ us 90, [[]], [some (.box [.int .u8 (w), .slice (some ⟨1, 0, some 0⟩) (a) (0), .slice (some ⟨2, 0, some 0⟩) (b) (0)]), some (.row [.str] false (nm)), some (.row [.int .i64] false (nu))]⟩
noncomputable def C19 : Cx := mkCx Tryd.prog fns [(35, Fname), (37, Fwords), (58, Fdiff)] [l19a.C, l19b.C]
noncomputable def C21 : Cx := mkCx Tryd.prog fns [(60, Fname), (41, Fword), (59, Fhas), (61, Ftwice)] [l21a.C, l21b.C]
theorem r19a (R : St → Option (List D)) (K : X → St → Option (List D)) (q n : Nat) (len j w : Int) (a b : Nat) (nm nu : Row) : bodyOf C19 46 7 q (Go.Ev.bst p19a [.n n, .i len, .i j, .i w, .n a, .n b, .r nm, .r nu]) (rnd [1, 39, 40, 41] (some [1, 2]) R K) =
    br (decide (j < len)) (br (decide (0 ≤ j) && decide (j < (↑n : Int))) (br (decide ((nm.S (0 + j.toNat) 0).size ≤ 1000000)) (br (!nmB (nm.S (0 + j.toNat) 0)) (K .ret ⟨us 1 ++ [.pointer (some ⟨0, 0, some 0⟩), .bool (false)] ++ us 70, [[]], [some (.box [.int .u8 (w), .slice (some ⟨1, 0, some 0⟩) (a) (0), .slice (some ⟨2, 0, some 0⟩) (b) (0)]), some (.row [.str] false (nm)), some (.row [.int .i64] false (nu))]⟩) (R ⟨us 1 ++ [.pointer (some ⟨0, 0, some 0⟩)] ++ us 37 ++ [.slice (some ⟨1, 0, some 0⟩) (n) (0), i64 (len), i64 (IntKind.i64.wrap (j + 1))] ++ us 31, [[]], [some (.box [.int .u8 (w), .slice (some ⟨1, 0, some 0⟩) (a) (0), .slice (some ⟨2, 0, some 0⟩) (b) (0)]), some (.row [.str] false (nm)), some (.row [.int .i64] false (nu))]⟩)) (none)) (none)) (K (.exit 0) ⟨us 1 ++ [.pointer (some ⟨0, 0, some 0⟩)] ++ us 71, [[]], [some (.box [.int .u8 (w), .slice (some ⟨1, 0, some 0⟩) (a) (0), .slice (some ⟨2, 0, some 0⟩) (b) (0)]), some (.row [.str] false (nm)), some (.row [.int .i64] false (nu))]⟩) := by kernel_rfl
theorem r19b (R : St → Option (List D)) (K : X → St → Option (List D)) (q n : Nat) (len j w : Int) (a b : Nat) (nm nu : Row) : bodyOf C19 46 13 q (Go.Ev.bst p19b [.n n, .i len, .i j, .i w, .n a, .n b, .r nu, .r nm]) (rnd [1, 50, 51, 52] (some [1, 2]) R K) =
    br (decide (j < len)) (br (decide (0 ≤ j) && decide (j < (↑n : Int))) (br (decide (nu.I (0 + j.toNat) 0 < -1000000000)) (K .ret ⟨us 1 ++ [.pointer (some ⟨0, 0, some 0⟩), .bool (false)] ++ us 70, [[]], [some (.box [.int .u8 (w), .slice (some ⟨1, 0, some 0⟩) (a) (0), .slice (some ⟨2, 0, some 0⟩) (b) (0)]), some (.row [.str] false (nm)), some (.row [.int .i64] false (nu))]⟩) (br (decide (nu.I (0 + j.toNat) 0 > 1000000000)) (K .ret ⟨us 1 ++ [.pointer (some ⟨0, 0, some 0⟩), .bool (false)] ++ us 70, [[]], [some (.box [.int .u8 (w), .slice (some ⟨1, 0, some 0⟩) (a) (0), .slice (some ⟨2, 0, some 0⟩) (b) (0)]), some (.row [.str] false (nm)), some (.row [.int .i64] false (nu))]⟩) (R ⟨us 1 ++ [.pointer (some ⟨0, 0, some 0⟩)] ++ us 48 ++ [.slice (some ⟨1, 0, some 0⟩) (n) (0), i64 (len), i64 (IntKind.i64.wrap (j + 1))] ++ us 20, [[]], [some (.box [.int .u8 (w), .slice (some ⟨2, 0, some 0⟩) (a) (0), .slice (some ⟨1, 0, some 0⟩) (b) (0)]), some (.row [.int .i64] false (nu)), some (.row [.str] false (nm))]⟩))) (none)) (K (.exit 2) ⟨us 1 ++ [.pointer (some ⟨0, 0, some 0⟩)] ++ us 71, [[]], [some (.box [.int .u8 (w), .slice (some ⟨1, 0, some 0⟩) (a) (0), .slice (some ⟨2, 0, some 0⟩) (b) (0)]), some (.row [.str] false (nm)), some (.row [.int .i64] false (nu))]⟩) := by kernel_rfl
theorem r21a (R : St → Option (List D)) (K : X → St → Option (List D)) (q : Nat) (j w : Int) (a b : Nat) (nm nu : Row) : bodyOf C21 48 5 q (Go.Ev.bst p21a [.i j, .i w, .n a, .n b, .r nm, .r nu]) (rnd [1, 4] (some [1, 2]) R K) =
    br (decide (j < (↑a : Int))) (br (decide (0 ≤ j) && decide (j < (↑a : Int))) (br (decide ((nm.S (0 + j.toNat) 0).size ≤ 1000000)) (br (!nmB (nm.S (0 + j.toNat) 0)) (K .ret ⟨us 1 ++ [.pointer (some ⟨0, 0, some 0⟩), .bool (false)] ++ us 89, [[]], [some (.box [.int .u8 (w), .slice (some ⟨1, 0, some 0⟩) (a) (0), .slice (some ⟨2, 0, some 0⟩) (b) (0)]), some (.row [.str] false (nm)), some (.row [.int .i64] false (nu))]⟩) (R ⟨us 1 ++ [.pointer (some ⟨0, 0, some 0⟩)] ++ us 2 ++ [i64 (IntKind.i64.wrap (j + 1))] ++ us 87, [[]], [some (.box [.int .u8 (w), .slice (some ⟨1, 0, some 0⟩) (a) (0), .slice (some ⟨2, 0, some 0⟩) (b) (0)]), some (.row [.str] false (nm)), some (.row [.int .i64] false (nu))]⟩)) (none)) (none)) (K (.exit 0) ⟨us 1 ++ [.pointer (some ⟨0, 0, some 0⟩)] ++ us 90, [[]], [some (.box [.int .u8 (w), .slice (some ⟨1, 0, some 0⟩) (a) (0), .slice (some ⟨2, 0, some 0⟩) (b) (0)]), some (.row [.str] false (nm)), some (.row [.int .i64] false (nu))]⟩) := by kernel_rfl
theorem r21b (R : St → Option (List D)) (K : X → St → Option (List D)) (q : Nat) (j w : Int) (a b : Nat) (nm nu : Row) : bodyOf C21 48 10 q (Go.Ev.bst p21b [.i j, .i w, .n a, .n b, .r nm, .r nu]) (rnd [1, 5] (some [1, 2]) R K) =
    br (decide (j < (↑b : Int))) (br (decide (0 ≤ j) && decide (j < (↑b : Int))) (br (decide (nu.I (0 + j.toNat) 0 < -1000000000)) (K .ret ⟨us 1 ++ [.pointer (some ⟨0, 0, some 0⟩), .bool (false)] ++ us 89, [[]], [some (.box [.int .u8 (w), .slice (some ⟨1, 0, some 0⟩) (a) (0), .slice (some ⟨2, 0, some 0⟩) (b) (0)]), some (.row [.str] false (nm)), some (.row [.int .i64] false (nu))]⟩) (br (decide (0 ≤ j) && decide (j < (↑b : Int))) (br (decide (nu.I (0 + j.toNat) 0 > 1000000000)) (K .ret ⟨us 1 ++ [.pointer (some ⟨0, 0, some 0⟩), .bool (false)] ++ us 89, [[]], [some (.box [.int .u8 (w), .slice (some ⟨1, 0, some 0⟩) (a) (0), .slice (some ⟨2, 0, some 0⟩) (b) (0)]), some (.row [.str] false (nm)), some (.row [.int .i64] false (nu))]⟩) (R ⟨us 1 ++ [.pointer (some ⟨0, 0, some 0⟩)] ++ us 3 ++ [i64 (IntKind.i64.wrap (j + 1))] ++ us 86, [[]], [some (.box [.int .u8 (w), .slice (some ⟨1, 0, some 0⟩) (a) (0), .slice (some ⟨2, 0, some 0⟩) (b) (0)]), some (.row [.str] false (nm)), some (.row [.int .i64] false (nu))]⟩)) (none))) (none)) (K (.exit 2) ⟨us 1 ++ [.pointer (some ⟨0, 0, some 0⟩)] ++ us 90, [[]], [some (.box [.int .u8 (w), .slice (some ⟨1, 0, some 0⟩) (a) (0), .slice (some ⟨2, 0, some 0⟩) (b) (0)]), some (.row [.str] false (nm)), some (.row [.int .i64] false (nu))]⟩) := by kernel_rfl
theorem t19 (w : Int) (nm nu : Row) : evF C19 6 46 [.agg [.v (u8 w), .slice ksS nm, .slice ksI nu]] =
    br (decide (w < 1)) (some [.v (.bool (false))]) (br (decide (w > 10)) (some [.v (.bool (false))]) (br (decide (0 ≤ IntKind.u8.wrap (w - 1)) && decide (IntKind.u8.wrap (w - 1) < (↑Wt.n : Int))) (br (decide ((↑nm.n : Int) ≥ Wt.I (0 + (IntKind.u8.wrap (w - 1)).toNat) 1)) (br (!decide ((↑nm.n : Int) ≤ Wt.I (0 + (IntKind.u8.wrap (w - 1)).toNat) (0 + 1 + 1))) (some [.v (.bool (false))]) (br (decide ((↑nu.n : Int) ≥ Wt.I (0 + (IntKind.u8.wrap (w - 1)).toNat) (0 + 1 + 1 + 1))) (br (!decide ((↑nu.n : Int) ≤ Wt.I (0 + (IntKind.u8.wrap (w - 1)).toNat) (0 + 1 + 1 + 1 + 1))) (some [.v (.bool (false))]) (br (z3 nm.n (↑nm.n : Int) 0 && smN nm nm.n) (br (anyF (badN nm) nm.n 0) (some [.v (.bool (false))]) (br (z3 nu.n (↑nu.n : Int) 0) (br (anyF (badU nu) nu.n 0) (some [.v (.bool (false))]) (br (w == 4) (br (decide (0 ≤ (↑nm.n : Int)) && decide ((↑nm.n : Int) ≤ (↑nm.n : Int))) (br (decide (0 ≤ 1) && decide (1 ≤ (↑(↑nm.n : Int).toNat : Int))) (br (decide ((winOf nm (0 + 1) ((↑nm.n : Int).toNat - 1)).n ≤ 1000000)) (some [.v (.bool (!twB (winOf nm 1 ((↑nm.n : Int).toNat - 1))))]) (none)) (none)) (none)) (br (decide ((winOf nm 0 nm.n).n ≤ 1000000)) (some [.v (.bool (!twB (winOf nm 0 nm.n)))]) (none)))) (none))) (none))) (some [.v (.bool (false))]))) (some [.v (.bool (false))])) (none))) := by kernel_rfl
theorem t21 (w : Int) (nm nu : Row) : evF C21 6 48 [.agg [.v (u8 w), .slice ksS nm, .slice ksI nu]] =
    br ((wordS w).toList == { data := { toList := [] : Array UInt8 } : ByteArray }.toList) (some [.v (.bool (false))]) (br (decide ((↑nm.n : Int) < (hasS w).a)) (some [.v (.bool (false))]) (br (decide ((↑nm.n : Int) > (hasS w).b)) (some [.v (.bool (false))]) (br (decide ((↑nu.n : Int) < (hasS w).c)) (some [.v (.bool (false))]) (br (decide ((↑nu.n : Int) > (hasS w).d)) (some [.v (.bool (false))]) (br (z2 nm.n 0 && smN nm nm.n) (br (anyF (badN nm) nm.n 0) (some [.v (.bool (false))]) (br (z2 nu.n 0) (br (anyF (badU nu) nu.n 0) (some [.v (.bool (false))]) (br (w == 4) (br (decide (0 ≤ (↑nm.n : Int)) && decide ((↑nm.n : Int) ≤ (↑nm.n : Int))) (br (decide (0 ≤ 1) && decide (1 ≤ (↑(↑nm.n : Int).toNat : Int))) (br (decide ((winOf nm (0 + 1) ((↑nm.n : Int).toNat - 1)).n ≤ 1000000)) (some [.v (.bool (!twB (winOf nm 1 ((↑nm.n : Int).toNat - 1))))]) (none)) (none)) (none)) (br (decide ((winOf nm 0 nm.n).n ≤ 1000000)) (some [.v (.bool (!twB (winOf nm 0 nm.n)))]) (none)))) (none))) (none)))))) := by kernel_rfl
theorem sm_at {r : Row} {n i : Nat} (h : smN r n = true) (hi : i < n) : decide ((r.S i 0).size ≤ 1000000) = true := decide_eq_true ((smN_iff.1 h).2 i hi)
theorem ok19a : LoopOk C19 l19a.C := l19a.ok (by kernel_rfl)
  (fun its x h hc => by
    replace h : d19a its = some x := h
    unfold d19a at h
    split at h
    · cases h
      rename_i n len j w a b nm nu
      have hc : (z3 n len j && smN nm n) = true := hc
      simp only [Bool.and_eq_true] at hc
      obtain ⟨h1, h2, h3⟩ := z3_iff.1 hc.1
      subst h1 h2
      rfl
    · cases h)
  (fun ⟨n, len, j, w, a, b, nm, nu⟩ hc => by
    have hc : (z3 n len j && smN nm n) = true := hc
    simp only [Bool.and_eq_true] at hc
    have := (z3_iff.1 hc.1).2.2
    show n < 18446744073709551616; omega)
  (fun q ⟨n, len, j, w, a, b, nm, nu⟩ i hc hi R K => by
    have hc : (z3 n len j && smN nm n) = true := hc
    simp only [Bool.and_eq_true] at hc
    have h3 := (z3_iff.1 hc.1).2.2
    replace hi : i < n := hi
    refine (r19a R K q n n i w a b nm nu).trans ?_
    rw [gd i n hi, ltd i n hi, wsn (by omega), Int.toNat_natCast, Nat.zero_add, sm_at hc.2 hi]
    rfl)
  (fun q ⟨n, len, j, w, a, b, nm, nu⟩ hc R K => by
    refine (r19a R K q n n n w a b nm nu).trans ?_
    rw [ltn n]
    rfl)
theorem br_or {α : Type} (b c : Bool) (x y : Option α) : br (b || c) x y = br b x (br c x y) := by cases b <;> rfl
theorem ok19b : LoopOk C19 l19b.C := l19b.ok (by kernel_rfl)
  (fun its x h hc => by
    replace h : d19b its = some x := h
    unfold d19b at h
    split at h
    · cases h
      obtain ⟨h1, h2, h3⟩ := z3_iff.1 hc
      subst h1 h2
      rfl
    · cases h)
  (fun ⟨n, len, j, w, a, b, nm, nu⟩ hc => by have := (z3_iff.1 hc).2.2; show n < 18446744073709551616; omega)
  (fun q ⟨n, len, j, w, a, b, nm, nu⟩ i hc hi R K => by
    have h3 := (z3_iff.1 hc).2.2
    replace hi : i < n := hi
    refine (r19b R K q n n i w a b nm nu).trans ?_
    rw [gd i n hi, ltd i n hi, wsn (by omega), Int.toNat_natCast, Nat.zero_add]
    exact (br_or _ _ _ _).symm)
  (fun q ⟨n, len, j, w, a, b, nm, nu⟩ hc R K => by
    refine (r19b R K q n n n w a b nm nu).trans ?_
    rw [ltn n]
    rfl)
theorem ok21a : LoopOk C21 l21a.C := l21a.ok (by kernel_rfl)
  (fun its x h hc => by
    replace h : d21 its = some x := h
    unfold d21 at h
    split at h
    · cases h
      rename_i j w a b nm nu
      have hc : (z2 a j && smN nm a) = true := hc
      simp only [Bool.and_eq_true] at hc
      obtain ⟨h1, h2⟩ := z2_iff.1 hc.1
      subst h1
      rfl
    · cases h)
  (fun ⟨j, w, a, b, nm, nu⟩ hc => by
    have hc : (z2 a j && smN nm a) = true := hc
    simp only [Bool.and_eq_true] at hc
    have := (z2_iff.1 hc.1).2
    show a < 18446744073709551616; omega)
  (fun q ⟨j, w, a, b, nm, nu⟩ i hc hi R K => by
    have hc : (z2 a j && smN nm a) = true := hc
    simp only [Bool.and_eq_true] at hc
    have h3 := (z2_iff.1 hc.1).2
    replace hi : i < a := hi
    refine (r21a R K q i w a b nm nu).trans ?_
    rw [gd i a hi, ltd i a hi, wsn (by omega), Int.toNat_natCast, Nat.zero_add, sm_at hc.2 hi]
    rfl)
  (fun q ⟨j, w, a, b, nm, nu⟩ hc R K => by
    refine (r21a R K q a w a b nm nu).trans ?_
    rw [ltn a]
    rfl)
theorem ok21b : LoopOk C21 l21b.C := l21b.ok (by kernel_rfl)
  (fun its x h hc => by
    replace h : d21 its = some x := h
    unfold d21 at h
    split at h
    · cases h
      obtain ⟨h1, h2⟩ := z2_iff.1 hc
      subst h1
      rfl
    · cases h)
  (fun ⟨j, w, a, b, nm, nu⟩ hc => by have := (z2_iff.1 hc).2; show b < 18446744073709551616; omega)
  (fun q ⟨j, w, a, b, nm, nu⟩ i hc hi R K => by
    have h3 := (z2_iff.1 hc).2
    replace hi : i < b := hi
    refine (r21b R K q i w a b nm nu).trans ?_
    rw [gd i b hi, ltd i b hi, wsn (by omega), Int.toNat_natCast, Nat.zero_add]
    exact (br_or _ _ _ _).symm)
  (fun q ⟨j, w, a, b, nm, nu⟩ hc R K => by
    refine (r21b R K q b w a b nm nu).trans ?_
    rw [ltn b]
    rfl)
theorem C19_ok : CxOk C19 := mkCx_ok enter mixed (fun p h => by
  simp only [List.mem_cons, List.not_mem_nil, or_false] at h
  rcases h with rfl | rfl | rfl
  · exact den_name
  · exact den_words
  · exact den_diff) (fun l h => by
  simp only [List.mem_cons, List.not_mem_nil, or_false] at h
  rcases h with rfl | rfl
  · exact ok19a
  · exact ok19b)
theorem C21_ok : CxOk C21 := mkCx_ok enter mixed (fun p h => by
  simp only [List.mem_cons, List.not_mem_nil, or_false] at h
  rcases h with rfl | rfl | rfl | rfl
  · exact den_Name
  · exact den_word
  · exact den_has
  · exact den_twice) (fun l h => by
  simp only [List.mem_cons, List.not_mem_nil, or_false] at h
  rcases h with rfl | rfl
  · exact ok21a
  · exact ok21b)
/-- The names that must be different. -/
def difR (w : Int) (nm : Row) : Row := bif w == 4 then winOf nm 1 (nm.n - 1) else winOf nm 0 nm.n
def ranB (w : Int) (a b : Nat) : Bool := decide ((hasS w).a ≤ (a : Int) ∧ (a : Int) ≤ (hasS w).b ∧ (hasS w).c ≤ (b : Int) ∧ (b : Int) ≤ (hasS w).d)
theorem ranB_iff {w : Int} {a b : Nat} : ranB w a b = true ↔ (hasS w).a ≤ (a : Int) ∧ (a : Int) ≤ (hasS w).b ∧ (hasS w).c ≤ (b : Int) ∧ (b : Int) ≤ (hasS w).d := by unfold ranB; rw [decide_eq_true_eq]
/-- Whether a line is valid. -/
def vaB (w : Int) (nm nu : Row) : Bool := decide (1 ≤ w ∧ w ≤ 10) && (ranB w nm.n nu.n && (!anyF (badN nm) nm.n 0 && (!anyF (badU nu) nu.n 0 && !twB (difR w nm))))
def Fvalid : List D → Option (Bool × List D)
  | [.agg [.v (.int .u8 w), .slice [.str] nm, .slice [.int .i64] nu]] => some (smN nm nm.n && decide (nu.n ≤ 1000000), [.v (.bool (vaB w nm nu))])
  | _ => none
theorem twd {r : Row} (h : r.n ≤ 1000000) : decide (r.n ≤ 1000000) = true := decide_eq_true h
theorem va_tail {w : Int} {nm nu : Row} (hw : 1 ≤ w ∧ w ≤ 10) (hr : ranB w nm.n nu.n = true) (hn : nm.n ≤ 1000000) :
    br (anyF (badN nm) nm.n 0) (some [D.v (.bool (false))]) (br (anyF (badU nu) nu.n 0) (some [D.v (.bool (false))]) (br (w == 4) (br (decide (0 ≤ (nm.n : Int)) && decide ((nm.n : Int) ≤ (nm.n : Int))) (br (decide ((0 : Int) ≤ 1) && decide ((1 : Int) ≤ (((nm.n : Int).toNat : Nat) : Int))) (br (decide ((winOf nm (0 + Int.toNat 1) ((nm.n : Int).toNat - Int.toNat 1)).n ≤ 1000000)) (some [D.v (.bool (!twB (winOf nm 1 ((nm.n : Int).toNat - 1))))]) (none)) (none)) (none)) (br (decide ((winOf nm 0 nm.n).n ≤ 1000000)) (some [D.v (.bool (!twB (winOf nm 0 nm.n)))]) (none)))) = some [D.v (.bool (vaB w nm nu))] := by
  unfold vaB
  rw [decide_eq_true hw, hr]
  cases anyF (badN nm) nm.n 0
  · cases anyF (badU nu) nu.n 0
    · unfold difR
      cases h4 : w == 4
      · rw [twd (show (winOf nm 0 nm.n).n ≤ 1000000 from hn)]; rfl
      · have h4 : w = 4 := by simpa using h4
        subst h4
        have h1 := (ranB_iff.1 hr).1
        have h1 : (2 : Int) ≤ (nm.n : Int) := h1
        rw [twd (show (winOf nm (0 + Int.toNat 1) ((nm.n : Int).toNat - Int.toNat 1)).n ≤ 1000000 from (by show (nm.n : Int).toNat - 1 ≤ 1000000; omega)), decide_eq_true (show (1 : Int) ≤ (((nm.n : Int).toNat : Nat) : Int) by omega), decide_eq_true (show (0 : Int) ≤ (nm.n : Int) by omega), decide_eq_true (show (nm.n : Int) ≤ (nm.n : Int) by omega)]
        rfl
    · rfl
  · rfl
theorem den_valid : Den Tryd.prog 46 Fvalid := evF_den C19_ok fun ds rs h => by
  unfold Fvalid at h
  split at h
  · rename_i w nm nu
    simp only [Option.some.injEq, Prod.mk.injEq, Bool.and_eq_true, decide_eq_true_eq] at h
    obtain ⟨⟨hs, hn⟩, rfl⟩ := h
    have hm := (smN_iff.1 hs).1
    refine (t19 w nm nu).trans ?_
    by_cases hw : 1 ≤ w ∧ w ≤ 10
    · obtain ⟨w0, w1, w2, w3, w4, _⟩ := Wt_has hw.1 hw.2
      have ew : IntKind.u8.wrap (w - 1) = w - 1 := wrap_id (by simp [Lit.wf, IntKind.min, IntKind.max, IntKind.signed, IntKind.bits]; omega)
      rw [ew, decide_eq_false (show ¬ w < 1 by omega), decide_eq_false (show ¬ w > 10 by omega), decide_eq_true (show 0 ≤ w - 1 by omega), decide_eq_true (show w - 1 < (Wt.n : Int) by omega)]
      rw [show Wt.I (0 + (w - 1).toNat) (0 + 1) = (hasS w).a by rw [Nat.zero_add]; exact w1, show Wt.I (0 + (w - 1).toNat) (0 + 1 + 1) = (hasS w).b by rw [Nat.zero_add]; exact w2, show Wt.I (0 + (w - 1).toNat) (0 + 1 + 1 + 1) = (hasS w).c by rw [Nat.zero_add]; exact w3, show Wt.I (0 + (w - 1).toNat) (0 + 1 + 1 + 1 + 1) = (hasS w).d by rw [Nat.zero_add]; exact w4]
      rw [z3_iff.2 ⟨rfl, rfl, hm⟩, z3_iff.2 ⟨rfl, rfl, hn⟩, hs]
      have e0 : ranB w nm.n nu.n = false → vaB w nm nu = false := fun h => by unfold vaB; rw [h, Bool.false_and, Bool.and_false]
      by_cases a1 : (nm.n : Int) ≥ (hasS w).a
      · rw [decide_eq_true a1]
        by_cases a2 : (nm.n : Int) ≤ (hasS w).b
        · rw [decide_eq_true a2]
          by_cases a3 : (nu.n : Int) ≥ (hasS w).c
          · rw [decide_eq_true a3]
            by_cases a4 : (nu.n : Int) ≤ (hasS w).d
            · rw [decide_eq_true a4]
              exact va_tail hw (ranB_iff.2 ⟨a1, a2, a3, a4⟩) hm
            · rw [decide_eq_false a4, e0 (decide_eq_false (by omega))]; rfl
          · rw [decide_eq_false a3, e0 (decide_eq_false (by omega))]; rfl
        · rw [decide_eq_false a2, e0 (decide_eq_false (by omega))]; rfl
      · rw [decide_eq_false a1, e0 (decide_eq_false (by omega))]; rfl
    · have e0 : vaB w nm nu = false := by unfold vaB; rw [decide_eq_false hw, Bool.false_and]
      rw [e0]
      by_cases h1 : w < 1
      · rw [decide_eq_true h1]; rfl
      · rw [decide_eq_false h1, decide_eq_true (show w > 10 by omega)]; rfl
  · cases h
theorem den_Valid : Den Tryd.prog 48 Fvalid := evF_den C21_ok fun ds rs h => by
  unfold Fvalid at h
  split at h
  · rename_i w nm nu
    simp only [Option.some.injEq, Prod.mk.injEq, Bool.and_eq_true, decide_eq_true_eq] at h
    obtain ⟨⟨hs, hn⟩, rfl⟩ := h
    have hm := (smN_iff.1 hs).1
    refine (t21 w nm nu).trans ?_
    rw [wordS_nil]
    by_cases hw : 1 ≤ w ∧ w ≤ 10
    · rw [decide_eq_true hw, z2_iff.2 ⟨rfl, hm⟩, z2_iff.2 ⟨rfl, hn⟩, hs]
      have e0 : ranB w nm.n nu.n = false → vaB w nm nu = false := fun h => by unfold vaB; rw [h, Bool.false_and, Bool.and_false]
      by_cases a1 : (nm.n : Int) < (hasS w).a
      · rw [decide_eq_true a1, e0 (decide_eq_false (by omega))]; rfl
      · rw [decide_eq_false a1]
        by_cases a2 : (nm.n : Int) > (hasS w).b
        · rw [decide_eq_true a2, e0 (decide_eq_false (by omega))]; rfl
        · rw [decide_eq_false a2]
          by_cases a3 : (nu.n : Int) < (hasS w).c
          · rw [decide_eq_true a3, e0 (decide_eq_false (by omega))]; rfl
          · rw [decide_eq_false a3]
            by_cases a4 : (nu.n : Int) > (hasS w).d
            · rw [decide_eq_true a4, e0 (decide_eq_false (by omega))]; rfl
            · rw [decide_eq_false a4]
              exact va_tail hw (ranB_iff.2 ⟨by omega, by omega, by omega, by omega⟩) hm
    · have e0 : vaB w nm nu = false := by unfold vaB; rw [decide_eq_false hw, Bool.false_and]
      rw [e0, decide_eq_false hw]; rfl
  · cases h
end Go.Proofs.YtopdfmhlgkbaaaaDoor
/- The reference: Find. What the names that are known so far are. No conditions. -/
namespace Go.Proofs.YtopdfmhlgkbaaaaDoor
open Go.Ev
set_option linter.all false
def p17 : PSt := { τ := [.v (.sl 0), .v (.str)] ++ pu 3 ++ [.v (.int .i64)] ++ pu 14, saved := [[]], mem := [.row [.str, .int .u8] false] }
def eqN (o : Row) (s : ByteArray) (i : Nat) : Bool := eqS (o.S i 0) s
/-- Where a name stands, or -1. -/
def fdI (o : Row) (s : ByteArray) : Int := bif anyF (eqN o s) o.n 0 then ((fstF (eqN o s) o.n 0 : Nat) : Int) else -1
/-- The word with which a name became known, or 0. -/
def wdI (o : Row) (s : ByteArray) : Int := bif anyF (eqN o s) o.n 0 then o.I (fstF (eqN o s) o.n 0) 1 else 0
def d17 (its : List It) : Option (Nat × ByteArray × Int × Row) := match its with | [.n n, .s s, .i j, .r l] => some (n, s, j, l) | _ => none
def l17 : ScanL (Nat × ByteArray × Int × Row) where
  f := 19
  id := 2
  lv := [0, 1, 5]
  lx := [4]
  p := p17
  dat := d17
  S := fun (n, s, _, l) j => [.n n, .s s, .i j, .r l]
  len := fun (n, _, _, _) => n
  cnd := fun (n, _, j, _) => z2 n j
  bad := fun (n, s, _, l) => eqN l s
  Kb := fun _ j k => k .ret ⟨us 4 ++ [i64 (j : Nat)] ++ us 15, [[]], []⟩
  Ke := fun _ k => k (.exit 0) ⟨us 20, [[]], []⟩
noncomputable def C17 : Cx := mkCx Tryd.prog fns [] [l17.C]
theorem r17 (R : St → Option (List D)) (K : X → St → Option (List D)) (q n : Nat) (s : ByteArray) (j : Int) (l : Row) : bodyOf C17 19 2 q (Go.Ev.bst p17 [.n n, .s s, .i j, .r l]) (rnd [0, 1, 5] (some [4]) R K) =
    br (decide (j < (↑n : Int))) (br (decide (0 ≤ j) && decide (j < (↑n : Int))) (br ((l.S (0 + j.toNat) 0).toList == s.toList) (K .ret ⟨us 4 ++ [i64 (j)] ++ us 15, [[]], []⟩) (R ⟨[.slice (some ⟨0, 0, some 0⟩) (n) (0), .string (s)] ++ us 3 ++ [i64 (IntKind.i64.wrap (j + 1))] ++ us 14, [[]], [some (.row [.str, .int .u8] false (l))]⟩)) (none)) (K (.exit 0) ⟨us 20, [[]], []⟩) := by kernel_rfl
theorem t17 (l : Row) (s : ByteArray) : evF C17 6 19 [.slice ksN l, .v (.string s)] =
    br (z2 l.n 0) (br (anyF (eqN l s) l.n 0) (some [.v (i64 ((↑(fstF (eqN l s) l.n 0) : Int)))]) (some [.v (i64 (-1))])) (none) := by kernel_rfl
theorem ok17 : LoopOk C17 l17.C := l17.ok (by kernel_rfl)
  (fun its x h hc => by
    replace h : d17 its = some x := h
    unfold d17 at h
    split at h
    · cases h
      obtain ⟨h2, h3⟩ := z2_iff.1 hc
      subst h2
      rfl
    · cases h)
  (fun ⟨n, s, j, l⟩ hc => by have := (z2_iff.1 hc).2; show n < 18446744073709551616; omega)
  (fun q ⟨n, s, j, l⟩ i hc hi R K => by
    have h3 := (z2_iff.1 hc).2
    replace hi : i < n := hi
    refine (r17 R K q n s i l).trans ?_
    rw [gd i n hi, ltd i n hi, wsn (by omega), Int.toNat_natCast, Nat.zero_add]
    rfl)
  (fun q ⟨n, s, j, l⟩ hc R K => by
    refine (r17 R K q n s n l).trans ?_
    rw [ltn n]
    rfl)
theorem C17_ok : CxOk C17 := mkCx_ok enter mixed (fun p h => by cases h) (fun l h => by
  simp only [List.mem_cons, List.not_mem_nil, or_false] at h
  rcases h with rfl
  exact ok17)
def Ffind : List D → Option (Bool × List D)
  | [.slice [.str, .int .u8] l, .v (.string s)] => some (decide (l.n ≤ 1000000), [.v (i64 (fdI l s))])
  | _ => none
theorem den_find : Den Tryd.prog 19 Ffind := evF_den C17_ok fun ds rs h => by
  unfold Ffind at h
  split at h
  · rename_i l s
    simp only [Option.some.injEq, Prod.mk.injEq] at h
    obtain ⟨h0, rfl⟩ := h
    refine (t17 l s).trans ?_
    rw [z2_iff.2 ⟨rfl, of_decide_eq_true h0⟩, br_true]
    unfold fdI
    cases anyF (eqN l s) l.n 0 <;> rfl
  · cases h
/-- A name that becomes known. -/
def pushN (o : Row) (s : ByteArray) (w : Int) : Row := (winOf o 0 o.n).app (winOf (((Row.zeros 1).setS 0 0 s).setI 0 1 w) 0 1)
def p14i : PSt := { τ := pu 4 ++ [.v (.sl 0), .v (.c (.map (some 1)))] ++ pu 1 ++ [.v (.c (.pointer (some ⟨2, 0, some 0⟩))), .v (.c (.pointer (some ⟨3, 0, some 0⟩)))] ++ pu 6 ++ [.v (.sl 4), .v (.int .i64), .v (.int .i64)] ++ pu 13 ++ [.v (.sl 5), .v (.int .i64), .v (.int .i64)] ++ pu 29, saved := [[]], mem := [.row [.str, .int .u8] true, .map (.int .u8), .box [.v (.int .u8), .v (.sl 5), .v (.sl 6)], .box [.v (.str), .v (.int .i64), .v (.int .i64), .v (.int .i64), .v (.int .i64), .v (.bool), .v (.int .u8)], .row [.int .u8, .slice [.str], .slice [.int .i64]] false, .row [.str] false, .row [.int .i64] false] }
def p15i : PSt := { τ := [.v (.sl 0)] ++ pu 3 ++ [.v (.sl 1), .v (.int .i64), .v (.int .i64)] ++ pu 82, saved := [[]], mem := [.row [.int .u8, .slice [.str], .slice [.int .i64]] false, .row [.str, .int .u8] true] }
structure J14 where
  n : Nat
  m : Nat
  len : Int
  j : Int
  a : Nat
  la : Int
  k : Int
  o : Row
  M : ByteArray → Int
  B : ByteArray → Bool
  w : Int
  a2 : Nat
  b2 : Nat
  s : ByteArray
  x1 : Int
  x2 : Int
  x3 : Int
  x4 : Int
  nw : Bool
  x6 : Int
  l : Row
  nm : Row
  nu : Row
def d14i (its : List It) : Option J14 := match its with | [.n n, .n m, .i len, .i j, .n a, .i la, .i k, .r o, .mi M, .mb B, .i w, .n a2, .n b2, .s s, .i x1, .i x2, .i x3, .i x4, .b mk, .i x6, .r l, .r nm, .r nu] => some ⟨n, m, len, j, a, la, k, o, M, B, w, a2, b2, s, x1, x2, x3, x4, mk, x6, l, nm, nu⟩ | _ => none
def stI (nm : Row) (mk : Bool) (x6 : Int) (k : Nat) (a : Row × (ByteArray → Int)) : Bool := bif mk then a.2 (nm.S k 0) != 0 else a.2 (nm.S k 0) != x6
def nxI (nm : Row) (mk : Bool) (w : Int) (k : Nat) (a : Row × (ByteArray → Int)) : Row × (ByteArray → Int) := bif mk then (pushN a.1 (nm.S k 0) w, updI a.2 (nm.S k 0) w) else a
def l14i : RunL J14 (Row × (ByteArray → Int)) where
  f := 34
  id := 12
  lv := [4, 5, 7, 8, 15, 16, 17, 31, 32, 33]
  lx := [2, 3, 4, 5, 15, 16, 17]
  p := p14i
  dat := d14i
  S := fun x k a => [.n a.1.n, .n x.m, .i x.len, .i x.j, .n x.a, .i x.a, .i k, .r a.1, .mi a.2, .mb x.B, .i x.w, .n x.a2, .n x.b2, .s x.s, .i x.x1, .i x.x2, .i x.x3, .i x.x4, .b x.nw, .i x.x6, .r x.l, .r x.nm, .r x.nu]
  len := fun x => x.a
  cnd := fun x => decide (x.n = x.o.n ∧ x.o.n ≤ 1000000) && z3 x.a x.la x.k
  ini := fun x => (x.o, x.M)
  stop := fun x => stI x.nm x.nw x.x6
  nx := fun x => nxI x.nm x.nw x.w
  Kb := fun x k a K => K .ret ⟨us 2 ++ [.slice none (0) (0), i64 (bif x.nw then 14 else 6), .slice (some ⟨0, 0, some 0⟩) (a.1.n) (0), .map (some 1)] ++ us 9 ++ [.slice (some ⟨2, 0, some 0⟩) (x.m) (0), i64 (x.len), i64 (x.j)] ++ us 45, [[]], [some (.row [.str, .int .u8] true (a.1)), some (.map (.int .u8) (a.2) (x.B)), some (.row [.int .u8, .slice [.str], .slice [.int .i64]] false (x.l))]⟩
  Ke := fun x a K => K (.exit 2) ⟨us 4 ++ [.slice (some ⟨0, 0, some 0⟩) (a.1.n) (0), .map (some 1)] ++ us 9 ++ [.slice (some ⟨2, 0, some 0⟩) (x.m) (0), i64 (x.len), i64 (x.j)] ++ us 45, [[]], [some (.row [.str, .int .u8] true (a.1)), some (.map (.int .u8) (a.2) (x.B)), some (.row [.int .u8, .slice [.str], .slice [.int .i64]] false (x.l))]⟩
noncomputable def Ch : Cx := mkCx Tryd.prog fns [(19, Ffind), (52, Fnee)] []
def d15i (its : List It) : Option (Nat × Nat × Int × Int × Row × Row) := match its with | [.n m, .n n, .i j, .i k, .r l, .r o] => some (m, n, j, k, l, o) | _ => none
/-- A name that is not known, or known with another word. -/
def misB (o : Row) (s : ByteArray) (x : Int) : Bool := decide (fdI o s < 0) || o.I (fdI o s).toNat 1 != x
def badK (l o : Row) (j i : Nat) : Bool := misB o ((l.R j 1).S i 0) (neeI (l.I j 0))
def l15i : ScanL (Nat × Nat × Int × Int × Row × Row) where
  f := 40
  id := 12
  lv := [0, 4, 5, 6]
  lx := [0, 2, 3, 4, 5]
  p := p15i
  dat := d15i
  S := fun (m, n, j, k, l, o) i => [.n m, .n n, .i j, .i i, .r l, .r o]
  len := fun (m, n, j, k, l, o) => (l.R j.toNat 1).n
  cnd := fun (m, n, j, k, l, o) => decide (n = o.n ∧ o.n ≤ 1000000) && (decide (0 ≤ j ∧ j < m) && z2 (l.R j.toNat 1).n k)
  bad := fun (m, n, j, k, l, o) => badK l o j.toNat
  Kb := fun (m, n, j, k, l, o) i K => K .ret ⟨[.slice (some ⟨0, 0, some 0⟩) (m) (0)] ++ us 1 ++ [.slice none (0) (0), i64 (6), .slice (some ⟨1, 0, some 0⟩) (n) (0), i64 (j)] ++ us 83, [[]], [some (.row [.int .u8, .slice [.str], .slice [.int .i64]] false (l)), some (.row [.str, .int .u8] true (o))]⟩
  Ke := fun (m, n, j, k, l, o) K => K (.exit 2) ⟨[.slice (some ⟨0, 0, some 0⟩) (m) (0)] ++ us 3 ++ [.slice (some ⟨1, 0, some 0⟩) (n) (0), i64 (j)] ++ us 83, [[]], [some (.row [.int .u8, .slice [.str], .slice [.int .i64]] false (l)), some (.row [.str, .int .u8] true (o))]⟩
def p14 : PSt := { τ := pu 4 ++ [.v (.sl 0), .v (.c (.map (some 1)))] ++ pu 9 ++ [.v (.sl 2), .v (.int .i64), .v (.int .i64)] ++ pu 45, saved := [[]], mem := [.row [.str, .int .u8] true, .map (.int .u8), .row [.int .u8, .slice [.str], .slice [.int .i64]] false] }
def p15 : PSt := { τ := [.v (.sl 0)] ++ pu 3 ++ [.v (.sl 1), .v (.int .i64)] ++ pu 83, saved := [[]], mem := [.row [.int .u8, .slice [.str], .slice [.int .i64]] false, .row [.str, .int .u8] true] }
/-- Lines that are no great ones: what the walks ask. -/
def lnB (l : Row) (j : Nat) : Bool := smN (l.R j 1) (l.R j 1).n && decide ((l.R j 2).n ≤ 1000000)
def okL (l : Row) : Bool := decide (l.n ≤ 1000000) && !anyF (fun j => !lnB l j) l.n 0
theorem okL_iff {l : Row} : okL l = true ↔ l.n ≤ 1000000 ∧ ∀ j, j < l.n → lnB l j = true := by
  unfold okL
  simp only [Bool.and_eq_true, decide_eq_true_eq, Bool.not_eq_true', anyF_false, Nat.zero_add, Nat.zero_le, forall_const, Bool.not_eq_false']
def vaL (l : Row) (j : Nat) : Bool := vaB (l.I j 0) (l.R j 1) (l.R j 2)
/-- Whether a line has an error, with the names that are known so far; which one; and the names behind it. -/
def stK (l : Row) (j : Nat) (o : Row) : Bool := !vaL l j || (bif newB (l.I j 0) then !decide (fdI o ((l.R j 1).S 0 0) < 0) else anyF (badK l o j) (l.R j 1).n 0)
def erK (l : Row) (j : Nat) : Int := bif vaL l j then bif newB (l.I j 0) then 14 else 6 else 8
def nxK (l : Row) (j : Nat) (o : Row) : Row := bif newB (l.I j 0) then pushN o ((l.R j 1).S 0 0) (l.I j 0) else o
def knR (l : Row) : Bool × Nat × Row := runS (stK l) (nxK l) l.n 0 .nil
noncomputable def zM (M : ByteArray → Int) : Bool := @decide (∀ s, M s = 0) (Classical.propDecidable _)
theorem zM_iff {M : ByteArray → Int} : zM M = true ↔ ∀ s, M s = 0 := by unfold zM; exact @decide_eq_true_iff _ (Classical.propDecidable _)
def d14 (its : List It) : Option (Nat × Nat × Int × Int × Row × (ByteArray → Int) × (ByteArray → Bool) × Row) := match its with | [.n n, .n m, .i len, .i j, .r o, .mi M, .mb B, .r l] => some (n, m, len, j, o, M, B, l) | _ => none
def nxM (l : Row) (j : Nat) (a : Row × (ByteArray → Int)) : Row × (ByteArray → Int) := bif newB (l.I j 0) then (pushN a.1 ((l.R j 1).S 0 0) (l.I j 0), updI a.2 ((l.R j 1).S 0 0) (l.I j 0)) else a
noncomputable def l14 : RunL (Nat × Nat × Int × Int × Row × (ByteArray → Int) × (ByteArray → Bool) × Row) (Row × (ByteArray → Int)) where
  f := 34
  id := 6
  lv := [4, 5, 15, 16, 17, 900004]
  lx := [2, 3, 4]
  p := p14
  dat := d14
  S := fun (n, m, len, j, o, M, B, l) i a => [.n a.1.n, .n l.n, .i l.n, .i i, .r a.1, .mi a.2, .mb B, .r l]
  len := fun (n, m, len, j, o, M, B, l) => l.n
  cnd := fun (n, m, len, j, o, M, B, l) => decide (n = o.n ∧ o.n = 0 ∧ m = l.n) && (zM M && (z3 m len j && okL l))
  ini := fun (n, m, len, j, o, M, B, l) => (o, M)
  stop := fun (n, m, len, j, o, M, B, l) i a => stK l i a.1
  nx := fun (n, m, len, j, o, M, B, l) => nxM l
  Kb := fun (n, m, len, j, o, M, B, l) i a K => K .ret ⟨us 2 ++ [.slice none (0) (0), i64 (erK l i), .slice (some ⟨0, 0, some 0⟩) (a.1.n) (0)] ++ us 58, [[]], [some (.row [.str, .int .u8] true (a.1))]⟩
  Ke := fun (n, m, len, j, o, M, B, l) a K => K (.exit 0) ⟨us 4 ++ [.slice (some ⟨0, 0, some 0⟩) (a.1.n) (0)] ++ us 58, [[]], [some (.row [.str, .int .u8] true (a.1))]⟩
def d15 (its : List It) : Option (Nat × Nat × Int × Row × Row) := match its with | [.n m, .n n, .i j, .r l, .r o] => some (m, n, j, l, o) | _ => none
def l15 : RunL (Nat × Nat × Int × Row × Row) Row where
  f := 40
  id := 3
  lv := [0, 4, 5, 900004]
  lx := [2, 3, 4]
  p := p15
  dat := d15
  S := fun (m, n, j, l, o) i a => [.n l.n, .n a.n, .i i, .r l, .r a]
  len := fun (m, n, j, l, o) => l.n
  cnd := fun (m, n, j, l, o) => decide (n = o.n ∧ o.n = 0 ∧ m = l.n) && (z2 m j && okL l)
  ini := fun (m, n, j, l, o) => o
  stop := fun (m, n, j, l, o) => stK l
  nx := fun (m, n, j, l, o) => nxK l
  Kb := fun (m, n, j, l, o) i a K => K .ret ⟨us 2 ++ [.slice none (0) (0), i64 (erK l i), .slice (some ⟨0, 0, some 0⟩) (a.n) (0)] ++ us 84, [[]], [some (.row [.str, .int .u8] true (a))]⟩
  Ke := fun (m, n, j, l, o) a K => K (.exit 0) ⟨us 4 ++ [.slice (some ⟨0, 0, some 0⟩) (a.n) (0)] ++ us 84, [[]], [some (.row [.str, .int .u8] true (a))]⟩
noncomputable def C14 : Cx := mkCx Tryd.prog fns [(46, Fvalid), (37, Fwords)] [l14.C, l14i.C]
noncomputable def C15 : Cx := mkCx Tryd.prog fns [(48, Fvalid), (18, Fnew), (19, Ffind), (52, Fnee)] [l15.C, l15i.C]
theorem r14i (R : St → Option (List D)) (K : X → St → Option (List D)) (q n m : Nat) (len j : Int) (a : Nat) (la k : Int) (o : Row) (M : ByteArray → Int) (B : ByteArray → Bool) (w : Int) (a2 b2 : Nat) (s : ByteArray) (x1 x2 x3 x4 : Int) (mk : Bool) (x6 : Int) (l nm nu : Row) : bodyOf C14 34 12 q (Go.Ev.bst p14i [.n n, .n m, .i len, .i j, .n a, .i la, .i k, .r o, .mi M, .mb B, .i w, .n a2, .n b2, .s s, .i x1, .i x2, .i x3, .i x4, .b mk, .i x6, .r l, .r nm, .r nu]) (rnd [4, 5, 7, 8, 15, 16, 17, 31, 32, 33] (some [2, 3, 4, 5, 15, 16, 17]) R K) =
    br (decide (k < la)) (br (decide (0 ≤ k) && decide (k < (↑a : Int))) (br (mk) (br (M (nm.S (0 + k.toNat) 0) != 0) (K .ret ⟨us 2 ++ [.slice none (0) (0), i64 (14), .slice (some ⟨0, 0, some 0⟩) (n) (0), .map (some 1)] ++ us 9 ++ [.slice (some ⟨2, 0, some 0⟩) (m) (0), i64 (len), i64 (j)] ++ us 45, [[]], [some (.row [.str, .int .u8] true (o)), some (.map (.int .u8) (M) (B)), some (.row [.int .u8, .slice [.str], .slice [.int .i64]] false (l))]⟩) (br (decide (n + (winOf (((Row.zeros 1).setS 0 0 (nm.S (0 + k.toNat) 0)).setI 0 1 w) 0 1).n ≤ 10000000000)) (R ⟨us 4 ++ [.slice (some ⟨0, 0, some 0⟩) (n + 1) (0), .map (some 1)] ++ us 1 ++ [.pointer (some ⟨2, 0, some 0⟩), .pointer (some ⟨3, 0, some 0⟩)] ++ us 6 ++ [.slice (some ⟨4, 0, some 0⟩) (m) (0), i64 (len), i64 (j)] ++ us 13 ++ [.slice (some ⟨5, 0, some 0⟩) (a) (0), i64 (la), i64 (IntKind.i64.wrap (k + 1))] ++ us 29, [[]], [some (.row [.str, .int .u8] true ((winOf o 0 n).app (winOf (((Row.zeros 1).setS 0 0 (nm.S (0 + k.toNat) 0)).setI 0 1 w) 0 1))), some (.map (.int .u8) (updI M (nm.S (0 + k.toNat) 0) w) (B)), some (.box [.int .u8 (w), .slice (some ⟨5, 0, some 0⟩) (a2) (0), .slice (some ⟨6, 0, some 0⟩) (b2) (0)]), some (.box [.string (s), i64 (x1), i64 (x2), i64 (x3), i64 (x4), .bool (mk), .int .u8 (x6)]), some (.row [.int .u8, .slice [.str], .slice [.int .i64]] false (l)), some (.row [.str] false (nm)), some (.row [.int .i64] false (nu))]⟩) (none))) (br (M (nm.S (0 + k.toNat) 0) != x6) (K .ret ⟨us 2 ++ [.slice none (0) (0), i64 (6), .slice (some ⟨0, 0, some 0⟩) (n) (0), .map (some 1)] ++ us 9 ++ [.slice (some ⟨2, 0, some 0⟩) (m) (0), i64 (len), i64 (j)] ++ us 45, [[]], [some (.row [.str, .int .u8] true (o)), some (.map (.int .u8) (M) (B)), some (.row [.int .u8, .slice [.str], .slice [.int .i64]] false (l))]⟩) (R ⟨us 4 ++ [.slice (some ⟨0, 0, some 0⟩) (n) (0), .map (some 1)] ++ us 1 ++ [.pointer (some ⟨2, 0, some 0⟩), .pointer (some ⟨3, 0, some 0⟩)] ++ us 6 ++ [.slice (some ⟨4, 0, some 0⟩) (m) (0), i64 (len), i64 (j)] ++ us 13 ++ [.slice (some ⟨5, 0, some 0⟩) (a) (0), i64 (la), i64 (IntKind.i64.wrap (k + 1))] ++ us 29, [[]], [some (.row [.str, .int .u8] true (o)), some (.map (.int .u8) (M) (B)), some (.box [.int .u8 (w), .slice (some ⟨5, 0, some 0⟩) (a2) (0), .slice (some ⟨6, 0, some 0⟩) (b2) (0)]), some (.box [.string (s), i64 (x1), i64 (x2), i64 (x3), i64 (x4), .bool (mk), .int .u8 (x6)]), some (.row [.int .u8, .slice [.str], .slice [.int .i64]] false (l)), some (.row [.str] false (nm)), some (.row [.int .i64] false (nu))]⟩))) (none)) (K (.exit 2) ⟨us 4 ++ [.slice (some ⟨0, 0, some 0⟩) (n) (0), .map (some 1)] ++ us 9 ++ [.slice (some ⟨2, 0, some 0⟩) (m) (0), i64 (len), i64 (j)] ++ us 45, [[]], [some (.row [.str, .int .u8] true (o)), some (.map (.int .u8) (M) (B)), some (.row [.int .u8, .slice [.str], .slice [.int .i64]] false (l))]⟩) := by kernel_rfl
theorem r15i (R : St → Option (List D)) (K : X → St → Option (List D)) (q n m : Nat) (j k : Int) (l o : Row) : bodyOf C15 40 12 q (Go.Ev.bst p15i [.n m, .n n, .i j, .i k, .r l, .r o]) (rnd [0, 4, 5, 6] (some [0, 2, 3, 4, 5]) R K) =
    br (decide (0 ≤ j) && decide (j < (↑m : Int))) (br (decide (k < (↑(l.R (0 + j.toNat) 1).n : Int))) (br (decide (0 ≤ j) && decide (j < (↑m : Int))) (br (decide (0 ≤ k) && decide (k < (↑(l.R (0 + j.toNat) 1).n : Int))) (br (decide ((winOf o 0 n).n ≤ 1000000)) (br (decide (fdI (winOf o 0 n) ((l.R (0 + j.toNat) 1).S (0 + k.toNat) 0) < 0)) (K .ret ⟨[.slice (some ⟨0, 0, some 0⟩) (m) (0)] ++ us 1 ++ [.slice none (0) (0), i64 (6), .slice (some ⟨1, 0, some 0⟩) (n) (0), i64 (j)] ++ us 83, [[]], [some (.row [.int .u8, .slice [.str], .slice [.int .i64]] false (l)), some (.row [.str, .int .u8] true (o))]⟩) (br (decide (0 ≤ fdI (winOf o 0 n) ((l.R (0 + j.toNat) 1).S (0 + k.toNat) 0)) && decide (fdI (winOf o 0 n) ((l.R (0 + j.toNat) 1).S (0 + k.toNat) 0) < (↑n : Int))) (br (decide (0 ≤ j) && decide (j < (↑m : Int))) (br (o.I (0 + (fdI (winOf o 0 n) ((l.R (0 + j.toNat) 1).S (0 + k.toNat) 0)).toNat) 1 != neeI (l.I (0 + j.toNat) 0)) (K .ret ⟨[.slice (some ⟨0, 0, some 0⟩) (m) (0)] ++ us 1 ++ [.slice none (0) (0), i64 (6), .slice (some ⟨1, 0, some 0⟩) (n) (0), i64 (j)] ++ us 83, [[]], [some (.row [.int .u8, .slice [.str], .slice [.int .i64]] false (l)), some (.row [.str, .int .u8] true (o))]⟩) (R ⟨[.slice (some ⟨0, 0, some 0⟩) (m) (0)] ++ us 3 ++ [.slice (some ⟨1, 0, some 0⟩) (n) (0), i64 (j), i64 (IntKind.i64.wrap (k + 1))] ++ us 82, [[]], [some (.row [.int .u8, .slice [.str], .slice [.int .i64]] false (l)), some (.row [.str, .int .u8] true (o))]⟩)) (none)) (none))) (none)) (none)) (none)) (K (.exit 2) ⟨[.slice (some ⟨0, 0, some 0⟩) (m) (0)] ++ us 3 ++ [.slice (some ⟨1, 0, some 0⟩) (n) (0), i64 (j)] ++ us 83, [[]], [some (.row [.int .u8, .slice [.str], .slice [.int .i64]] false (l)), some (.row [.str, .int .u8] true (o))]⟩)) (none) := by kernel_rfl
/-- What the inner loop comes to. -/
def inR (nm : Row) (nw : Bool) (x6 w : Int) (o : Row) (M : ByteArray → Int) : Bool × Nat × (Row × (ByteArray → Int)) := runS (stI nm nw x6) (nxI nm nw w) nm.n 0 (o, M)
theorem r14 (R : St → Option (List D)) (K : X → St → Option (List D)) (q n m : Nat) (len j : Int) (o l : Row) (M : ByteArray → Int) (B : ByteArray → Bool) : bodyOf C14 34 6 q (Go.Ev.bst p14 [.n n, .n m, .i len, .i j, .r o, .mi M, .mb B, .r l]) (rnd [4, 5, 15, 16, 17, 900004] (some [2, 3, 4]) R K) =
    br (decide (j < len)) (br (decide (0 ≤ j) && decide (j < (↑m : Int))) (br (lnB l (0 + j.toNat)) (br (!vaL l (0 + j.toNat)) (K .ret ⟨us 2 ++ [.slice none (0) (0), i64 (8), .slice (some ⟨0, 0, some 0⟩) (n) (0)] ++ us 58, [[]], [some (.row [.str, .int .u8] true (o))]⟩) (br (decide (0 ≤ IntKind.u8.wrap (l.I (0 + j.toNat) 0 - 1)) && decide (IntKind.u8.wrap (l.I (0 + j.toNat) 0 - 1) < (↑Wt.n : Int))) (br (decide (n = o.n ∧ o.n ≤ 1000000) && z3 (l.R (0 + j.toNat) 1).n (↑(l.R (0 + j.toNat) 1).n : Int) 0)
      (br (inR (l.R (0 + j.toNat) 1) (Wt.B (0 + (IntKind.u8.wrap (l.I (0 + j.toNat) 0 - 1)).toNat) 5) (Wt.I (0 + (IntKind.u8.wrap (l.I (0 + j.toNat) 0 - 1)).toNat) 6) (l.I (0 + j.toNat) 0) o M).1
        (K .ret ⟨us 2 ++ [.slice none (0) (0), i64 (bif Wt.B (0 + (IntKind.u8.wrap (l.I (0 + j.toNat) 0 - 1)).toNat) 5 then 14 else 6), .slice (some ⟨0, 0, some 0⟩) ((inR (l.R (0 + j.toNat) 1) (Wt.B (0 + (IntKind.u8.wrap (l.I (0 + j.toNat) 0 - 1)).toNat) 5) (Wt.I (0 + (IntKind.u8.wrap (l.I (0 + j.toNat) 0 - 1)).toNat) 6) (l.I (0 + j.toNat) 0) o M).2.2.1.n) (0)] ++ us 58, [[]], [some (.row [.str, .int .u8] true ((inR (l.R (0 + j.toNat) 1) (Wt.B (0 + (IntKind.u8.wrap (l.I (0 + j.toNat) 0 - 1)).toNat) 5) (Wt.I (0 + (IntKind.u8.wrap (l.I (0 + j.toNat) 0 - 1)).toNat) 6) (l.I (0 + j.toNat) 0) o M).2.2.1))]⟩)
        (R ⟨us 4 ++ [.slice (some ⟨0, 0, some 0⟩) ((inR (l.R (0 + j.toNat) 1) (Wt.B (0 + (IntKind.u8.wrap (l.I (0 + j.toNat) 0 - 1)).toNat) 5) (Wt.I (0 + (IntKind.u8.wrap (l.I (0 + j.toNat) 0 - 1)).toNat) 6) (l.I (0 + j.toNat) 0) o M).2.2.1.n) (0), .map (some 1)] ++ us 9 ++ [.slice (some ⟨2, 0, some 0⟩) (m) (0), i64 (len), i64 (IntKind.i64.wrap (j + 1))] ++ us 45, [[]], [some (.row [.str, .int .u8] true ((inR (l.R (0 + j.toNat) 1) (Wt.B (0 + (IntKind.u8.wrap (l.I (0 + j.toNat) 0 - 1)).toNat) 5) (Wt.I (0 + (IntKind.u8.wrap (l.I (0 + j.toNat) 0 - 1)).toNat) 6) (l.I (0 + j.toNat) 0) o M).2.2.1)), some (.map (.int .u8) ((inR (l.R (0 + j.toNat) 1) (Wt.B (0 + (IntKind.u8.wrap (l.I (0 + j.toNat) 0 - 1)).toNat) 5) (Wt.I (0 + (IntKind.u8.wrap (l.I (0 + j.toNat) 0 - 1)).toNat) 6) (l.I (0 + j.toNat) 0) o M).2.2.2) (B)), some (.row [.int .u8, .slice [.str], .slice [.int .i64]] false (l))]⟩)) (none)) (none))) (none)) (none)) (K (.exit 0) ⟨us 4 ++ [.slice (some ⟨0, 0, some 0⟩) (n) (0)] ++ us 58, [[]], [some (.row [.str, .int .u8] true (o))]⟩) := by kernel_rfl
theorem r15 (R : St → Option (List D)) (K : X → St → Option (List D)) (q n m : Nat) (j : Int) (l o : Row) : bodyOf C15 40 3 q (Go.Ev.bst p15 [.n m, .n n, .i j, .r l, .r o]) (rnd [0, 4, 5, 900004] (some [2, 3, 4]) R K) =
    br (decide (j < (↑m : Int))) (br (decide (0 ≤ j) && decide (j < (↑m : Int))) (br (smN (winOf (l.R (0 + j.toNat) 1) 0 (l.R (0 + j.toNat) 1).n) (winOf (l.R (0 + j.toNat) 1) 0 (l.R (0 + j.toNat) 1).n).n && decide ((winOf (l.R (0 + j.toNat) (0 + 1 + 1)) 0 (l.R (0 + j.toNat) (0 + 1 + 1)).n).n ≤ 1000000)) (br (!vaB (l.I (0 + j.toNat) 0) (winOf (l.R (0 + j.toNat) 1) 0 (l.R (0 + j.toNat) 1).n) (winOf (l.R (0 + j.toNat) 2) 0 (l.R (0 + j.toNat) 2).n)) (K .ret ⟨us 2 ++ [.slice none (0) (0), i64 (8), .slice (some ⟨0, 0, some 0⟩) (n) (0)] ++ us 84, [[]], [some (.row [.str, .int .u8] true (o))]⟩) (br (decide (0 ≤ j) && decide (j < (↑m : Int))) (br (newB (l.I (0 + j.toNat) 0)) (br (decide (0 ≤ j) && decide (j < (↑m : Int))) (br (decide (0 ≤ 0) && decide (0 < (↑(l.R (0 + j.toNat) 1).n : Int))) (br (decide ((winOf o 0 n).n ≤ 1000000)) (br (decide (fdI (winOf o 0 n) ((l.R (0 + j.toNat) 1).S (0 + 0) 0) ≥ 0)) (K .ret ⟨us 2 ++ [.slice none (0) (0), i64 (14), .slice (some ⟨0, 0, some 0⟩) (n) (0)] ++ us 84, [[]], [some (.row [.str, .int .u8] true (o))]⟩) (br (decide (0 ≤ j) && decide (j < (↑m : Int))) (br (decide (0 ≤ 0) && decide (0 < (↑(l.R (0 + j.toNat) 1).n : Int))) (br (decide (0 ≤ j) && decide (j < (↑m : Int))) (br (decide (n + (winOf (((Row.zeros 1).setS 0 0 ((l.R (0 + j.toNat) 1).S (0 + 0) 0)).setI 0 1 (l.I (0 + j.toNat) 0)) 0 1).n ≤ 10000000000)) (R ⟨[.slice (some ⟨0, 0, some 0⟩) (m) (0)] ++ us 3 ++ [.slice (some ⟨1, 0, some 0⟩) (n + 1) (0), i64 (IntKind.i64.wrap (j + 1))] ++ us 83, [[]], [some (.row [.int .u8, .slice [.str], .slice [.int .i64]] false (l)), some (.row [.str, .int .u8] true ((winOf o 0 n).app (winOf (((Row.zeros 1).setS 0 0 ((l.R (0 + j.toNat) 1).S 0 0)).setI 0 1 (l.I (0 + j.toNat) 0)) 0 1)))]⟩) (none)) (none)) (none)) (none))) (none)) (none)) (none)) (br (decide (n = o.n ∧ o.n ≤ 1000000) && (decide (0 ≤ j ∧ j < (↑m : Int)) && z2 (l.R j.toNat 1).n 0)) (br (anyF (badK l o j.toNat) (l.R j.toNat 1).n 0) (K .ret ⟨us 2 ++ [.slice none (0) (0), i64 (6), .slice (some ⟨0, 0, some 0⟩) (n) (0)] ++ us 84, [[]], [some (.row [.str, .int .u8] true (o))]⟩) (R ⟨[.slice (some ⟨0, 0, some 0⟩) (m) (0)] ++ us 3 ++ [.slice (some ⟨1, 0, some 0⟩) (n) (0), i64 (IntKind.i64.wrap (j + 1))] ++ us 83, [[]], [some (.row [.int .u8, .slice [.str], .slice [.int .i64]] false (l)), some (.row [.str, .int .u8] true (o))]⟩)) (none))) (none))) (none)) (none)) (K (.exit 0) ⟨us 4 ++ [.slice (some ⟨0, 0, some 0⟩) (n) (0)] ++ us 84, [[]], [some (.row [.str, .int .u8] true (o))]⟩) := by kernel_rfl
theorem t14 (l : Row) : evF C14 6 34 [.slice ksL l] =
    br (decide ((↑l.n : Int) > 200)) (some [.slice [.str, .int .u8] (Row.nil), .v (i64 (4))]) (br (decide (0 = Row.nil.n ∧ Row.nil.n = 0 ∧ l.n = l.n) && ((zM fun x => 0) && (z3 l.n (↑l.n : Int) 0 && okL l))) (br ((runS (l14.stop (0, l.n, (↑l.n : Int), 0, Row.nil, fun x => 0, fun x => false, l)) (l14.nx (0, l.n, (↑l.n : Int), 0, Row.nil, fun x => 0, fun x => false, l)) (l14.len (0, l.n, (↑l.n : Int), 0, Row.nil, fun x => 0, fun x => false, l)) 0 (l14.ini (0, l.n, (↑l.n : Int), 0, Row.nil, fun x => 0, fun x => false, l))).1) (some [.slice [.str, .int .u8] (Row.nil), .v (i64 (erK l (runS (l14.stop (0, l.n, (↑l.n : Int), 0, Row.nil, fun x => 0, fun x => false, l)) (l14.nx (0, l.n, (↑l.n : Int), 0, Row.nil, fun x => 0, fun x => false, l)) (l14.len (0, l.n, (↑l.n : Int), 0, Row.nil, fun x => 0, fun x => false, l)) 0 (l14.ini (0, l.n, (↑l.n : Int), 0, Row.nil, fun x => 0, fun x => false, l))).snd.1))]) (some [.slice [.str, .int .u8] (winOf (runS (l14.stop (0, l.n, (↑l.n : Int), 0, Row.nil, fun x => 0, fun x => false, l)) (l14.nx (0, l.n, (↑l.n : Int), 0, Row.nil, fun x => 0, fun x => false, l)) (l14.len (0, l.n, (↑l.n : Int), 0, Row.nil, fun x => 0, fun x => false, l)) 0 (l14.ini (0, l.n, (↑l.n : Int), 0, Row.nil, fun x => 0, fun x => false, l))).snd.snd.1 0 (runS (l14.stop (0, l.n, (↑l.n : Int), 0, Row.nil, fun x => 0, fun x => false, l)) (l14.nx (0, l.n, (↑l.n : Int), 0, Row.nil, fun x => 0, fun x => false, l)) (l14.len (0, l.n, (↑l.n : Int), 0, Row.nil, fun x => 0, fun x => false, l)) 0 (l14.ini (0, l.n, (↑l.n : Int), 0, Row.nil, fun x => 0, fun x => false, l))).snd.snd.1.n), .v (i64 (0))])) (none)) := by kernel_rfl
theorem t15 (l : Row) : evF C15 6 40 [.slice ksL l] =
    br (decide (0 = Row.nil.n ∧ Row.nil.n = 0 ∧ l.n = l.n) && (z2 l.n 0 && okL l)) (br ((runS (l15.stop (l.n, 0, 0, l, Row.nil)) (l15.nx (l.n, 0, 0, l, Row.nil)) (l15.len (l.n, 0, 0, l, Row.nil)) 0 (l15.ini (l.n, 0, 0, l, Row.nil))).1) (some [.slice [.str, .int .u8] (Row.nil), .v (i64 (erK l (runS (l15.stop (l.n, 0, 0, l, Row.nil)) (l15.nx (l.n, 0, 0, l, Row.nil)) (l15.len (l.n, 0, 0, l, Row.nil)) 0 (l15.ini (l.n, 0, 0, l, Row.nil))).snd.1))]) (some [.slice [.str, .int .u8] (winOf (runS (l15.stop (l.n, 0, 0, l, Row.nil)) (l15.nx (l.n, 0, 0, l, Row.nil)) (l15.len (l.n, 0, 0, l, Row.nil)) 0 (l15.ini (l.n, 0, 0, l, Row.nil))).snd.2 0 (runS (l15.stop (l.n, 0, 0, l, Row.nil)) (l15.nx (l.n, 0, 0, l, Row.nil)) (l15.len (l.n, 0, 0, l, Row.nil)) 0 (l15.ini (l.n, 0, 0, l, Row.nil))).snd.2.n), .v (i64 (0))])) (none) := by kernel_rfl
theorem pn_n (o : Row) (s : ByteArray) (w : Int) : (pushN o s w).n = o.n + 1 := rfl
theorem pn_S (o : Row) (s : ByteArray) (w : Int) {i : Nat} (h : i < o.n) : (pushN o s w).S i 0 = o.S i 0 := by
  show (bif Nat.blt i o.n then o.S i 0 else _) = _
  rw [show Nat.blt i o.n = true by rw [Nat.blt_eq]; exact h]; rfl
theorem pn_I (o : Row) (s : ByteArray) (w : Int) {i : Nat} (h : i < o.n) : (pushN o s w).I i 1 = o.I i 1 := by
  show (bif Nat.blt i o.n then o.I i 1 else _) = _
  rw [show Nat.blt i o.n = true by rw [Nat.blt_eq]; exact h]; rfl
theorem blt_n (n : Nat) : Nat.blt n n = false := by
  cases h : Nat.blt n n
  · rfl
  · rw [Nat.blt_eq] at h; omega
theorem pn_Sn (o : Row) (s : ByteArray) (w : Int) : (pushN o s w).S o.n 0 = s := by
  show (bif Nat.blt o.n o.n then o.S o.n 0 else (winOf (((Row.zeros 1).setS 0 0 s).setI 0 1 w) 0 1).S (o.n - o.n) 0) = _
  rw [blt_n, Nat.sub_self]; rfl
theorem pn_In (o : Row) (s : ByteArray) (w : Int) : (pushN o s w).I o.n 1 = w := by
  show (bif Nat.blt o.n o.n then o.I o.n 1 else (winOf (((Row.zeros 1).setS 0 0 s).setI 0 1 w) 0 1).I (o.n - o.n) 1) = _
  rw [blt_n, Nat.sub_self]; rfl
theorem fd_char (o : Row) (s : ByteArray) : (∃ i, i < o.n ∧ o.S i 0 = s ∧ (∀ i', i' < i → o.S i' 0 ≠ s) ∧ fdI o s = (i : Int) ∧ wdI o s = o.I i 1) ∨ ((∀ i, i < o.n → o.S i 0 ≠ s) ∧ fdI o s = -1 ∧ wdI o s = 0) := by
  unfold fdI wdI
  cases h : anyF (eqN o s) o.n 0
  · right
    rw [anyF_false] at h
    exact ⟨fun i hi he => (by have := h i (by omega) (by omega); rw [eqN, eqS_iff.2 he] at this; cases this), rfl, rfl⟩
  · left
    obtain ⟨h1, h2, h3⟩ := fstF_any _ _ _ h
    refine ⟨fstF (eqN o s) o.n 0, by omega, eqS_iff.1 h2, fun i' hi he => ?_, rfl, rfl⟩
    have := h3 i' (by omega) hi
    rw [eqN, eqS_iff.2 he] at this; cases this
theorem fd_at {o : Row} {s : ByteArray} {i : Nat} (h1 : i < o.n) (h2 : o.S i 0 = s) (h3 : ∀ i', i' < i → o.S i' 0 ≠ s) : fdI o s = (i : Int) ∧ wdI o s = o.I i 1 := by
  rcases fd_char o s with ⟨k, k1, k2, k3, k4, k5⟩ | ⟨k1, _⟩
  · have : k = i := by
      rcases Nat.lt_trichotomy k i with h | h | h
      · exact absurd k2 (h3 k h)
      · exact h
      · exact absurd h2 (k3 i h)
    subst this
    exact ⟨k4, k5⟩
  · exact absurd h2 (k1 i h1)
theorem fd_no {o : Row} {s : ByteArray} (h : ∀ i, i < o.n → o.S i 0 ≠ s) : fdI o s = -1 ∧ wdI o s = 0 := by
  rcases fd_char o s with ⟨k, k1, k2, _⟩ | ⟨_, k⟩
  · exact absurd k2 (h k k1)
  · exact k
theorem wd_push {o : Row} {s : ByteArray} (w : Int) (h : fdI o s < 0) (t : ByteArray) : wdI (pushN o s w) t = updI (wdI o) s w t := by
  have hno : ∀ i, i < o.n → o.S i 0 ≠ s := by
    rcases fd_char o s with ⟨k, k1, k2, k3, k4, k5⟩ | ⟨k, _⟩
    · omega
    · exact k
  unfold updI
  by_cases e : t = s
  · subst e
    rw [show (t.toList == t.toList) = true from (bytesEq_iff t t).2 rfl, cond_true]
    refine (fd_at (i := o.n) (by rw [pn_n]; omega) (pn_Sn o t w) fun i' hi => ?_).2.trans (pn_In o t w)
    rw [pn_S o t w hi]
    exact hno i' hi
  · have hne : (t.toList == s.toList) = false := by
      cases hb : (t.toList == s.toList)
      · rfl
      · exact absurd ((bytesEq_iff t s).1 hb) e
    rw [hne, cond_false]
    rcases fd_char o t with ⟨k, k1, k2, k3, k4, k5⟩ | ⟨k, _, k2⟩
    · rw [k5]
      refine (fd_at (i := k) (by rw [pn_n]; omega) ((pn_S o s w k1).trans k2) fun i' hi => ?_).2.trans (pn_I o s w k1)
      rw [pn_S o s w (by omega)]
      exact k3 i' hi
    · rw [k2]
      refine (fd_no fun i hi => ?_).2
      rw [pn_n] at hi
      by_cases e2 : i < o.n
      · rw [pn_S o s w e2]; exact k i e2
      · rw [show i = o.n by omega, pn_Sn]; exact fun h => e h.symm
/-- What is known: each name with a word that is none of the words' 0. -/
def InvK (j : Nat) (o : Row) : Prop := o.n ≤ j ∧ ∀ i, i < o.n → 1 ≤ o.I i 1
theorem InvK.push {j : Nat} {o : Row} (h : InvK j o) (s : ByteArray) {w : Int} (hw : 1 ≤ w) : InvK (j + 1) (pushN o s w) := by
  refine ⟨by rw [pn_n]; have := h.1; omega, fun i hi => ?_⟩
  rw [pn_n] at hi
  by_cases e2 : i < o.n
  · rw [pn_I o s w e2]; exact h.2 i e2
  · rw [show i = o.n by omega, pn_In]; exact hw
theorem InvK.next {j : Nat} {o : Row} (h : InvK j o) : InvK (j + 1) o := ⟨by have := h.1; omega, h.2⟩
theorem mis_M {j : Nat} {o : Row} (s : ByteArray) {x : Int} (hx : 1 ≤ x) : misB o s x = (wdI o s != x) := by
  unfold misB
  rcases fd_char o s with ⟨k, k1, k2, k3, k4, k5⟩ | ⟨k, k1, k2⟩
  · rw [k4, k5, decide_eq_false (by omega), Int.toNat_natCast]; rfl
  · rw [k1, k2, decide_eq_true (by omega), Bool.true_or]
    exact (bne_iff_ne.2 (by omega)).symm
theorem new_M {j : Nat} {o : Row} (h : InvK j o) (s : ByteArray) : (wdI o s != 0) = !decide (fdI o s < 0) := by
  rcases fd_char o s with ⟨k, k1, k2, k3, k4, k5⟩ | ⟨k, k1, k2⟩
  · rw [k4, k5, decide_eq_false (by omega)]
    exact bne_iff_ne.2 (by have := h.2 k k1; omega)
  · rw [k1, k2, decide_eq_true (by omega)]; rfl
theorem va_word {l : Row} {j : Nat} (h : vaL l j = true) : (1 ≤ l.I j 0 ∧ l.I j 0 ≤ 10) ∧ (newB (l.I j 0) = true → (l.R j 1).n = 1) := by
  unfold vaL vaB at h
  simp only [Bool.and_eq_true, decide_eq_true_eq] at h
  obtain ⟨hw, hr, _⟩ := h
  refine ⟨hw, fun hn => ?_⟩
  have hr := ranB_iff.1 hr
  have : l.I j 0 = 1 ∨ l.I j 0 = 2 ∨ l.I j 0 = 3 ∨ l.I j 0 = 4 ∨ l.I j 0 = 5 ∨ l.I j 0 = 6 ∨ l.I j 0 = 7 ∨ l.I j 0 = 8 ∨ l.I j 0 = 9 ∨ l.I j 0 = 10 := by omega
  rcases this with e | e | e | e | e | e | e | e | e | e <;> rw [e] at hr hn <;> first
    | exact absurd hn (by decide)
    | (have h1 := hr.1; have h2 := hr.2.1
       first
         | (replace h1 : (1 : Int) ≤ ((l.R j 1).n : Int) := h1
            replace h2 : ((l.R j 1).n : Int) ≤ (1 : Int) := h2
            omega))
theorem nee_pos (w : Int) : 1 ≤ neeI w := by
  unfold neeI pick pick pick pick
  cases w == 7 <;> cases w == 9 <;> cases w == 10 <;> simp
theorem runS_id {β : Type} {stop : Nat → β → Bool} {nx : Nat → β → β} (hn : ∀ j a, nx j a = a) : ∀ (m j : Nat) (a : β), (runS stop nx m j a).1 = anyF (fun j => stop j a) m j ∧ (runS stop nx m j a).2.2 = a
  | 0, j, a => ⟨rfl, rfl⟩
  | m + 1, j, a => by
    unfold anyF
    cases h : stop j a
    · rw [runS_s h, hn j a, Bool.false_or]
      exact runS_id hn m (j + 1) a
    · rw [runS_t h]
      exact ⟨rfl, rfl⟩
theorem in_new {nm : Row} (h : nm.n = 1) (x6 w : Int) (o : Row) (M : ByteArray → Int) : inR nm true x6 w o M = bif M (nm.S 0 0) != 0 then (true, 0, (o, M)) else (false, 1, (pushN o (nm.S 0 0) w, updI M (nm.S 0 0) w)) := by
  unfold inR
  rw [h]
  rfl
theorem in_old (nm : Row) (x6 w : Int) (o : Row) (M : ByteArray → Int) : (inR nm false x6 w o M).1 = anyF (fun k => M (nm.S k 0) != x6) nm.n 0 ∧ (inR nm false x6 w o M).2.2 = (o, M) := runS_id (fun _ _ => rfl) _ _ _
theorem ok14i : LoopOk C14 l14i.C := l14i.ok (fun _ k a => a.1.n ≤ 1000000 + k) (by kernel_rfl)
  (fun its x h hc => by
    replace h : d14i its = some x := h
    unfold d14i at h
    split at h
    · cases h
      have hc := Bool.and_eq_true_iff.1 hc
      obtain ⟨h1, h2⟩ := of_decide_eq_true hc.1
      obtain ⟨h3, h4, h5⟩ := z3_iff.1 hc.2
      dsimp only at h1 h2 h3 h4 h5
      subst h1 h3 h4
      rfl
    · cases h)
  (fun x hc => by have := (z3_iff.1 (Bool.and_eq_true_iff.1 hc).2).2.2; show x.a < 18446744073709551616; omega)
  (fun x hc => (of_decide_eq_true (Bool.and_eq_true_iff.1 hc).1).2)
  (fun x k a hc hk hI hs => by
    show (nxI x.nm x.nw x.w k a).1.n ≤ _
    unfold nxI
    cases x.nw
    · show a.1.n ≤ _; omega
    · show a.1.n + 1 ≤ _; omega)
  (fun q ⟨n, m, len, j, a, la, k, o, M, B, w, a2, b2, s, x1, x2, x3, x4, nw, x6, l, nm, nu⟩ i t hc hi hI R K => by
    obtain ⟨h3, h4, h5⟩ := z3_iff.1 (Bool.and_eq_true_iff.1 hc).2
    replace hi : i < a := hi
    dsimp only at h3 h4 h5
    refine (r14i R K q t.1.n m len j a a i t.1 t.2 B w a2 b2 s x1 x2 x3 x4 nw x6 l nm nu).trans ?_
    rw [gd i a hi, ltd i a hi, wsn (by omega), Int.toNat_natCast, Nat.zero_add]
    rw [show decide (t.1.n + (winOf (((Row.zeros 1).setS 0 0 (nm.S i 0)).setI 0 1 w) 0 1).n ≤ 10000000000) = true from decide_eq_true (show t.1.n + 1 ≤ 10000000000 by omega)]
    cases nw
    · rfl
    · rfl)
  (fun q ⟨n, m, len, j, a, la, k, o, M, B, w, a2, b2, s, x1, x2, x3, x4, nw, x6, l, nm, nu⟩ t hc hI R K => by
    refine (r14i R K q t.1.n m len j a a a t.1 t.2 B w a2 b2 s x1 x2 x3 x4 nw x6 l nm nu).trans ?_
    rw [ltn a]
    rfl)
theorem lb_valid {l : Row} {i : Nat} (h : okL l = true) (hi : i < l.n) : lnB l i = true := (okL_iff.1 h).2 i hi
theorem lb_names {l : Row} {i : Nat} (h : okL l = true) (hi : i < l.n) : (l.R i 1).n ≤ 1000000 := by
  have := lb_valid h hi
  unfold lnB at this
  exact (smN_iff.1 (Bool.and_eq_true_iff.1 this).1).1
theorem nxM_1 (l : Row) (j : Nat) (a : Row × (ByteArray → Int)) : (nxM l j a).1 = nxK l j a.1 := by
  unfold nxM nxK
  cases newB (l.I j 0) <;> rfl
theorem stK_va {l : Row} {j : Nat} {o : Row} (h : stK l j o = false) : vaL l j = true := by
  unfold stK at h
  cases hv : vaL l j
  · rw [hv] at h; cases h
  · rfl
theorem InvK.nx {l : Row} {j : Nat} {o : Row} (h : InvK j o) (hs : stK l j o = false) : InvK (j + 1) (nxK l j o) := by
  have hv := va_word (stK_va hs)
  unfold nxK
  cases newB (l.I j 0)
  · exact h.next
  · exact h.push _ hv.1.1
theorem InvM.nx {l : Row} {j : Nat} {a : Row × (ByteArray → Int)} (h : ∀ s, a.2 s = wdI a.1 s) (hs : stK l j a.1 = false) (s : ByteArray) : (nxM l j a).2 s = wdI (nxM l j a).1 s := by
  have hv := stK_va hs
  unfold stK at hs
  rw [hv] at hs
  unfold nxM
  cases hn : newB (l.I j 0)
  · exact h s
  · rw [hn] at hs
    have hf : fdI a.1 ((l.R j 1).S 0 0) < 0 := by
      cases hd : decide (fdI a.1 ((l.R j 1).S 0 0) < 0)
      · rw [hd] at hs; cases hs
      · exact of_decide_eq_true hd
    show updI a.2 _ _ s = wdI (pushN a.1 _ _) s
    rw [wd_push _ hf, show a.2 = wdI a.1 from funext h]
theorem ok14 : LoopOk C14 l14.C := l14.ok (fun _ j a => InvK j a.1 ∧ ∀ s, a.2 s = wdI a.1 s) (by kernel_rfl)
  (fun its x h hc => by
    replace h : d14 its = some x := h
    unfold d14 at h
    split at h
    · cases h
      have hc := Bool.and_eq_true_iff.1 hc
      obtain ⟨h1, h2, h6⟩ := of_decide_eq_true hc.1
      obtain ⟨h3, h4, h5⟩ := z3_iff.1 (Bool.and_eq_true_iff.1 (Bool.and_eq_true_iff.1 hc.2).2).1
      subst h1 h6 h3 h4
      rfl
    · cases h)
  (fun ⟨n, m, len, j, o, M, B, l⟩ hc => by
    have hc := Bool.and_eq_true_iff.1 hc
    have h1 := (of_decide_eq_true hc.1).2.2
    have := (z3_iff.1 (Bool.and_eq_true_iff.1 (Bool.and_eq_true_iff.1 hc.2).2).1).2.2
    show l.n < 18446744073709551616; omega)
  (fun ⟨n, m, len, j, o, M, B, l⟩ hc => by
    have hc := Bool.and_eq_true_iff.1 hc
    have h1 := (of_decide_eq_true hc.1).2.1
    have h2 := zM_iff.1 (Bool.and_eq_true_iff.1 hc.2).1
    refine ⟨⟨by show o.n ≤ 0; omega, fun i hi => by have hi : i < o.n := hi; omega⟩, fun s => ?_⟩
    show M s = wdI o s
    rw [h2 s, (fd_no (o := o) (s := s) (fun i hi => by omega)).2])
  (fun ⟨n, m, len, j, o, M, B, l⟩ i a hc hi hI hs => by
    refine ⟨?_, InvM.nx hI.2 hs⟩
    show InvK (i + 1) (nxM l i a).1
    rw [nxM_1]
    exact hI.1.nx hs)
  (fun q ⟨n, m, len, j, o, M, B, l⟩ i a hc hi hI R K => by
    have hc := Bool.and_eq_true_iff.1 hc
    have h1 := (of_decide_eq_true hc.1).2.2
    have h2 := Bool.and_eq_true_iff.1 (Bool.and_eq_true_iff.1 hc.2).2
    have h3 := (z3_iff.1 h2.1).2.2
    have h4 := h2.2
    replace hi : i < l.n := hi
    refine (r14 R K q a.1.n l.n l.n i a.1 l a.2 B).trans ?_
    rw [gd i l.n hi, ltd i l.n hi, wsn (by omega), Int.toNat_natCast, Nat.zero_add, lb_valid h4 hi]
    show br (!vaL l i) _ _ = br (stK l i a.1) (l14.Kb (n, m, len, j, o, M, B, l) i a K) (R (Go.Ev.bst p14 (l14.S (n, m, len, j, o, M, B, l) (i + 1) (nxM l i a))))
    unfold stK
    show _ = br _ (K .ret ⟨us 2 ++ [.slice none (0) (0), i64 (erK l i), .slice (some ⟨0, 0, some 0⟩) (a.1.n) (0)] ++ us 58, [[]], [some (.row [.str, .int .u8] true (a.1))]⟩) _
    unfold erK
    cases hv : vaL l i
    · rfl
    · obtain ⟨hw, hn1⟩ := va_word hv
      obtain ⟨w0, w1, w2, w3, w4, w5, w6, _⟩ := Wt_has hw.1 hw.2
      have ew : IntKind.u8.wrap (l.I i 0 - 1) = l.I i 0 - 1 := wrap_id (by simp [Lit.wf, IntKind.min, IntKind.max, IntKind.signed, IntKind.bits]; omega)
      rw [ew, decide_eq_true (show 0 ≤ l.I i 0 - 1 by omega), decide_eq_true (show l.I i 0 - 1 < (Wt.n : Int) by omega), Nat.zero_add, w5, decide_eq_true (show a.1.n = a.1.n ∧ a.1.n ≤ 1000000 from ⟨rfl, by have := hI.1.1; omega⟩), z3_iff.2 ⟨rfl, rfl, lb_names h4 hi⟩]
      cases hn : newB (l.I i 0)
      · obtain ⟨e1, e2⟩ := in_old (l.R i 1) (Wt.I (l.I i 0 - 1).toNat 6) (l.I i 0) a.1 a.2
        rw [e1, e2, w6 hn]
        rw [show anyF (badK l a.1 i) (l.R i 1).n 0 = anyF (fun k => a.2 ((l.R i 1).S k 0) != neeI (l.I i 0)) (l.R i 1).n 0 from congrArg (fun f => anyF f (l.R i 1).n 0) (funext fun k => by unfold badK; rw [mis_M (j := i) _ (nee_pos _), hI.2])]
        unfold nxM
        rw [hn]
        rfl
      · rw [in_new (hn1 hn), ← new_M hI.1, ← hI.2]
        unfold nxM
        rw [hn]
        cases (a.2 ((l.R i 1).S 0 0) != 0) <;> rfl)
  (fun q ⟨n, m, len, j, o, M, B, l⟩ a hc hI R K => by
    refine (r14 R K q a.1.n l.n l.n l.n a.1 l a.2 B).trans ?_
    rw [ltn l.n]
    rfl)
theorem ok15i : LoopOk C15 l15i.C := l15i.ok (by kernel_rfl)
  (fun its x h hc => by
    replace h : d15i its = some x := h
    unfold d15i at h
    split at h
    · cases h
      rename_i m n j k l o
      have hc := Bool.and_eq_true_iff.1 hc
      obtain ⟨h1, h2⟩ := of_decide_eq_true hc.1
      have hc2 := Bool.and_eq_true_iff.1 hc.2
      obtain ⟨h3, h4⟩ := z2_iff.1 hc2.2
      subst h3
      rfl
    · cases h)
  (fun ⟨m, n, j, k, l, o⟩ hc => by
    have hc := Bool.and_eq_true_iff.1 hc
    have := (z2_iff.1 (Bool.and_eq_true_iff.1 hc.2).2).2
    show (l.R j.toNat 1).n < 18446744073709551616; omega)
  (fun q ⟨m, n, j, k, l, o⟩ i hc hi R K => by
    have hc := Bool.and_eq_true_iff.1 hc
    obtain ⟨h1, h2⟩ := of_decide_eq_true hc.1
    have hc2 := Bool.and_eq_true_iff.1 hc.2
    have h3 := of_decide_eq_true hc2.1
    obtain ⟨h4, h5⟩ := z2_iff.1 hc2.2
    replace hi : i < (l.R j.toNat 1).n := hi
    subst h1
    refine (r15i R K q o.n m j i l o).trans ?_
    rw [Nat.zero_add, Int.toNat_natCast, Nat.zero_add, Nat.zero_add, gd i _ hi, ltd i _ hi, wsn (by omega)]
    rw [show (decide (0 ≤ j) && decide (j < (m : Int))) = true by simp only [Bool.and_eq_true, decide_eq_true_eq]; exact h3]
    rw [decide_eq_true (show (winOf o 0 o.n).n ≤ 1000000 from h2)]
    show _ = br (misB o ((l.R j.toNat 1).S i 0) (neeI (l.I j.toNat 0))) _ _
    unfold misB
    show br true (br true (br true (br true (br true (br (decide (fdI o ((l.R j.toNat 1).S i 0) < 0)) _ (br (decide (0 ≤ fdI o ((l.R j.toNat 1).S i 0)) && decide (fdI o ((l.R j.toNat 1).S i 0) < (o.n : Int))) (br true (br (o.I (fdI o ((l.R j.toNat 1).S i 0)).toNat 1 != neeI (l.I j.toNat 0)) _ _) none) none)) _) _) _) _) _ = _
    rcases fd_char o ((l.R j.toNat 1).S i 0) with ⟨k, k1, k2, k3, k4, k5⟩ | ⟨k, k1, k2⟩
    · rw [k4, decide_eq_false (show ¬ ((k : Nat) : Int) < 0 by omega), decide_eq_true (show (0 : Int) ≤ ((k : Nat) : Int) by omega), decide_eq_true (show ((k : Nat) : Int) < (o.n : Int) by omega), Bool.false_or]
      rfl
    · rw [k1]; rfl)
  (fun q ⟨m, n, j, k, l, o⟩ hc R K => by
    have hc := Bool.and_eq_true_iff.1 hc
    have hc2 := Bool.and_eq_true_iff.1 hc.2
    have h3 := of_decide_eq_true hc2.1
    refine (r15i R K q n m j (l.R j.toNat 1).n l o).trans ?_
    rw [Nat.zero_add, show (decide (0 ≤ j) && decide (j < (m : Int))) = true by simp only [Bool.and_eq_true, decide_eq_true_eq]; exact h3, ltn]
    rfl)
theorem ok15 : LoopOk C15 l15.C := l15.ok (fun _ j a => InvK j a) (by kernel_rfl)
  (fun its x h hc => by
    replace h : d15 its = some x := h
    unfold d15 at h
    split at h
    · cases h
      have hc := Bool.and_eq_true_iff.1 hc
      obtain ⟨h1, h2, h6⟩ := of_decide_eq_true hc.1
      obtain ⟨h3, h4⟩ := z2_iff.1 (Bool.and_eq_true_iff.1 hc.2).1
      subst h1 h6 h3
      rfl
    · cases h)
  (fun ⟨m, n, j, l, o⟩ hc => by
    have hc := Bool.and_eq_true_iff.1 hc
    have h1 := (of_decide_eq_true hc.1).2.2
    have := (z2_iff.1 (Bool.and_eq_true_iff.1 hc.2).1).2
    show l.n < 18446744073709551616; omega)
  (fun ⟨m, n, j, l, o⟩ hc => by
    have hc := Bool.and_eq_true_iff.1 hc
    have h1 := (of_decide_eq_true hc.1).2.1
    exact ⟨by show o.n ≤ 0; omega, fun i hi => by have hi : i < o.n := hi; omega⟩)
  (fun ⟨m, n, j, l, o⟩ i a hc hi hI hs => hI.nx hs)
  (fun q ⟨m, n, j, l, o⟩ i a hc hi hI R K => by
    have hc := Bool.and_eq_true_iff.1 hc
    have h1 := (of_decide_eq_true hc.1).2.2
    have h2 := Bool.and_eq_true_iff.1 hc.2
    have h3 := (z2_iff.1 h2.1).2
    have h4 := h2.2
    replace hi : i < l.n := hi
    have ha := hI.1
    refine (r15 R K q a.n l.n i l a).trans ?_
    rw [gd i l.n hi, ltd i l.n hi, wsn (by omega), Int.toNat_natCast, Nat.zero_add]
    rw [show (smN (winOf (l.R i 1) 0 (l.R i 1).n) (winOf (l.R i 1) 0 (l.R i 1).n).n && decide ((winOf (l.R i (0 + 1 + 1)) 0 (l.R i (0 + 1 + 1)).n).n ≤ 1000000)) = true from lb_valid h4 hi]
    rw [decide_eq_true (show (winOf a 0 a.n).n ≤ 1000000 from (by show a.n ≤ 1000000; omega)), decide_eq_true (show a.n + (winOf (((Row.zeros 1).setS 0 0 ((l.R i 1).S (0 + 0) 0)).setI 0 1 (l.I i 0)) 0 1).n ≤ 10000000000 from (by show a.n + 1 ≤ 10000000000; omega)), decide_eq_true (show a.n = a.n ∧ a.n ≤ 1000000 from ⟨rfl, by omega⟩), decide_eq_true (show 0 ≤ (i : Int) ∧ (i : Int) < (l.n : Int) by omega), z2_iff.2 ⟨rfl, lb_names h4 hi⟩]
    show br true (br true (br true (br (!vaL l i) _ _) _) _) _ = br (stK l i a) (K .ret ⟨us 2 ++ [.slice none (0) (0), i64 (erK l i), .slice (some ⟨0, 0, some 0⟩) (a.n) (0)] ++ us 84, [[]], [some (.row [.str, .int .u8] true (a))]⟩) (R (Go.Ev.bst p15 (l15.S (m, n, j, l, o) (i + 1) (nxK l i a))))
    unfold stK erK nxK
    cases hv : vaL l i
    · rfl
    · obtain ⟨hw, hn1⟩ := va_word hv
      cases hn : newB (l.I i 0)
      · rfl
      · have h1n := hn1 hn
        rw [decide_eq_true (show (0 : Int) < ((l.R i 1).n : Int) by omega)]
        by_cases hf : fdI a ((l.R i 1).S 0 0) < 0
        · rw [decide_eq_true hf]
          show br true (br true (br true (br (decide (fdI a ((l.R i 1).S 0 0) ≥ 0)) _ _) _) _) _ = _
          rw [decide_eq_false (show ¬ fdI a ((l.R i 1).S 0 0) ≥ 0 by omega)]
          rfl
        · rw [decide_eq_false hf]
          show br true (br true (br true (br (decide (fdI a ((l.R i 1).S 0 0) ≥ 0)) _ _) _) _) _ = _
          rw [decide_eq_true (show fdI a ((l.R i 1).S 0 0) ≥ 0 by omega)]
          rfl)
  (fun q ⟨m, n, j, l, o⟩ a hc hI R K => by
    refine (r15 R K q a.n l.n l.n l a).trans ?_
    rw [ltn l.n]
    rfl)
theorem C14_ok : CxOk C14 := mkCx_ok enter mixed (fun p h => by
  simp only [List.mem_cons, List.not_mem_nil, or_false] at h
  rcases h with rfl | rfl
  · exact den_valid
  · exact den_words) (fun l h => by
  simp only [List.mem_cons, List.not_mem_nil, or_false] at h
  rcases h with rfl | rfl
  · exact ok14
  · exact ok14i)
theorem C15_ok : CxOk C15 := mkCx_ok enter mixed (fun p h => by
  simp only [List.mem_cons, List.not_mem_nil, or_false] at h
  rcases h with rfl | rfl | rfl | rfl
  · exact den_Valid
  · exact den_new
  · exact den_find
  · exact den_needs) (fun l h => by
  simp only [List.mem_cons, List.not_mem_nil, or_false] at h
  rcases h with rfl | rfl
  · exact ok15
  · exact ok15i)
/-- The names that become known, and the error. -/
def knO (l : Row) : Row := bif (knR l).1 then .nil else winOf (knR l).2.2 0 (knR l).2.2.n
def knE (l : Row) : Int := bif (knR l).1 then erK l (knR l).2.1 else 0
def Fkn (l : Row) : List D := [.slice [.str, .int .u8] (knO l), .v (i64 (knE l))]
/-- The program's: with the bound on the lines. -/
def naO (l : Row) : Row := bif decide (l.n > 200) then .nil else knO l
def naE (l : Row) : Int := bif decide (l.n > 200) then 4 else knE l
def Fknown : List D → Option (Bool × List D)
  | [.slice [.int .u8, .slice [.str], .slice [.int .i64]] l] => some (decide (l.n > 200) || okL l, [.slice [.str, .int .u8] (naO l), .v (i64 (naE l))])
  | _ => none
def FKnown : List D → Option (Bool × List D)
  | [.slice [.int .u8, .slice [.str], .slice [.int .i64]] l] => some (okL l, [.slice [.str, .int .u8] (knO l), .v (i64 (knE l))])
  | _ => none
theorem run_M (l : Row) : ∀ (m j : Nat) (a : Row × (ByteArray → Int)), (runS (fun i (a : Row × (ByteArray → Int)) => stK l i a.1) (nxM l) m j a).1 = (runS (stK l) (nxK l) m j a.1).1 ∧ (runS (fun i (a : Row × (ByteArray → Int)) => stK l i a.1) (nxM l) m j a).2.1 = (runS (stK l) (nxK l) m j a.1).2.1 ∧ (runS (fun i (a : Row × (ByteArray → Int)) => stK l i a.1) (nxM l) m j a).2.2.1 = (runS (stK l) (nxK l) m j a.1).2.2
  | 0, j, a => ⟨rfl, rfl, rfl⟩
  | m + 1, j, a => by
    cases h : stK l j a.1
    · rw [runS_s (stop := stK l) h, runS_s (stop := fun i (a : Row × (ByteArray → Int)) => stK l i a.1) h, ← nxM_1]
      exact run_M l m (j + 1) _
    · rw [runS_t (stop := stK l) h, runS_t (stop := fun i (a : Row × (ByteArray → Int)) => stK l i a.1) h]
      exact ⟨rfl, rfl, rfl⟩
theorem den_Known : Den Tryd.prog 40 FKnown := evF_den C15_ok fun ds rs h => by
  unfold FKnown at h
  split at h
  · rename_i l
    simp only [Option.some.injEq, Prod.mk.injEq] at h
    obtain ⟨h0, rfl⟩ := h
    refine (t15 l).trans ?_
    rw [decide_eq_true (show 0 = Row.nil.n ∧ Row.nil.n = 0 ∧ l.n = l.n from ⟨rfl, rfl, rfl⟩), z2_iff.2 ⟨rfl, (okL_iff.1 h0).1⟩, h0]
    unfold knO knE
    show br (knR l).1 (some [D.slice [.str, .int .u8] (Row.nil), D.v (i64 (erK l (knR l).2.1))]) (some [D.slice [.str, .int .u8] (winOf (knR l).2.2 0 (knR l).2.2.n), D.v (i64 (0))]) = _
    cases (knR l).1 <;> rfl
  · cases h
theorem den_known : Den Tryd.prog 34 Fknown := evF_den C14_ok fun ds rs h => by
  unfold Fknown at h
  split at h
  · rename_i l
    simp only [Option.some.injEq, Prod.mk.injEq] at h
    obtain ⟨h0, rfl⟩ := h
    refine (t14 l).trans ?_
    unfold naO naE
    by_cases hl : l.n > 200
    · rw [decide_eq_true hl, decide_eq_true (show (l.n : Int) > 200 by omega)]; rfl
    · rw [decide_eq_false hl, Bool.false_or] at h0
      rw [decide_eq_false hl, decide_eq_false (show ¬ (l.n : Int) > 200 by omega)]
      rw [decide_eq_true (show 0 = Row.nil.n ∧ Row.nil.n = 0 ∧ l.n = l.n from ⟨rfl, rfl, rfl⟩), z3_iff.2 ⟨rfl, rfl, (okL_iff.1 h0).1⟩, h0, zM_iff.2 (fun _ => rfl)]
      unfold knO knE
      obtain ⟨e1, e2, e3⟩ := run_M l l.n 0 (.nil, fun _ => 0)
      show br (runS (fun i (a : Row × (ByteArray → Int)) => stK l i a.1) (nxM l) l.n 0 (.nil, fun _ => 0)).1 (some [D.slice [.str, .int .u8] (Row.nil), D.v (i64 (erK l (runS (fun i (a : Row × (ByteArray → Int)) => stK l i a.1) (nxM l) l.n 0 (.nil, fun _ => 0)).2.1))]) (some [D.slice [.str, .int .u8] (winOf (runS (fun i (a : Row × (ByteArray → Int)) => stK l i a.1) (nxM l) l.n 0 (.nil, fun _ => 0)).2.2.1 0 (runS (fun i (a : Row × (ByteArray → Int)) => stK l i a.1) (nxM l) l.n 0 (.nil, fun _ => 0)).2.2.1.n), D.v (i64 (0))]) = _
      rw [e1, e2, e3]
      show br (knR l).1 (some [D.slice [.str, .int .u8] (Row.nil), D.v (i64 (erK l (knR l).2.1))]) (some [D.slice [.str, .int .u8] (winOf (knR l).2.2 0 (knR l).2.2.n), D.v (i64 (0))]) = _
      cases (knR l).1 <;> rfl
  · cases h
end Go.Proofs.YtopdfmhlgkbaaaaDoor
/- The reference: Great, SameNames, Same. No conditions. -/
namespace Go.Proofs.YtopdfmhlgkbaaaaDoor
open Go.Ev
set_option linter.all false
def zb (n : Nat) (j : Int) : Bool := decide (j = 0 ∧ n ≤ big)
theorem zb_iff {n : Nat} {j : Int} : zb n j = true ↔ j = 0 ∧ n ≤ big := by unfold zb; rw [decide_eq_true_eq]
theorem wsb {j : Nat} (h : j < big) : IntKind.i64.wrap ((j : Int) + 1) = ((j + 1 : Nat) : Int) := by
  have h : j < 9223372036854775807 := h
  rw [wrap64 (by omega) (by omega)]; omega
theorem ltbig {n : Nat} (h : n ≤ big) : n < 18446744073709551616 := by
  have h : n ≤ 9223372036854775807 := h
  omega
theorem ij (j : Int) (n : Nat) (h : 0 ≤ j ∧ j < n) : (decide (0 ≤ j) && decide (j < (n : Int))) = true := by simp only [Bool.and_eq_true, decide_eq_true_eq]; exact h
def p4 : PSt := { τ := [.v (.sl 0)] ++ pu 2 ++ [.v (.int .i64)] ++ pu 56, saved := [[]], mem := [.row [.int .u8, .slice [.str], .slice [.int .i64]] false] }
def p4i : PSt := { τ := [.v (.sl 0)] ++ pu 2 ++ [.v (.int .i64), .v (.int .i64)] ++ pu 55, saved := [[]], mem := [.row [.int .u8, .slice [.str], .slice [.int .i64]] false] }
def p12 : PSt := { τ := [.v (.sl 0), .v (.sl 1)] ++ pu 3 ++ [.v (.int .i64)] ++ pu 20, saved := [[]], mem := [.row [.str, .int .u8] false, .row [.str, .int .u8] false] }
def p13 : PSt := { τ := [.v (.sl 0), .v (.sl 1)] ++ pu 3 ++ [.v (.int .i64)] ++ pu 108, saved := [[]], mem := [.row [.int .u8, .slice [.str], .slice [.int .i64]] false, .row [.int .u8, .slice [.str], .slice [.int .i64]] false] }
def p13a : PSt := { τ := [.v (.sl 0), .v (.sl 1)] ++ pu 3 ++ [.v (.int .i64), .v (.int .i64)] ++ pu 107, saved := [[]], mem := [.row [.int .u8, .slice [.str], .slice [.int .i64]] false, .row [.int .u8, .slice [.str], .slice [.int .i64]] false] }
def p13b : PSt := { τ := [.v (.sl 0), .v (.sl 1)] ++ pu 3 ++ [.v (.int .i64)] ++ pu 1 ++ [.v (.int .i64)] ++ pu 106, saved := [[]], mem := [.row [.int .u8, .slice [.str], .slice [.int .i64]] false, .row [.int .u8, .slice [.str], .slice [.int .i64]] false] }
def d4 (its : List It) : Option (Nat × Int × Row) := match its with | [.n n, .i j, .r l] => some (n, j, l) | _ => none
def d4i (its : List It) : Option (Nat × Int × Int × Row) := match its with | [.n n, .i j, .i k, .r l] => some (n, j, k, l) | _ => none
def grS (l : Row) (j i : Nat) : Bool := decide ((((l.R j 1).S i 0).size : Int) > 100)
/-- A line that is great. -/
def grB (l : Row) (j : Nat) : Bool := decide (((l.R j 1).n : Int) > 20) || (decide (((l.R j 2).n : Int) > 100) || anyF (grS l j) (l.R j 1).n 0)
def l4i : ScanL (Nat × Int × Int × Row) where
  f := 8
  id := 7
  lv := [0, 3, 4]
  lx := [0, 2, 3]
  p := p4i
  dat := d4i
  S := fun (n, j, k, l) i => [.n n, .i j, .i i, .r l]
  len := fun (n, j, k, l) => (l.R j.toNat 1).n
  cnd := fun (n, j, k, l) => decide (0 ≤ j ∧ j < n) && zb (l.R j.toNat 1).n k
  bad := fun (n, j, k, l) => grS l j.toNat
  Kb := fun (n, j, k, l) i K => K .ret ⟨[.slice (some ⟨0, 0, some 0⟩) (n) (0)] ++ us 1 ++ [.bool (true), i64 j] ++ us 56, [[]], [some (.row [.int .u8, .slice [.str], .slice [.int .i64]] false (l))]⟩
  Ke := fun (n, j, k, l) K => K (.exit 2) ⟨[.slice (some ⟨0, 0, some 0⟩) (n) (0)] ++ us 2 ++ [i64 j] ++ us 56, [[]], [some (.row [.int .u8, .slice [.str], .slice [.int .i64]] false (l))]⟩
def l4 : ScanL (Nat × Int × Row) where
  f := 8
  id := 2
  lv := [0, 3]
  lx := [0, 2]
  p := p4
  dat := d4
  S := fun (n, j, l) i => [.n n, .i i, .r l]
  len := fun (n, j, l) => n
  cnd := fun (n, j, l) => zb n j
  bad := fun (n, j, l) => grB l
  Kb := fun (n, j, l) i K => K .ret ⟨[.slice (some ⟨0, 0, some 0⟩) (n) (0)] ++ us 1 ++ [.bool (true)] ++ us 57, [[]], [some (.row [.int .u8, .slice [.str], .slice [.int .i64]] false (l))]⟩
  Ke := fun (n, j, l) K => K (.exit 0) ⟨[.slice (some ⟨0, 0, some 0⟩) (n) (0)] ++ us 59, [[]], [some (.row [.int .u8, .slice [.str], .slice [.int .i64]] false (l))]⟩
def d12 (its : List It) : Option (Nat × Nat × Int × Row × Row) := match its with | [.n n, .n m, .i j, .r l, .r o] => some (n, m, j, l, o) | _ => none
def neK (l o : Row) (i : Nat) : Bool := !(l.S i 0 == o.S i 0 && (l.I i 1 == o.I i 1 && true))
def l12 : ScanL (Nat × Nat × Int × Row × Row) where
  f := 17
  id := 4
  lv := [0, 1, 5]
  lx := [4]
  p := p12
  dat := d12
  S := fun (n, m, j, l, o) i => [.n n, .n m, .i i, .r l, .r o]
  len := fun (n, m, j, l, o) => n
  cnd := fun (n, m, j, l, o) => zb n j && decide (n = m)
  bad := fun (n, m, j, l, o) => neK l o
  Kb := fun (n, m, j, l, o) i K => K .ret ⟨us 4 ++ [.bool (false)] ++ us 21, [[]], []⟩
  Ke := fun (n, m, j, l, o) K => K (.exit 0) ⟨us 26, [[]], []⟩
def d13i (its : List It) : Option (Nat × Nat × Int × Int × Row × Row) := match its with | [.n n, .n m, .i j, .i k, .r l, .r o] => some (n, m, j, k, l, o) | _ => none
def neS (l o : Row) (j i : Nat) : Bool := !((l.R j 1).S i 0).toList == ((o.R j 1).S i 0).toList
def neU (l o : Row) (j i : Nat) : Bool := (l.R j 2).I i 0 != (o.R j 2).I i 0
def neL (l o : Row) (j : Nat) : Bool := l.I j 0 != o.I j 0 || (((l.R j 1).n : Int) != ((o.R j 1).n : Int) || (((l.R j 2).n : Int) != ((o.R j 2).n : Int) || (anyF (neS l o j) (l.R j 1).n 0 || anyF (neU l o j) (l.R j 2).n 0)))
def c13 (x : Nat) : Nat × Nat × Int × Int × Row × Row → Bool := fun (n, m, j, k, l, o) => decide (0 ≤ j ∧ j < n ∧ n = m ∧ (l.R j.toNat x).n = (o.R j.toNat x).n) && zb (l.R j.toNat x).n k
def l13a : ScanL (Nat × Nat × Int × Int × Row × Row) where
  f := 13
  id := 9
  lv := [0, 1, 5, 6]
  lx := [0, 1, 4, 5]
  p := p13a
  dat := d13i
  S := fun (n, m, j, k, l, o) i => [.n n, .n m, .i j, .i i, .r l, .r o]
  len := fun (n, m, j, k, l, o) => (l.R j.toNat 1).n
  cnd := c13 1
  bad := fun (n, m, j, k, l, o) => neS l o j.toNat
  Kb := fun (n, m, j, k, l, o) i K => K .ret ⟨[.slice (some ⟨0, 0, some 0⟩) (n) (0), .slice (some ⟨1, 0, some 0⟩) (m) (0)] ++ us 2 ++ [.bool (false), i64 j] ++ us 108, [[]], [some (.row [.int .u8, .slice [.str], .slice [.int .i64]] false (l)), some (.row [.int .u8, .slice [.str], .slice [.int .i64]] false (o))]⟩
  Ke := fun (n, m, j, k, l, o) K => K (.exit 2) ⟨[.slice (some ⟨0, 0, some 0⟩) (n) (0), .slice (some ⟨1, 0, some 0⟩) (m) (0)] ++ us 3 ++ [i64 j] ++ us 108, [[]], [some (.row [.int .u8, .slice [.str], .slice [.int .i64]] false (l)), some (.row [.int .u8, .slice [.str], .slice [.int .i64]] false (o))]⟩
def l13b : ScanL (Nat × Nat × Int × Int × Row × Row) where
  f := 13
  id := 14
  lv := [0, 1, 5, 7]
  lx := [0, 1, 4, 5]
  p := p13b
  dat := d13i
  S := fun (n, m, j, k, l, o) i => [.n n, .n m, .i j, .i i, .r l, .r o]
  len := fun (n, m, j, k, l, o) => (l.R j.toNat 2).n
  cnd := c13 2
  bad := fun (n, m, j, k, l, o) => neU l o j.toNat
  Kb := fun (n, m, j, k, l, o) i K => K .ret ⟨[.slice (some ⟨0, 0, some 0⟩) (n) (0), .slice (some ⟨1, 0, some 0⟩) (m) (0)] ++ us 2 ++ [.bool (false), i64 j] ++ us 108, [[]], [some (.row [.int .u8, .slice [.str], .slice [.int .i64]] false (l)), some (.row [.int .u8, .slice [.str], .slice [.int .i64]] false (o))]⟩
  Ke := fun (n, m, j, k, l, o) K => K (.exit 4) ⟨[.slice (some ⟨0, 0, some 0⟩) (n) (0), .slice (some ⟨1, 0, some 0⟩) (m) (0)] ++ us 3 ++ [i64 j] ++ us 108, [[]], [some (.row [.int .u8, .slice [.str], .slice [.int .i64]] false (l)), some (.row [.int .u8, .slice [.str], .slice [.int .i64]] false (o))]⟩
/-- The slices in a list of lines are no greater than slices are. -/
def bgL (l : Row) : Bool := decide (l.n ≤ big) && !anyF (fun i => !(decide ((l.R i 1).n ≤ big) && decide ((l.R i 2).n ≤ big))) l.n 0
theorem bgL_iff {l : Row} : bgL l = true ↔ l.n ≤ big ∧ ∀ i, i < l.n → (l.R i 1).n ≤ big ∧ (l.R i 2).n ≤ big := by
  unfold bgL
  simp only [Bool.and_eq_true, decide_eq_true_eq, Bool.not_eq_true', anyF_false, Nat.zero_add, Nat.zero_le, forall_const, Bool.not_eq_false']
def l13 : ScanL (Nat × Nat × Int × Row × Row) where
  f := 13
  id := 4
  lv := [0, 1, 5]
  lx := [4]
  p := p13
  dat := d12
  S := fun (n, m, j, l, o) i => [.n n, .n m, .i i, .r l, .r o]
  len := fun (n, m, j, l, o) => n
  cnd := fun (n, m, j, l, o) => zb n j && (decide (n = m ∧ n = l.n) && bgL l)
  bad := fun (n, m, j, l, o) => neL l o
  Kb := fun (n, m, j, l, o) i K => K .ret ⟨us 4 ++ [.bool (false)] ++ us 109, [[]], []⟩
  Ke := fun (n, m, j, l, o) K => K (.exit 0) ⟨us 114, [[]], []⟩
noncomputable def C4 : Cx := mkCx Tryd.prog fns [] [l4.C, l4i.C, l12.C, l13.C, l13a.C, l13b.C]
theorem r4i (R : St → Option (List D)) (K : X → St → Option (List D)) (q n : Nat) (j k : Int) (l : Row) : bodyOf C4 8 7 q (Go.Ev.bst p4i [.n n, .i j, .i k, .r l]) (rnd [0, 3, 4] (some [0, 2, 3]) R K) =
    br (decide (0 ≤ j) && decide (j < (↑n : Int))) (br (decide (k < (↑(l.R (0 + j.toNat) 1).n : Int))) (br (decide (0 ≤ j) && decide (j < (↑n : Int))) (br (decide (0 ≤ k) && decide (k < (↑(l.R (0 + j.toNat) 1).n : Int))) (br (decide ((↑((l.R (0 + j.toNat) 1).S (0 + k.toNat) 0).size : Int) > 100)) (K .ret ⟨[.slice (some ⟨0, 0, some 0⟩) (n) (0)] ++ us 1 ++ [.bool (true), i64 (j)] ++ us 56, [[]], [some (.row [.int .u8, .slice [.str], .slice [.int .i64]] false (l))]⟩) (R ⟨[.slice (some ⟨0, 0, some 0⟩) (n) (0)] ++ us 2 ++ [i64 (j), i64 (IntKind.i64.wrap (k + 1))] ++ us 55, [[]], [some (.row [.int .u8, .slice [.str], .slice [.int .i64]] false (l))]⟩)) (none)) (none)) (K (.exit 2) ⟨[.slice (some ⟨0, 0, some 0⟩) (n) (0)] ++ us 2 ++ [i64 (j)] ++ us 56, [[]], [some (.row [.int .u8, .slice [.str], .slice [.int .i64]] false (l))]⟩)) (none) := by kernel_rfl
theorem r4 (R : St → Option (List D)) (K : X → St → Option (List D)) (q n : Nat) (j : Int) (l : Row) : bodyOf C4 8 2 q (Go.Ev.bst p4 [.n n, .i j, .r l]) (rnd [0, 3] (some [0, 2]) R K) =
    br (decide (j < (↑n : Int))) (br (decide (0 ≤ j) && decide (j < (↑n : Int))) (br (decide ((↑(l.R (0 + j.toNat) 1).n : Int) > 20)) (K .ret ⟨[.slice (some ⟨0, 0, some 0⟩) (n) (0)] ++ us 1 ++ [.bool (true)] ++ us 57, [[]], [some (.row [.int .u8, .slice [.str], .slice [.int .i64]] false (l))]⟩) (br (decide (0 ≤ j) && decide (j < (↑n : Int))) (br (decide ((↑(l.R (0 + j.toNat) 2).n : Int) > 100)) (K .ret ⟨[.slice (some ⟨0, 0, some 0⟩) (n) (0)] ++ us 1 ++ [.bool (true)] ++ us 57, [[]], [some (.row [.int .u8, .slice [.str], .slice [.int .i64]] false (l))]⟩) (br (decide (0 ≤ j ∧ j < (↑n : Int)) && zb (l.R j.toNat 1).n 0) (br (anyF (grS l j.toNat) (l.R j.toNat 1).n 0) (K .ret ⟨[.slice (some ⟨0, 0, some 0⟩) (n) (0)] ++ us 1 ++ [.bool (true)] ++ us 57, [[]], [some (.row [.int .u8, .slice [.str], .slice [.int .i64]] false (l))]⟩) (R ⟨[.slice (some ⟨0, 0, some 0⟩) (n) (0)] ++ us 2 ++ [i64 (IntKind.i64.wrap (j + 1))] ++ us 56, [[]], [some (.row [.int .u8, .slice [.str], .slice [.int .i64]] false (l))]⟩)) (none))) (none))) (none)) (K (.exit 0) ⟨[.slice (some ⟨0, 0, some 0⟩) (n) (0)] ++ us 59, [[]], [some (.row [.int .u8, .slice [.str], .slice [.int .i64]] false (l))]⟩) := by kernel_rfl
theorem r12 (R : St → Option (List D)) (K : X → St → Option (List D)) (q n m : Nat) (j : Int) (l o : Row) : bodyOf C4 17 4 q (Go.Ev.bst p12 [.n n, .n m, .i j, .r l, .r o]) (rnd [0, 1, 5] (some [4]) R K) =
    br (decide (j < (↑n : Int))) (br (decide (0 ≤ j) && decide (j < (↑n : Int))) (br (decide (0 ≤ j) && decide (j < (↑m : Int))) (br (!(l.S (0 + j.toNat) 0 == o.S (0 + j.toNat) 0 && (l.I (0 + j.toNat) 1 == o.I (0 + j.toNat) 1 && true))) (K .ret ⟨us 4 ++ [.bool (false)] ++ us 21, [[]], []⟩) (R ⟨[.slice (some ⟨0, 0, some 0⟩) (n) (0), .slice (some ⟨1, 0, some 0⟩) (m) (0)] ++ us 3 ++ [i64 (IntKind.i64.wrap (j + 1))] ++ us 20, [[]], [some (.row [.str, .int .u8] false (l)), some (.row [.str, .int .u8] false (o))]⟩)) (none)) (none)) (K (.exit 0) ⟨us 26, [[]], []⟩) := by kernel_rfl
theorem r13a (R : St → Option (List D)) (K : X → St → Option (List D)) (q n m : Nat) (j k : Int) (l o : Row) : bodyOf C4 13 9 q (Go.Ev.bst p13a [.n n, .n m, .i j, .i k, .r l, .r o]) (rnd [0, 1, 5, 6] (some [0, 1, 4, 5]) R K) =
    br (decide (0 ≤ j) && decide (j < (↑n : Int))) (br (decide (k < (↑(l.R (0 + j.toNat) 1).n : Int))) (br (decide (0 ≤ j) && decide (j < (↑n : Int))) (br (decide (0 ≤ k) && decide (k < (↑(l.R (0 + j.toNat) 1).n : Int))) (br (decide (0 ≤ j) && decide (j < (↑m : Int))) (br (decide (0 ≤ k) && decide (k < (↑(o.R (0 + j.toNat) 1).n : Int))) (br (!((l.R (0 + j.toNat) 1).S (0 + k.toNat) 0).toList == ((o.R (0 + j.toNat) 1).S (0 + k.toNat) 0).toList) (K .ret ⟨[.slice (some ⟨0, 0, some 0⟩) (n) (0), .slice (some ⟨1, 0, some 0⟩) (m) (0)] ++ us 2 ++ [.bool (false), i64 (j)] ++ us 108, [[]], [some (.row [.int .u8, .slice [.str], .slice [.int .i64]] false (l)), some (.row [.int .u8, .slice [.str], .slice [.int .i64]] false (o))]⟩) (R ⟨[.slice (some ⟨0, 0, some 0⟩) (n) (0), .slice (some ⟨1, 0, some 0⟩) (m) (0)] ++ us 3 ++ [i64 (j), i64 (IntKind.i64.wrap (k + 1))] ++ us 107, [[]], [some (.row [.int .u8, .slice [.str], .slice [.int .i64]] false (l)), some (.row [.int .u8, .slice [.str], .slice [.int .i64]] false (o))]⟩)) (none)) (none)) (none)) (none)) (K (.exit 2) ⟨[.slice (some ⟨0, 0, some 0⟩) (n) (0), .slice (some ⟨1, 0, some 0⟩) (m) (0)] ++ us 3 ++ [i64 (j)] ++ us 108, [[]], [some (.row [.int .u8, .slice [.str], .slice [.int .i64]] false (l)), some (.row [.int .u8, .slice [.str], .slice [.int .i64]] false (o))]⟩)) (none) := by kernel_rfl
theorem r13b (R : St → Option (List D)) (K : X → St → Option (List D)) (q n m : Nat) (j k : Int) (l o : Row) : bodyOf C4 13 14 q (Go.Ev.bst p13b [.n n, .n m, .i j, .i k, .r l, .r o]) (rnd [0, 1, 5, 7] (some [0, 1, 4, 5]) R K) =
    br (decide (0 ≤ j) && decide (j < (↑n : Int))) (br (decide (k < (↑(l.R (0 + j.toNat) 2).n : Int))) (br (decide (0 ≤ j) && decide (j < (↑n : Int))) (br (decide (0 ≤ k) && decide (k < (↑(l.R (0 + j.toNat) 2).n : Int))) (br (decide (0 ≤ j) && decide (j < (↑m : Int))) (br (decide (0 ≤ k) && decide (k < (↑(o.R (0 + j.toNat) 2).n : Int))) (br ((l.R (0 + j.toNat) 2).I (0 + k.toNat) 0 != (o.R (0 + j.toNat) 2).I (0 + k.toNat) 0) (K .ret ⟨[.slice (some ⟨0, 0, some 0⟩) (n) (0), .slice (some ⟨1, 0, some 0⟩) (m) (0)] ++ us 2 ++ [.bool (false), i64 (j)] ++ us 108, [[]], [some (.row [.int .u8, .slice [.str], .slice [.int .i64]] false (l)), some (.row [.int .u8, .slice [.str], .slice [.int .i64]] false (o))]⟩) (R ⟨[.slice (some ⟨0, 0, some 0⟩) (n) (0), .slice (some ⟨1, 0, some 0⟩) (m) (0)] ++ us 3 ++ [i64 (j)] ++ us 1 ++ [i64 (IntKind.i64.wrap (k + 1))] ++ us 106, [[]], [some (.row [.int .u8, .slice [.str], .slice [.int .i64]] false (l)), some (.row [.int .u8, .slice [.str], .slice [.int .i64]] false (o))]⟩)) (none)) (none)) (none)) (none)) (K (.exit 4) ⟨[.slice (some ⟨0, 0, some 0⟩) (n) (0), .slice (some ⟨1, 0, some 0⟩) (m) (0)] ++ us 3 ++ [i64 (j)] ++ us 108, [[]], [some (.row [.int .u8, .slice [.str], .slice [.int .i64]] false (l)), some (.row [.int .u8, .slice [.str], .slice [.int .i64]] false (o))]⟩)) (none) := by kernel_rfl
theorem r13 (R : St → Option (List D)) (K : X → St → Option (List D)) (q n m : Nat) (j : Int) (l o : Row) : bodyOf C4 13 4 q (Go.Ev.bst p13 [.n n, .n m, .i j, .r l, .r o]) (rnd [0, 1, 5] (some [4]) R K) =
    br (decide (j < (↑n : Int))) (br (decide (0 ≤ j) && decide (j < (↑n : Int))) (br (decide (0 ≤ j) && decide (j < (↑m : Int))) (br (l.I (0 + j.toNat) 0 != o.I (0 + j.toNat) 0) (K .ret ⟨us 4 ++ [.bool (false)] ++ us 109, [[]], []⟩) (br (decide (0 ≤ j) && decide (j < (↑n : Int))) (br (decide (0 ≤ j) && decide (j < (↑m : Int))) (br ((↑(l.R (0 + j.toNat) 1).n : Int) != (↑(o.R (0 + j.toNat) 1).n : Int)) (K .ret ⟨us 4 ++ [.bool (false)] ++ us 109, [[]], []⟩) (br (decide (0 ≤ j) && decide (j < (↑n : Int))) (br (decide (0 ≤ j) && decide (j < (↑m : Int))) (br ((↑(l.R (0 + j.toNat) 2).n : Int) != (↑(o.R (0 + j.toNat) 2).n : Int)) (K .ret ⟨us 4 ++ [.bool (false)] ++ us 109, [[]], []⟩) (br (c13 1 (n, m, j, 0, l, o)) (br (anyF (neS l o j.toNat) (l.R j.toNat 1).n 0) (K .ret ⟨us 4 ++ [.bool (false)] ++ us 109, [[]], []⟩) (br (c13 2 (n, m, j, 0, l, o)) (br (anyF (neU l o j.toNat) (l.R j.toNat 2).n 0) (K .ret ⟨us 4 ++ [.bool (false)] ++ us 109, [[]], []⟩) (R ⟨[.slice (some ⟨0, 0, some 0⟩) (n) (0), .slice (some ⟨1, 0, some 0⟩) (m) (0)] ++ us 3 ++ [i64 (IntKind.i64.wrap (j + 1))] ++ us 108, [[]], [some (.row [.int .u8, .slice [.str], .slice [.int .i64]] false (l)), some (.row [.int .u8, .slice [.str], .slice [.int .i64]] false (o))]⟩)) (none))) (none))) (none)) (none))) (none)) (none))) (none)) (none)) (K (.exit 0) ⟨us 114, [[]], []⟩) := by kernel_rfl
theorem t4 (l : Row) : evF C4 6 8 [.slice ksL l] =
    br (zb l.n 0) (br (anyF (grB l) l.n 0) (some [.v (.bool (true))]) (br (decide ((↑l.n : Int) > 40)) (br (decide ((↑l.n : Int) ≤ 200)) (some [.v (.bool (true))]) (some [.v (.bool (decide ((↑l.n : Int) > 210)))])) (some [.v (.bool (decide ((↑l.n : Int) > 210)))]))) (none) := by kernel_rfl
theorem t12 (l o : Row) : evF C4 6 17 [.slice ksN l, .slice ksN o] =
    br ((↑l.n : Int) != (↑o.n : Int)) (some [.v (.bool (false))]) (br (zb l.n 0 && decide (l.n = o.n)) (br (anyF (neK l o) l.n 0) (some [.v (.bool (false))]) (some [.v (.bool (true))])) (none)) := by kernel_rfl
theorem t13 (l o : Row) : evF C4 6 13 [.slice ksL l, .slice ksL o] =
    br ((↑l.n : Int) != (↑o.n : Int)) (some [.v (.bool (false))]) (br (zb l.n 0 && (decide (l.n = o.n ∧ l.n = l.n) && bgL l)) (br (anyF (neL l o) l.n 0) (some [.v (.bool (false))]) (some [.v (.bool (true))])) (none)) := by kernel_rfl
theorem ok4i : LoopOk C4 l4i.C := l4i.ok (by kernel_rfl)
  (fun its x h hc => by
    replace h : d4i its = some x := h
    unfold d4i at h
    split at h
    · cases h
      obtain ⟨h3, h4⟩ := zb_iff.1 (Bool.and_eq_true_iff.1 hc).2
      subst h3
      rfl
    · cases h)
  (fun ⟨n, j, k, l⟩ hc => ltbig (zb_iff.1 (Bool.and_eq_true_iff.1 hc).2).2)
  (fun q ⟨n, j, k, l⟩ i hc hi R K => by
    have h3 := of_decide_eq_true (Bool.and_eq_true_iff.1 hc).1
    obtain ⟨h4, h5⟩ := zb_iff.1 (Bool.and_eq_true_iff.1 hc).2
    replace hi : i < (l.R j.toNat 1).n := hi
    refine (r4i R K q n j i l).trans ?_
    rw [Nat.zero_add, Int.toNat_natCast, Nat.zero_add, gd i _ hi, ltd i _ hi, wsb (by omega), ij j n h3]
    rfl)
  (fun q ⟨n, j, k, l⟩ hc R K => by
    have h3 := of_decide_eq_true (Bool.and_eq_true_iff.1 hc).1
    refine (r4i R K q n j (l.R j.toNat 1).n l).trans ?_
    rw [Nat.zero_add, ij j n h3, ltn]
    rfl)
theorem ok4 : LoopOk C4 l4.C := l4.ok (by kernel_rfl)
  (fun its x h hc => by
    replace h : d4 its = some x := h
    unfold d4 at h
    split at h
    · cases h
      obtain ⟨h3, h4⟩ := zb_iff.1 hc
      subst h3
      rfl
    · cases h)
  (fun ⟨n, j, l⟩ hc => ltbig (zb_iff.1 hc).2)
  (fun q ⟨n, j, l⟩ i hc hi R K => by
    obtain ⟨h4, h5⟩ := zb_iff.1 hc
    replace hi : i < n := hi
    refine (r4 R K q n i l).trans ?_
    rw [Int.toNat_natCast, Nat.zero_add, gd i _ hi, ltd i _ hi, wsb (by omega), decide_eq_true (show 0 ≤ (i : Int) ∧ (i : Int) < (n : Int) by omega)]
    show _ = br (grB l i) _ _
    unfold grB
    by_cases h1 : ((l.R i 1).n : Int) > 20
    · rw [decide_eq_true h1]; rfl
    · rw [decide_eq_false h1, zb_iff.2 ⟨rfl, show (l.R i 1).n ≤ 9223372036854775807 by omega⟩]
      cases decide (((l.R i 2).n : Int) > 100) <;> rfl)
  (fun q ⟨n, j, l⟩ hc R K => by
    refine (r4 R K q n n l).trans ?_
    rw [ltn]
    rfl)
theorem ok12 : LoopOk C4 l12.C := l12.ok (by kernel_rfl)
  (fun its x h hc => by
    replace h : d12 its = some x := h
    unfold d12 at h
    split at h
    · cases h
      obtain ⟨h3, h4⟩ := zb_iff.1 (Bool.and_eq_true_iff.1 hc).1
      subst h3
      rfl
    · cases h)
  (fun ⟨n, m, j, l, o⟩ hc => ltbig (zb_iff.1 (Bool.and_eq_true_iff.1 hc).1).2)
  (fun q ⟨n, m, j, l, o⟩ i hc hi R K => by
    obtain ⟨h4, h5⟩ := zb_iff.1 (Bool.and_eq_true_iff.1 hc).1
    have h6 : n = m := of_decide_eq_true (Bool.and_eq_true_iff.1 hc).2
    replace hi : i < n := hi
    subst h6
    refine (r12 R K q n n i l o).trans ?_
    rw [Int.toNat_natCast, Nat.zero_add, gd i _ hi, ltd i _ hi, wsb (by omega)]
    rfl)
  (fun q ⟨n, m, j, l, o⟩ hc R K => by
    refine (r12 R K q n m n l o).trans ?_
    rw [ltn]
    rfl)
theorem c13_iff {x n m : Nat} {j k : Int} {l o : Row} : c13 x (n, m, j, k, l, o) = true ↔ (0 ≤ j ∧ j < n ∧ n = m ∧ (l.R j.toNat x).n = (o.R j.toNat x).n) ∧ k = 0 ∧ (l.R j.toNat x).n ≤ big := by
  unfold c13
  rw [Bool.and_eq_true_iff, decide_eq_true_eq, zb_iff]
theorem ok13a : LoopOk C4 l13a.C := l13a.ok (by kernel_rfl)
  (fun its x h hc => by
    replace h : d13i its = some x := h
    unfold d13i at h
    split at h
    · cases h
      obtain ⟨_, h3, h4⟩ := c13_iff.1 hc
      subst h3
      rfl
    · cases h)
  (fun ⟨n, m, j, k, l, o⟩ hc => ltbig (c13_iff.1 hc).2.2)
  (fun q ⟨n, m, j, k, l, o⟩ i hc hi R K => by
    obtain ⟨⟨h1, h2, h6, h7⟩, h4, h5⟩ := c13_iff.1 hc
    replace hi : i < (l.R j.toNat 1).n := hi
    subst h6
    refine (r13a R K q n n j i l o).trans ?_
    rw [Nat.zero_add, Int.toNat_natCast, Nat.zero_add, gd i _ hi, ltd i _ hi, wsb (by omega), ij j n ⟨h1, h2⟩, ← h7, gd i _ hi]
    rfl)
  (fun q ⟨n, m, j, k, l, o⟩ hc R K => by
    obtain ⟨⟨h1, h2, h6, h7⟩, h4, h5⟩ := c13_iff.1 hc
    refine (r13a R K q n m j (l.R j.toNat 1).n l o).trans ?_
    rw [Nat.zero_add, ij j n ⟨h1, h2⟩, ltn]
    rfl)
theorem ok13b : LoopOk C4 l13b.C := l13b.ok (by kernel_rfl)
  (fun its x h hc => by
    replace h : d13i its = some x := h
    unfold d13i at h
    split at h
    · cases h
      obtain ⟨_, h3, h4⟩ := c13_iff.1 hc
      subst h3
      rfl
    · cases h)
  (fun ⟨n, m, j, k, l, o⟩ hc => ltbig (c13_iff.1 hc).2.2)
  (fun q ⟨n, m, j, k, l, o⟩ i hc hi R K => by
    obtain ⟨⟨h1, h2, h6, h7⟩, h4, h5⟩ := c13_iff.1 hc
    replace hi : i < (l.R j.toNat 2).n := hi
    subst h6
    refine (r13b R K q n n j i l o).trans ?_
    rw [Nat.zero_add, Int.toNat_natCast, Nat.zero_add, gd i _ hi, ltd i _ hi, wsb (by omega), ij j n ⟨h1, h2⟩, ← h7, gd i _ hi]
    rfl)
  (fun q ⟨n, m, j, k, l, o⟩ hc R K => by
    obtain ⟨⟨h1, h2, h6, h7⟩, h4, h5⟩ := c13_iff.1 hc
    refine (r13b R K q n m j (l.R j.toNat 2).n l o).trans ?_
    rw [Nat.zero_add, ij j n ⟨h1, h2⟩, ltn]
    rfl)
set_option maxRecDepth 100000 in
theorem ok13 : LoopOk C4 l13.C := l13.ok (by kernel_rfl)
  (fun its x h hc => by
    replace h : d12 its = some x := h
    unfold d12 at h
    split at h
    · cases h
      obtain ⟨h3, h4⟩ := zb_iff.1 (Bool.and_eq_true_iff.1 hc).1
      subst h3
      rfl
    · cases h)
  (fun ⟨n, m, j, l, o⟩ hc => ltbig (zb_iff.1 (Bool.and_eq_true_iff.1 hc).1).2)
  (fun q ⟨n, m, j, l, o⟩ i hc hi R K => by
    obtain ⟨h4, h5⟩ := zb_iff.1 (Bool.and_eq_true_iff.1 hc).1
    obtain ⟨h6, h7⟩ : n = m ∧ n = l.n := of_decide_eq_true (Bool.and_eq_true_iff.1 (Bool.and_eq_true_iff.1 hc).2).1
    have h8 := (bgL_iff.1 (Bool.and_eq_true_iff.1 (Bool.and_eq_true_iff.1 hc).2).2).2
    replace hi : i < n := hi
    subst h6
    refine (r13 R K q n n i l o).trans ?_
    rw [Int.toNat_natCast, Nat.zero_add, gd i _ hi, ltd i _ hi, wsb (by omega)]
    show _ = br (neL l o i) _ _
    unfold neL
    cases l.I i 0 != o.I i 0
    · cases e1 : (((l.R i 1).n : Int) != ((o.R i 1).n : Int))
      · have e1 : (l.R i 1).n = (o.R i 1).n := by simp at e1; omega
        cases e2 : (((l.R i 2).n : Int) != ((o.R i 2).n : Int))
        · have e2 : (l.R i 2).n = (o.R i 2).n := by simp at e2; omega
          rw [show c13 1 (n, n, (i : Int), 0, l, o) = true from c13_iff.2 ⟨⟨by omega, by omega, rfl, e1⟩, rfl, (h8 i (by omega)).1⟩, show c13 2 (n, n, (i : Int), 0, l, o) = true from c13_iff.2 ⟨⟨by omega, by omega, rfl, e2⟩, rfl, (h8 i (by omega)).2⟩]
          cases anyF (neS l o i) (l.R i 1).n 0 <;> rfl
        · rfl
      · rfl
    · rfl)
  (fun q ⟨n, m, j, l, o⟩ hc R K => by
    refine (r13 R K q n m n l o).trans ?_
    rw [ltn]
    rfl)
theorem C4_ok : CxOk C4 := mkCx_ok enter mixed (fun p h => by cases h) (fun l h => by
  simp only [List.mem_cons, List.not_mem_nil, or_false] at h
  rcases h with rfl | rfl | rfl | rfl | rfl | rfl
  · exact ok4
  · exact ok4i
  · exact ok12
  · exact ok13
  · exact ok13a
  · exact ok13b)
/-- Whether lines are great. -/
def greB (l : Row) : Bool := anyF (grB l) l.n 0 || (decide (40 < l.n ∧ l.n ≤ 200) || decide (210 < l.n))
def saNB (l o : Row) : Bool := decide (l.n = o.n) && !anyF (neK l o) l.n 0
def saLB (l o : Row) : Bool := decide (l.n = o.n) && !anyF (neL l o) l.n 0
def Fgreat : List D → Option (Bool × List D)
  | [.slice [.int .u8, .slice [.str], .slice [.int .i64]] l] => some (decide (l.n ≤ big), [.v (.bool (greB l))])
  | _ => none
def FsameN : List D → Option (Bool × List D)
  | [.slice [.str, .int .u8] l, .slice [.str, .int .u8] o] => some (decide (l.n ≤ big), [.v (.bool (saNB l o))])
  | _ => none
def FsameL : List D → Option (Bool × List D)
  | [.slice [.int .u8, .slice [.str], .slice [.int .i64]] l, .slice [.int .u8, .slice [.str], .slice [.int .i64]] o] => some (bgL l, [.v (.bool (saLB l o))])
  | _ => none
theorem den_great : Den Tryd.prog 8 Fgreat := evF_den C4_ok fun ds rs h => by
  unfold Fgreat at h
  split at h
  · rename_i l
    simp only [Option.some.injEq, Prod.mk.injEq] at h
    obtain ⟨h0, rfl⟩ := h
    refine (t4 l).trans ?_
    rw [zb_iff.2 ⟨rfl, of_decide_eq_true h0⟩]
    unfold greB
    cases anyF (grB l) l.n 0
    · by_cases h1 : l.n > 40
      · by_cases h2 : l.n ≤ 200
        · rw [decide_eq_true (show (l.n : Int) > 40 by omega), decide_eq_true (show (l.n : Int) ≤ 200 by omega), decide_eq_true (show 40 < l.n ∧ l.n ≤ 200 by omega)]; rfl
        · rw [decide_eq_true (show (l.n : Int) > 40 by omega), decide_eq_false (show ¬ (l.n : Int) ≤ 200 by omega), decide_eq_false (show ¬ (40 < l.n ∧ l.n ≤ 200) by omega)]
          by_cases h3 : 210 < l.n
          · rw [decide_eq_true (show (l.n : Int) > 210 by omega), decide_eq_true h3]; rfl
          · rw [decide_eq_false (show ¬ (l.n : Int) > 210 by omega), decide_eq_false h3]; rfl
      · rw [decide_eq_false (show ¬ (l.n : Int) > 40 by omega), decide_eq_false (show ¬ (40 < l.n ∧ l.n ≤ 200) by omega), decide_eq_false (show ¬ (l.n : Int) > 210 by omega), decide_eq_false (show ¬ 210 < l.n by omega)]; rfl
    · rfl
  · cases h
theorem nen {a b : Nat} : ((a : Int) != (b : Int)) = !decide (a = b) := by
  by_cases h : a = b
  · subst h; simp
  · rw [decide_eq_false h]; simp; omega
theorem den_sameN : Den Tryd.prog 17 FsameN := evF_den C4_ok fun ds rs h => by
  unfold FsameN at h
  split at h
  · rename_i l o
    simp only [Option.some.injEq, Prod.mk.injEq] at h
    obtain ⟨h0, rfl⟩ := h
    refine (t12 l o).trans ?_
    rw [zb_iff.2 ⟨rfl, of_decide_eq_true h0⟩, nen]
    unfold saNB
    cases decide (l.n = o.n)
    · rfl
    · cases anyF (neK l o) l.n 0 <;> rfl
  · cases h
theorem den_sameL : Den Tryd.prog 13 FsameL := evF_den C4_ok fun ds rs h => by
  unfold FsameL at h
  split at h
  · rename_i l o
    simp only [Option.some.injEq, Prod.mk.injEq] at h
    obtain ⟨h0, rfl⟩ := h
    refine (t13 l o).trans ?_
    rw [zb_iff.2 ⟨rfl, (bgL_iff.1 h0).1⟩, nen, h0]
    unfold saLB
    by_cases h1 : l.n = o.n
    · rw [decide_eq_true h1, decide_eq_true (show l.n = o.n ∧ l.n = l.n from ⟨h1, rfl⟩)]
      cases anyF (neL l o) l.n 0 <;> rfl
    · rw [decide_eq_false h1]; rfl
  · cases h
/-- Two lines are the same. -/
def lnE (l o : Row) (i k : Nat) : Prop := l.I i 0 = o.I k 0 ∧ ((l.R i 1).n = (o.R k 1).n ∧ ∀ x, x < (l.R i 1).n → (l.R i 1).S x 0 = (o.R k 1).S x 0) ∧ ((l.R i 2).n = (o.R k 2).n ∧ ∀ x, x < (l.R i 2).n → (l.R i 2).I x 0 = (o.R k 2).I x 0)
def saL (l o : Row) : Prop := l.n = o.n ∧ ∀ i, i < l.n → lnE l o i i
theorem neL_iff {l o : Row} {i : Nat} : neL l o i = false ↔ lnE l o i i := by
  unfold neL lnE
  simp only [Bool.or_eq_false_iff, nen, Bool.not_eq_false', decide_eq_true_eq, anyF_false, Nat.zero_add, Nat.zero_le, forall_const, bne_eq_false_iff_eq, neS, neU, bytesEq_iff]
  constructor
  · rintro ⟨a, b, c, d, e⟩; exact ⟨a, ⟨b, d⟩, c, e⟩
  · rintro ⟨a, ⟨b, d⟩, c, e⟩; exact ⟨a, b, c, d, e⟩
theorem saLB_iff {l o : Row} : saLB l o = true ↔ saL l o := by
  unfold saLB saL
  simp only [Bool.and_eq_true, decide_eq_true_eq, Bool.not_eq_true', anyF_false, Nat.zero_add, Nat.zero_le, forall_const, neL_iff]
theorem lnE.rfl' {l : Row} {i : Nat} : lnE l l i i := ⟨rfl, ⟨rfl, fun _ _ => rfl⟩, rfl, fun _ _ => rfl⟩
theorem lnE.symm {l o : Row} {i k : Nat} (h : lnE l o i k) : lnE o l k i := ⟨h.1.symm, ⟨h.2.1.1.symm, fun x hx => (h.2.1.2 x (h.2.1.1 ▸ hx)).symm⟩, h.2.2.1.symm, fun x hx => (h.2.2.2 x (h.2.2.1 ▸ hx)).symm⟩
theorem lnE.trans {l o p : Row} {i k j : Nat} (h : lnE l o i k) (g : lnE o p k j) : lnE l p i j := ⟨h.1.trans g.1, ⟨h.2.1.1.trans g.2.1.1, fun x hx => (h.2.1.2 x hx).trans (g.2.1.2 x (h.2.1.1 ▸ hx))⟩, h.2.2.1.trans g.2.2.1, fun x hx => (h.2.2.2 x hx).trans (g.2.2.2 x (h.2.2.1 ▸ hx))⟩
theorem saL.symm {l o : Row} (h : saL l o) : saL o l := ⟨h.1.symm, fun i hi => (h.2 i (h.1 ▸ hi)).symm⟩
theorem saL.trans {l o p : Row} (h : saL l o) (g : saL o p) : saL l p := ⟨h.1.trans g.1, fun i hi => (h.2 i hi).trans (g.2 i (h.1 ▸ hi))⟩
theorem saL.rfl' {l : Row} : saL l l := ⟨rfl, fun _ _ => lnE.rfl'⟩
theorem gre_not {l : Row} (h : greB l = false) : (l.n ≤ 210 ∧ (l.n ≤ 40 ∨ 200 < l.n)) ∧ ∀ j, j < l.n → (l.R j 1).n ≤ 20 ∧ (l.R j 2).n ≤ 100 ∧ ∀ i, i < (l.R j 1).n → ((l.R j 1).S i 0).size ≤ 100 := by
  unfold greB at h
  simp only [Bool.or_eq_false_iff, decide_eq_false_iff_not, anyF_false, Nat.zero_add, Nat.zero_le, forall_const, grB, grS] at h
  obtain ⟨h1, h2, h3⟩ := h
  refine ⟨by omega, fun j hj => ?_⟩
  obtain ⟨a, b, c⟩ := h1 j hj
  exact ⟨by omega, by omega, fun i hi => by have := c i hi; omega⟩
theorem gre_ok {l : Row} (h : greB l = false) : okL l = true := by
  obtain ⟨h1, h2⟩ := gre_not h
  refine okL_iff.2 ⟨by omega, fun j hj => ?_⟩
  obtain ⟨a, b, c⟩ := h2 j hj
  unfold lnB
  rw [smN_iff.2 ⟨by omega, fun i hi => by have := c i hi; omega⟩, decide_eq_true (show (l.R j 2).n ≤ 1000000 by omega)]; rfl
theorem ok_big {l : Row} (h : okL l = true) : bgL l = true := by
  obtain ⟨h1, h2⟩ := okL_iff.1 h
  refine bgL_iff.2 ⟨show l.n ≤ 9223372036854775807 by omega, fun j hj => ?_⟩
  have := h2 j hj
  unfold lnB at this
  obtain ⟨a, b⟩ := Bool.and_eq_true_iff.1 this
  have a := (smN_iff.1 a).1
  have b := of_decide_eq_true b
  exact ⟨show (l.R j 1).n ≤ 9223372036854775807 by omega, show (l.R j 2).n ≤ 9223372036854775807 by omega⟩
end Go.Proofs.YtopdfmhlgkbaaaaDoor
/- Check and Names of both sides; Twin. No conditions. -/
namespace Go.Ev
set_option linter.all false
/-- A loop that goes through all its rounds. -/
structure FoldL (ι β : Type) where
  f : FuncId
  id : Nat
  lv : List Tmp
  lx : List Tmp
  p : PSt
  dat : List It → Option ι
  S : ι → Nat → β → List It
  len : ι → Nat
  cnd : ι → Bool
  ini : ι → β
  nx : ι → Nat → β → β
  Ke : ι → β → (X → St → Option (List D)) → Option (List D)
def fldN {β : Type} (nx : Nat → β → β) : Nat → Nat → β → β
  | 0, _, a => a
  | m + 1, j, a => fldN nx m (j + 1) (nx j a)
def FoldL.G {ι β : Type} (s : FoldL ι β) (its : List It) (k : X → St → Option (List D)) : Option (List D) := match s.dat its with
  | some x => br (s.cnd x) (s.Ke x (fldN (s.nx x) (s.len x) 0 (s.ini x)) k) none
  | none => none
def FoldL.C {ι β : Type} (s : FoldL ι β) : LoopC := ⟨s.f, s.id, s.lv, s.lx, s.p, s.G⟩
theorem fold_inv {β : Type} {nx : Nat → β → β} {Inv : Nat → β → Prop} {len : Nat} (hI : ∀ j a, j < len → Inv j a → Inv (j + 1) (nx j a)) : ∀ {m j : Nat} {a : β}, j + m = len → Inv j a → Inv len (fldN nx m j a)
  | 0, j, a, hj, h => (show j = len by omega) ▸ h
  | m + 1, j, a, hj, h => fold_inv hI (m := m) (by omega) (hI j a (by omega) h)
theorem fold_go {β : Type} {f : St → (X → St → Option (List D)) → Option (List D)} {lv : List Tmp} {lx : Option (List Tmp)} {S : Nat → β → St} {len : Nat} {nx : Nat → β → β} {Ke : β → (X → St → Option (List D)) → Option (List D)} {Inv : Nat → β → Prop}
    (hI : ∀ j a, j < len → Inv j a → Inv (j + 1) (nx j a))
    (hr : ∀ j a, j < len → Inv j a → ∀ R K, f (S j a) (rnd lv lx R K) = R (S (j + 1) (nx j a))) (he : ∀ a, Inv len a → ∀ R K, f (S len a) (rnd lv lx R K) = Ke a K) (K : X → St → Option (List D)) :
    ∀ (m j : Nat) (a : β), j + m = len → Inv j a → ∀ N, m < N → rounds lv lx f N (S j a) K = Ke (fldN nx m j a) K
  | 0, j, a, hj, h, N, hN => by
    obtain ⟨N, rfl⟩ : ∃ N', N = N' + 1 := ⟨N - 1, by omega⟩
    have : j = len := by omega
    subst this
    simp only [rounds, fldN]
    exact he a h _ K
  | m + 1, j, a, hj, h, N, hN => by
    obtain ⟨N, rfl⟩ : ∃ N', N = N' + 1 := ⟨N - 1, by omega⟩
    rw [rnds1, hr j a (by omega) h]
    exact fold_go hI hr he K m (j + 1) (nx j a) (by omega) (hI j a (by omega) h) N (by omega)
theorem FoldL.ok {ι β : Type} {C : Cx} (s : FoldL ι β) (Inv : ι → Nat → β → Prop) (h1 : Nat.beq ((loopsOf C.P s.f).filter fun b => Nat.beq (firstRegion b) s.id).length 1 = true)
    (hS : ∀ its x, s.dat its = some x → s.cnd x = true → Go.Ev.bst s.p its = Go.Ev.bst s.p (s.S x 0 (s.ini x)))
    (hlen : ∀ x, s.cnd x = true → s.len x < C.N) (hI0 : ∀ x, s.cnd x = true → Inv x 0 (s.ini x))
    (hI : ∀ x j a, s.cnd x = true → j < s.len x → Inv x j a → Inv x (j + 1) (s.nx x j a))
    (hr : ∀ q x j a, s.cnd x = true → j < s.len x → Inv x j a → ∀ R K, bodyOf C s.f s.id q (Go.Ev.bst s.p (s.S x j a)) (rnd s.lv (some s.lx) R K) = R (Go.Ev.bst s.p (s.S x (j + 1) (s.nx x j a))))
    (he : ∀ q x a, s.cnd x = true → Inv x (s.len x) a → ∀ R K, bodyOf C s.f s.id q (Go.Ev.bst s.p (s.S x (s.len x) a)) (rnd s.lv (some s.lx) R K) = s.Ke x a K) : LoopOk C s.C := ⟨h1, fun q its k rr h => by
  change s.G its k = some rr at h
  unfold FoldL.G at h
  split at h
  · rename_i x hx
    rcases br_some h with ⟨hc, h2⟩ | ⟨_, h2⟩
    · rw [← h2]
      show rounds s.lv (some s.lx) (bodyOf C s.f s.id q) C.N (Go.Ev.bst s.p its) k = _
      rw [hS its x hx hc]
      exact fold_go (S := fun j a => Go.Ev.bst s.p (s.S x j a)) (Inv := Inv x) (hI x · · hc) (fun j a hj hi R K => hr q x j a hc hj hi R K) (fun a hi R K => he q x a hc hi R K) k (s.len x) 0 (s.ini x) (by omega) (hI0 x hc) C.N (hlen x hc)
    · cases h2
  · cases h⟩
end Go.Ev
namespace Go.Proofs.YtopdfmhlgkbaaaaDoor
open Go.Ev
set_option linter.all false
theorem sR_at (r : Row) (e j : Nat) (x : Row) (e' j' : Nat) : (r.setR e j x).R e' j' = if e' = e ∧ j' = j then x else r.R e' j' := by
  show (bif Nat.beq e' e && Nat.beq j' j then x else r.R e' j') = _
  by_cases h : e' = e ∧ j' = j
  · rw [if_pos h, h.1, h.2, Nat.beq_refl, Nat.beq_refl]; rfl
  · rw [if_neg h]
    cases h1 : (Nat.beq e' e && Nat.beq j' j)
    · rfl
    · simp only [Bool.and_eq_true] at h1
      exact absurd ⟨Nat.eq_of_beq_eq_true h1.1, Nat.eq_of_beq_eq_true h1.2⟩ h
theorem sI_at (r : Row) (e j : Nat) (x : Int) (e' j' : Nat) : (r.setI e j x).I e' j' = if e' = e ∧ j' = j then x else r.I e' j' := by
  show (bif Nat.beq e' e && Nat.beq j' j then x else r.I e' j') = _
  by_cases h : e' = e ∧ j' = j
  · rw [if_pos h, h.1, h.2, Nat.beq_refl, Nat.beq_refl]; rfl
  · rw [if_neg h]
    cases h1 : (Nat.beq e' e && Nat.beq j' j)
    · rfl
    · simp only [Bool.and_eq_true] at h1
      exact absurd ⟨Nat.eq_of_beq_eq_true h1.1, Nat.eq_of_beq_eq_true h1.2⟩ h
theorem sS_at (r : Row) (e j : Nat) (x : ByteArray) (e' j' : Nat) : (r.setS e j x).S e' j' = if e' = e ∧ j' = j then x else r.S e' j' := by
  show (bif Nat.beq e' e && Nat.beq j' j then x else r.S e' j') = _
  by_cases h : e' = e ∧ j' = j
  · rw [if_pos h, h.1, h.2, Nat.beq_refl, Nat.beq_refl]; rfl
  · rw [if_neg h]
    cases h1 : (Nat.beq e' e && Nat.beq j' j)
    · rfl
    · simp only [Bool.and_eq_true] at h1
      exact absurd ⟨Nat.eq_of_beq_eq_true h1.1, Nat.eq_of_beq_eq_true h1.2⟩ h
theorem app_at (r s : Row) {i : Nat} (h : i < r.n) : ((r.app s).I i = r.I i ∧ (r.app s).S i = r.S i) ∧ (r.app s).R i = r.R i := by
  have e : Nat.blt i r.n = true := by rw [Nat.blt_eq]; exact h
  refine ⟨⟨funext fun j => ?_, funext fun j => ?_⟩, funext fun j => ?_⟩
  · show (bif Nat.blt i r.n then _ else _) = _
    rw [e]; rfl
  · show (bif Nat.blt i r.n then _ else _) = _
    rw [e]; rfl
  · show (bif Nat.blt i r.n then _ else _) = _
    rw [e]; rfl
theorem app_nx (r s : Row) {i : Nat} (h : ¬ i < r.n) : ((r.app s).I i = s.I (i - r.n) ∧ (r.app s).S i = s.S (i - r.n)) ∧ (r.app s).R i = s.R (i - r.n) := by
  have e : Nat.blt i r.n = false := by
    cases hb : Nat.blt i r.n
    · rfl
    · rw [Nat.blt_eq] at hb; exact absurd hb h
  refine ⟨⟨funext fun j => ?_, funext fun j => ?_⟩, funext fun j => ?_⟩
  · show (bif Nat.blt i r.n then _ else _) = _
    rw [e]; rfl
  · show (bif Nat.blt i r.n then _ else _) = _
    rw [e]; rfl
  · show (bif Nat.blt i r.n then _ else _) = _
    rw [e]; rfl
/-- A copy of a row. -/
def cpR (r : Row) : Row := winOf (Row.nil.app (winOf r 0 r.n)) 0 (0 + (winOf r 0 r.n).n)
theorem cpR_n (r : Row) : (cpR r).n = r.n := Nat.zero_add _
theorem cpR_S (r : Row) (i j : Nat) : (cpR r).S i j = r.S i j := rfl
theorem cpR_I (r : Row) (i j : Nat) : (cpR r).I i j = r.I i j := rfl
/-- A line. -/
def lnR (w : Int) (nm nu : Row) : Row := winOf ((((Row.zeros 1).setI 0 0 w).setR 0 1 nm).setR 0 2 nu) 0 1
def pushL (o ln : Row) : Row := (winOf o 0 o.n).app ln
noncomputable def C5 : Cx := mkCx Tryd.prog fns [(34, Fknown), (40, FKnown)] []
theorem C5_ok : CxOk C5 := mkCx_ok enter mixed (fun p h => by
  simp only [List.mem_cons, List.not_mem_nil, or_false] at h
  rcases h with rfl | rfl
  · exact den_known
  · exact den_Known) (fun l h => by cases h)
theorem t10 (l : Row) : evF C5 6 15 [.slice ksL l] =
    br (decide ((winOf l 0 l.n).n > 200) || okL (winOf l 0 l.n)) (some [.v (i64 (naE (winOf l 0 l.n)))]) (none) := by kernel_rfl
theorem t11 (l : Row) : evF C5 6 28 [.slice ksL l] =
    br (decide ((↑l.n : Int) > 200)) (some [.v (i64 (4))]) (br (okL (winOf l 0 l.n)) (some [.v (i64 (knE (winOf l 0 l.n)))]) (none)) := by kernel_rfl
theorem t6 (l : Row) : evF C5 6 16 [.slice ksL l] =
    br (decide ((winOf l 0 l.n).n > 200) || okL (winOf l 0 l.n)) (some [.slice [.str, .int .u8] (winOf (naO (winOf l 0 l.n)) 0 (naO (winOf l 0 l.n)).n), .v (i64 (naE (winOf l 0 l.n)))]) (none) := by kernel_rfl
theorem pl_n (o ln : Row) : (pushL o ln).n = o.n + ln.n := rfl
theorem lb_nums {l : Row} {i : Nat} (h : okL l = true) (hi : i < l.n) : (l.R i 2).n ≤ 1000000 := by
  have := lb_valid h hi
  unfold lnB at this
  exact of_decide_eq_true (Bool.and_eq_true_iff.1 this).2
def wiR (r : Row) : Row := winOf r 0 r.n
def Fcheck : List D → Option (Bool × List D)
  | [.slice [.int .u8, .slice [.str], .slice [.int .i64]] l] => some (decide (l.n > 200) || okL l, [.v (i64 (naE l))])
  | _ => none
def Fnames : List D → Option (Bool × List D)
  | [.slice [.int .u8, .slice [.str], .slice [.int .i64]] l] => some (decide (l.n > 200) || okL l, [.slice [.str, .int .u8] (wiR (naO l)), .v (i64 (naE l))])
  | _ => none
theorem den_check : Den Tryd.prog 15 Fcheck := evF_den C5_ok fun ds rs h => by
  unfold Fcheck at h
  split at h
  · rename_i l
    simp only [Option.some.injEq, Prod.mk.injEq] at h
    obtain ⟨h0, rfl⟩ := h
    refine (t10 l).trans ?_
    rw [show (decide ((winOf l 0 l.n).n > 200) || okL (winOf l 0 l.n)) = true from h0]
    rfl
  · cases h
theorem den_Check : Den Tryd.prog 28 Fcheck := evF_den C5_ok fun ds rs h => by
  unfold Fcheck at h
  split at h
  · rename_i l
    simp only [Option.some.injEq, Prod.mk.injEq] at h
    obtain ⟨h0, rfl⟩ := h
    refine (t11 l).trans ?_
    unfold naE
    by_cases hl : l.n > 200
    · rw [decide_eq_true hl, decide_eq_true (show (l.n : Int) > 200 by omega)]; rfl
    · rw [decide_eq_false hl, decide_eq_false (show ¬ (l.n : Int) > 200 by omega)]
      rw [decide_eq_false hl, Bool.false_or] at h0
      rw [show okL (winOf l 0 l.n) = true from h0]
      rfl
  · cases h
theorem den_names : Den Tryd.prog 16 Fnames := evF_den C5_ok fun ds rs h => by
  unfold Fnames at h
  split at h
  · rename_i l
    simp only [Option.some.injEq, Prod.mk.injEq] at h
    obtain ⟨h0, rfl⟩ := h
    refine (t6 l).trans ?_
    rw [show (decide ((winOf l 0 l.n).n > 200) || okL (winOf l 0 l.n)) = true from h0]
    rfl
  · cases h
end Go.Proofs.YtopdfmhlgkbaaaaDoor
/- Rename of both sides. No conditions. -/
namespace Go.Proofs.YtopdfmhlgkbaaaaDoor
open Go.Ev
set_option linter.all false
def p8a : PSt := { τ := [.v (.sl 0), .v (.str), .v (.str)] ++ pu 7 ++ [.v (.bool), .v (.bool)] ++ pu 15 ++ [.v (.sl 1), .v (.int .i64), .v (.int .i64)] ++ pu 75, saved := [[]], mem := [.row [.int .u8, .slice [.str], .slice [.int .i64]] false, .row [.str, .int .u8] true] }
def p8b : PSt := { τ := pu 1 ++ [.v (.str), .v (.str)] ++ pu 11 ++ [.v (.sl 0)] ++ pu 47 ++ [.v (.sl 1), .v (.int .i64), .v (.int .i64)] ++ pu 40, saved := [[]], mem := [.deep [.int .u8, .slice [.str], .slice [.int .i64]], .row [.int .u8, .slice [.str], .slice [.int .i64]] false] }
def p8c : PSt := { τ := pu 1 ++ [.v (.str), .v (.str)] ++ pu 11 ++ [.v (.sl 0), .v (.int .i64)] ++ pu 46 ++ [.v (.sl 1), .v (.int .i64), .v (.int .i64)] ++ pu 15 ++ [.v (.sl 2), .v (.int .i64), .v (.int .i64)] ++ pu 22, saved := [[]], mem := [.deep [.int .u8, .slice [.str], .slice [.int .i64]], .row [.int .u8, .slice [.str], .slice [.int .i64]] false, .row [.str] false] }
/-- A name, with s renamed. -/
def subS (s t x : ByteArray) : ByteArray := bif eqS x s then t else x
def psN (r : Row) (x : ByteArray) : Row := winOf ((winOf r 0 r.n).app (winOf ((Row.zeros 1).setS 0 0 x) 0 1)) 0 (r.n + 1)
theorem psN_n (r : Row) (x : ByteArray) : (psN r x).n = r.n + 1 := rfl
theorem psN_lo (r : Row) (x : ByteArray) {i : Nat} (h : i < r.n) : (psN r x).S i 0 = r.S i 0 := congrFun (app_at (winOf r 0 r.n) (winOf ((Row.zeros 1).setS 0 0 x) 0 1) (i := i) h).1.2 0
theorem psN_hi (r : Row) (x : ByteArray) : (psN r x).S r.n 0 = x := by
  refine (congrFun (app_nx (winOf r 0 r.n) (winOf ((Row.zeros 1).setS 0 0 x) 0 1) (i := r.n) (Nat.lt_irrefl _)).1.2 0).trans ?_
  rw [show r.n - (winOf r 0 r.n).n = 0 from Nat.sub_self _]
  rfl
structure A8 where
  n : Nat
  s : ByteArray
  t : ByteArray
  old : Bool
  tk : Bool
  m : Nat
  len : Int
  j : Int
  l : Row
  o : Row
def d8a (its : List It) : Option A8 := match its with | [.n n, .s s, .s t, .b old, .b tk, .n m, .i len, .i j, .r l, .r o] => some ⟨n, s, t, old, tk, m, len, j, l, o⟩ | _ => none
def nx8 (o : Row) (s t : ByteArray) (i : Nat) (a : Bool × Bool) : Bool × Bool := (a.1 || eqS (o.S i 0) s, a.2 || (eqS (o.S i 0) t && !eqS s t))
def l8a : FoldL A8 (Bool × Bool) where
  f := 22
  id := 6
  lv := [0, 1, 2, 10, 11, 27, 28, 29]
  lx := [0, 1, 2, 6, 7, 10, 11]
  p := p8a
  dat := d8a
  S := fun x i a => [.n x.n, .s x.s, .s x.t, .b a.1, .b a.2, .n x.m, .i x.m, .i i, .r x.l, .r x.o]
  len := fun x => x.m
  cnd := fun x => z3 x.m x.len x.j
  ini := fun x => (x.old, x.tk)
  nx := fun x => nx8 x.o x.s x.t
  Ke := fun x a K => K (.exit 0) ⟨[.slice (some ⟨0, 0, some 0⟩) (x.n) (0), .string (x.s), .string (x.t)] ++ us 7 ++ [.bool (a.1), .bool (a.2)] ++ us 93, [[]], [some (.row [.int .u8, .slice [.str], .slice [.int .i64]] false (x.l))]⟩
structure C8 where
  s : ByteArray
  t : ByteArray
  n : Nat
  i : Int
  m : Nat
  len : Int
  j : Int
  a : Nat
  la : Int
  k : Int
  o : Row
  l : Row
  nm : Row
def d8c (its : List It) : Option C8 := match its with | [.s s, .s t, .n n, .i i, .n m, .i len, .i j, .n a, .i la, .i k, .r o, .r l, .r nm] => some ⟨s, t, n, i, m, len, j, a, la, k, o, l, nm⟩ | _ => none
def nx8c (s t : ByteArray) (nm : Row) (i : Nat) (k : Nat) (o : Row) : Row := o.setR i 1 (psN (o.R i 1) (subS s t (nm.S k 0)))
def c8c (n : Nat) (i : Int) (a : Nat) (la k : Int) (o : Row) : Bool := decide (0 ≤ i ∧ i < n ∧ (o.R i.toNat 1).n ≤ 1000000) && z3 a la k
theorem c8c_iff {n : Nat} {i : Int} {a : Nat} {la k : Int} {o : Row} : c8c n i a la k o = true ↔ (0 ≤ i ∧ i < n ∧ (o.R i.toNat 1).n ≤ 1000000) ∧ la = a ∧ k = 0 ∧ a ≤ 1000000 := by unfold c8c; rw [Bool.and_eq_true_iff, decide_eq_true_eq, z3_iff]
def l8c : FoldL C8 Row where
  f := 22
  id := 23
  lv := [1, 2, 14, 15, 62, 63, 64, 80, 81, 82]
  lx := [1, 2, 6, 7, 14, 62, 63, 64]
  p := p8c
  dat := d8c
  S := fun x k a => [.s x.s, .s x.t, .n x.n, .i x.i, .n x.m, .i x.len, .i x.j, .n x.a, .i x.a, .i k, .r a, .r x.l, .r x.nm]
  len := fun x => x.a
  cnd := fun x => c8c x.n x.i x.a x.la x.k x.o
  ini := fun x => x.o
  nx := fun x => nx8c x.s x.t x.nm x.i.toNat
  Ke := fun x a K => K (.exit 4) ⟨us 1 ++ [.string (x.s), .string (x.t)] ++ us 11 ++ [.slice (some ⟨0, 0, some 0⟩) (x.n) (0)] ++ us 47 ++ [.slice (some ⟨1, 0, some 0⟩) (x.m) (0), i64 (x.len), i64 (x.j)] ++ us 40, [[]], [some (.deep [.int .u8, .slice [.str], .slice [.int .i64]] (a) none), some (.row [.int .u8, .slice [.str], .slice [.int .i64]] false (x.l))]⟩
def rn0 (l : Row) (i : Nat) (o : Row) : Row := ((o.setI i 0 (l.I i 0)).setR i 1 Row.nil).setR i 2 (cpR (l.R i 2))
def nx8b (s t : ByteArray) (l : Row) (i : Nat) (o : Row) : Row := fldN (nx8c s t (l.R i 1) i) (l.R i 1).n 0 (rn0 l i o)
structure B8 where
  s : ByteArray
  t : ByteArray
  n : Nat
  m : Nat
  len : Int
  j : Int
  o : Row
  l : Row
def d8b (its : List It) : Option B8 := match its with | [.s s, .s t, .n n, .n m, .i len, .i j, .r o, .r l] => some ⟨s, t, n, m, len, j, o, l⟩ | _ => none
def c8b (n m : Nat) (len j : Int) (o l : Row) : Bool := decide (n = l.n ∧ m = l.n ∧ o.n = l.n) && (z3 m len j && okL l)
theorem c8b_iff {n m : Nat} {len j : Int} {o l : Row} : c8b n m len j o l = true ↔ (n = l.n ∧ m = l.n ∧ o.n = l.n) ∧ (len = m ∧ j = 0 ∧ m ≤ 1000000) ∧ okL l = true := by unfold c8b; rw [Bool.and_eq_true_iff, Bool.and_eq_true_iff, decide_eq_true_eq, z3_iff]
def l8b : FoldL B8 Row where
  f := 22
  id := 19
  lv := [1, 2, 14, 62, 63, 64]
  lx := [6, 7, 14]
  p := p8b
  dat := d8b
  S := fun x i a => [.s x.s, .s x.t, .n x.l.n, .n x.l.n, .i x.l.n, .i i, .r a, .r x.l]
  len := fun x => x.l.n
  cnd := fun x => c8b x.n x.m x.len x.j x.o x.l
  ini := fun x => x.o
  nx := fun x => nx8b x.s x.t x.l
  Ke := fun x a K => K (.exit 2) ⟨us 14 ++ [.slice (some ⟨0, 0, some 0⟩) (x.l.n) (0)] ++ us 90, [[]], [some (.deep [.int .u8, .slice [.str], .slice [.int .i64]] (a) none)]⟩
noncomputable def C8x : Cx := mkCx Tryd.prog fns [(34, Fknown), (35, Fname)] [l8a.C, l8b.C, l8c.C]
theorem r8a (R : St → Option (List D)) (K : X → St → Option (List D)) (q n m : Nat) (s t : ByteArray) (old taken : Bool) (len j : Int) (l o : Row) : bodyOf C8x 22 6 q (Go.Ev.bst p8a [.n n, .s s, .s t, .b old, .b taken, .n m, .i len, .i j, .r l, .r o]) (rnd [0, 1, 2, 10, 11, 27, 28, 29] (some [0, 1, 2, 6, 7, 10, 11]) R K) =
    br (decide (j < len)) (br (decide (0 ≤ j) && decide (j < (↑m : Int))) (br (old) (br (taken) (R ⟨[.slice (some ⟨0, 0, some 0⟩) (n) (0), .string (s), .string (t)] ++ us 7 ++ [.bool (true), .bool (true)] ++ us 15 ++ [.slice (some ⟨1, 0, some 0⟩) (m) (0), i64 (len), i64 (IntKind.i64.wrap (j + 1))] ++ us 75, [[]], [some (.row [.int .u8, .slice [.str], .slice [.int .i64]] false (l)), some (.row [.str, .int .u8] true (o))]⟩) (br ((o.S (0 + j.toNat) 0).toList == t.toList) (R ⟨[.slice (some ⟨0, 0, some 0⟩) (n) (0), .string (s), .string (t)] ++ us 7 ++ [.bool (true), .bool (!s.toList == t.toList)] ++ us 15 ++ [.slice (some ⟨1, 0, some 0⟩) (m) (0), i64 (len), i64 (IntKind.i64.wrap (j + 1))] ++ us 75, [[]], [some (.row [.int .u8, .slice [.str], .slice [.int .i64]] false (l)), some (.row [.str, .int .u8] true (o))]⟩) (R ⟨[.slice (some ⟨0, 0, some 0⟩) (n) (0), .string (s), .string (t)] ++ us 7 ++ [.bool (true), .bool (false)] ++ us 15 ++ [.slice (some ⟨1, 0, some 0⟩) (m) (0), i64 (len), i64 (IntKind.i64.wrap (j + 1))] ++ us 75, [[]], [some (.row [.int .u8, .slice [.str], .slice [.int .i64]] false (l)), some (.row [.str, .int .u8] true (o))]⟩))) (br (taken) (R ⟨[.slice (some ⟨0, 0, some 0⟩) (n) (0), .string (s), .string (t)] ++ us 7 ++ [.bool ((o.S (0 + j.toNat) 0).toList == s.toList), .bool (true)] ++ us 15 ++ [.slice (some ⟨1, 0, some 0⟩) (m) (0), i64 (len), i64 (IntKind.i64.wrap (j + 1))] ++ us 75, [[]], [some (.row [.int .u8, .slice [.str], .slice [.int .i64]] false (l)), some (.row [.str, .int .u8] true (o))]⟩) (br ((o.S (0 + j.toNat) 0).toList == t.toList) (R ⟨[.slice (some ⟨0, 0, some 0⟩) (n) (0), .string (s), .string (t)] ++ us 7 ++ [.bool ((o.S (0 + j.toNat) 0).toList == s.toList), .bool (!s.toList == t.toList)] ++ us 15 ++ [.slice (some ⟨1, 0, some 0⟩) (m) (0), i64 (len), i64 (IntKind.i64.wrap (j + 1))] ++ us 75, [[]], [some (.row [.int .u8, .slice [.str], .slice [.int .i64]] false (l)), some (.row [.str, .int .u8] true (o))]⟩) (R ⟨[.slice (some ⟨0, 0, some 0⟩) (n) (0), .string (s), .string (t)] ++ us 7 ++ [.bool ((o.S (0 + j.toNat) 0).toList == s.toList), .bool (false)] ++ us 15 ++ [.slice (some ⟨1, 0, some 0⟩) (m) (0), i64 (len), i64 (IntKind.i64.wrap (j + 1))] ++ us 75, [[]], [some (.row [.int .u8, .slice [.str], .slice [.int .i64]] false (l)), some (.row [.str, .int .u8] true (o))]⟩)))) (none)) (K (.exit 0) ⟨[.slice (some ⟨0, 0, some 0⟩) (n) (0), .string (s), .string (t)] ++ us 7 ++ [.bool (old), .bool (taken)] ++ us 93, [[]], [some (.row [.int .u8, .slice [.str], .slice [.int .i64]] false (l))]⟩) := by kernel_rfl
theorem r8b (R : St → Option (List D)) (K : X → St → Option (List D)) (q n m : Nat) (s t : ByteArray) (len j : Int) (l o : Row) : bodyOf C8x 22 19 q (Go.Ev.bst p8b [.s s, .s t, .n n, .n m, .i len, .i j, .r o, .r l]) (rnd [1, 2, 14, 62, 63, 64] (some [6, 7, 14]) R K) =
    br (decide (j < len)) (br (decide (0 ≤ j) && decide (j < (↑m : Int))) (br (decide (0 + (winOf (l.R (0 + j.toNat) (0 + 1 + 1)) 0 (l.R (0 + j.toNat) (0 + 1 + 1)).n).n ≤ 10000000000)) (br (decide (0 ≤ j) && decide (j < (↑n : Int))) (br (c8c n j (l.R (0 + j.toNat) 1).n (↑(l.R (0 + j.toNat) 1).n : Int) 0 (((o.setI (0 + j.toNat) 0 (l.I (0 + j.toNat) 0)).setR (0 + j.toNat) 1 Row.nil).setR (0 + j.toNat) 2 (winOf (Row.nil.app (winOf (l.R (0 + j.toNat) 2) 0 (l.R (0 + j.toNat) 2).n)) 0 (0 + (winOf (l.R (0 + j.toNat) 2) 0 (l.R (0 + j.toNat) 2).n).n)))) (R ⟨us 1 ++ [.string (s), .string (t)] ++ us 11 ++ [.slice (some ⟨0, 0, some 0⟩) (n) (0)] ++ us 47 ++ [.slice (some ⟨1, 0, some 0⟩) (m) (0), i64 (len), i64 (IntKind.i64.wrap (j + 1))] ++ us 40, [[]], [some (.deep [.int .u8, .slice [.str], .slice [.int .i64]] (fldN (nx8c s t (l.R (0 + j.toNat) 1) j.toNat) (l.R (0 + j.toNat) 1).n 0 (((o.setI (0 + j.toNat) 0 (l.I (0 + j.toNat) 0)).setR (0 + j.toNat) 1 Row.nil).setR (0 + j.toNat) 2 (winOf (Row.nil.app (winOf (l.R (0 + j.toNat) 2) 0 (l.R (0 + j.toNat) 2).n)) 0 (0 + (winOf (l.R (0 + j.toNat) 2) 0 (l.R (0 + j.toNat) 2).n).n)))) none), some (.row [.int .u8, .slice [.str], .slice [.int .i64]] false (l))]⟩) (none)) (none)) (none)) (none)) (K (.exit 2) ⟨us 14 ++ [.slice (some ⟨0, 0, some 0⟩) (n) (0)] ++ us 90, [[]], [some (.deep [.int .u8, .slice [.str], .slice [.int .i64]] (o) none)]⟩) := by kernel_rfl
theorem r8c (R : St → Option (List D)) (K : X → St → Option (List D)) (q n m a : Nat) (s t : ByteArray) (i len j la k : Int) (l o nm : Row) : bodyOf C8x 22 23 q (Go.Ev.bst p8c [.s s, .s t, .n n, .i i, .n m, .i len, .i j, .n a, .i la, .i k, .r o, .r l, .r nm]) (rnd [1, 2, 14, 15, 62, 63, 64, 80, 81, 82] (some [1, 2, 6, 7, 14, 62, 63, 64]) R K) =
    br (decide (k < la)) (br (decide (0 ≤ k) && decide (k < (↑a : Int))) (br ((nm.S (0 + k.toNat) 0).toList == s.toList) (br (decide (0 ≤ i) && decide (i < (↑n : Int))) (br (decide ((o.R (0 + i.toNat) 1).n + (winOf ((Row.zeros 1).setS 0 0 t) 0 1).n ≤ 10000000000)) (br (decide (0 ≤ i) && decide (i < (↑n : Int))) (br (decide (0 + i.toNat = 0 + i.toNat)) (R ⟨us 1 ++ [.string (s), .string (t)] ++ us 11 ++ [.slice (some ⟨0, 0, some 0⟩) (n) (0), i64 (i)] ++ us 46 ++ [.slice (some ⟨1, 0, some 0⟩) (m) (0), i64 (len), i64 (j)] ++ us 15 ++ [.slice (some ⟨2, 0, some 0⟩) (a) (0), i64 (la), i64 (IntKind.i64.wrap (k + 1))] ++ us 22, [[]], [some (.deep [.int .u8, .slice [.str], .slice [.int .i64]] (o.setR (0 + i.toNat) 1 (winOf ((winOf (o.R (0 + i.toNat) 1) 0 (o.R (0 + i.toNat) 1).n).app (winOf ((Row.zeros 1).setS 0 0 t) 0 1)) 0 ((o.R (0 + i.toNat) 1).n + 1))) none), some (.row [.int .u8, .slice [.str], .slice [.int .i64]] false (l)), some (.row [.str] false (nm))]⟩) (none)) (none)) (none)) (none)) (br (decide (0 ≤ i) && decide (i < (↑n : Int))) (br (decide ((o.R (0 + i.toNat) 1).n + (winOf ((Row.zeros 1).setS 0 0 (nm.S (0 + k.toNat) 0)) 0 1).n ≤ 10000000000)) (br (decide (0 ≤ i) && decide (i < (↑n : Int))) (br (decide (0 + i.toNat = 0 + i.toNat)) (R ⟨us 1 ++ [.string (s), .string (t)] ++ us 11 ++ [.slice (some ⟨0, 0, some 0⟩) (n) (0), i64 (i)] ++ us 46 ++ [.slice (some ⟨1, 0, some 0⟩) (m) (0), i64 (len), i64 (j)] ++ us 15 ++ [.slice (some ⟨2, 0, some 0⟩) (a) (0), i64 (la), i64 (IntKind.i64.wrap (k + 1))] ++ us 22, [[]], [some (.deep [.int .u8, .slice [.str], .slice [.int .i64]] (o.setR (0 + i.toNat) 1 (winOf ((winOf (o.R (0 + i.toNat) 1) 0 (o.R (0 + i.toNat) 1).n).app (winOf ((Row.zeros 1).setS 0 0 (nm.S (0 + k.toNat) 0)) 0 1)) 0 ((o.R (0 + i.toNat) 1).n + 1))) none), some (.row [.int .u8, .slice [.str], .slice [.int .i64]] false (l)), some (.row [.str] false (nm))]⟩) (none)) (none)) (none)) (none))) (none)) (K (.exit 4) ⟨us 1 ++ [.string (s), .string (t)] ++ us 11 ++ [.slice (some ⟨0, 0, some 0⟩) (n) (0)] ++ us 47 ++ [.slice (some ⟨1, 0, some 0⟩) (m) (0), i64 (len), i64 (j)] ++ us 40, [[]], [some (.deep [.int .u8, .slice [.str], .slice [.int .i64]] (o) none), some (.row [.int .u8, .slice [.str], .slice [.int .i64]] false (l))]⟩) := by kernel_rfl
theorem t8 (l : Row) (s t : ByteArray) : evF C8x 6 22 [.slice ksL l, .v (.string s), .v (.string t)] =
    br (decide ((winOf l 0 l.n).n > 200) || okL (winOf l 0 l.n)) (br (naE (winOf l 0 l.n) != 0) (some [.slice [.int .u8, .slice [.str], .slice [.int .i64]] (Row.nil), .v (i64 (naE (winOf l 0 l.n)))]) (br (z3 (naO (winOf l 0 l.n)).n (↑(naO (winOf l 0 l.n)).n : Int) 0) (br (!(fldN (l8a.nx { n := l.n, s := s, t := t, old := false, tk := false, m := (naO (winOf l 0 l.n)).n, len := (↑(naO (winOf l 0 l.n)).n : Int), j := 0, l := l, o := naO (winOf l 0 l.n) : A8 }) (l8a.len { n := l.n, s := s, t := t, old := false, tk := false, m := (naO (winOf l 0 l.n)).n, len := (↑(naO (winOf l 0 l.n)).n : Int), j := 0, l := l, o := naO (winOf l 0 l.n) : A8 }) 0 (l8a.ini { n := l.n, s := s, t := t, old := false, tk := false, m := (naO (winOf l 0 l.n)).n, len := (↑(naO (winOf l 0 l.n)).n : Int), j := 0, l := l, o := naO (winOf l 0 l.n) : A8 })).1) (some [.slice [.int .u8, .slice [.str], .slice [.int .i64]] (Row.nil), .v (i64 (6))]) (br (decide ({ n := l.n, s := s, t := t, old := false, tk := false, m := (naO (winOf l 0 l.n)).n, len := (↑(naO (winOf l 0 l.n)).n : Int), j := 0, l := l, o := naO (winOf l 0 l.n) : A8 }.t.size ≤ 1000000)) (br (!nmB t) (some [.slice [.int .u8, .slice [.str], .slice [.int .i64]] (Row.nil), .v (i64 (8))]) (br ((fldN (l8a.nx { n := l.n, s := s, t := t, old := false, tk := false, m := (naO (winOf l 0 l.n)).n, len := (↑(naO (winOf l 0 l.n)).n : Int), j := 0, l := l, o := naO (winOf l 0 l.n) : A8 }) (l8a.len { n := l.n, s := s, t := t, old := false, tk := false, m := (naO (winOf l 0 l.n)).n, len := (↑(naO (winOf l 0 l.n)).n : Int), j := 0, l := l, o := naO (winOf l 0 l.n) : A8 }) 0 (l8a.ini { n := l.n, s := s, t := t, old := false, tk := false, m := (naO (winOf l 0 l.n)).n, len := (↑(naO (winOf l 0 l.n)).n : Int), j := 0, l := l, o := naO (winOf l 0 l.n) : A8 })).2) (some [.slice [.int .u8, .slice [.str], .slice [.int .i64]] (Row.nil), .v (i64 (14))]) (br (decide (0 ≤ (↑{ n := l.n, s := s, t := t, old := false, tk := false, m := (naO (winOf l 0 l.n)).n, len := (↑(naO (winOf l 0 l.n)).n : Int), j := 0, l := l, o := naO (winOf l 0 l.n) : A8 }.n : Int)) && decide ((↑{ n := l.n, s := s, t := t, old := false, tk := false, m := (naO (winOf l 0 l.n)).n, len := (↑(naO (winOf l 0 l.n)).n : Int), j := 0, l := l, o := naO (winOf l 0 l.n) : A8 }.n : Int) ≤ (↑{ n := l.n, s := s, t := t, old := false, tk := false, m := (naO (winOf l 0 l.n)).n, len := (↑(naO (winOf l 0 l.n)).n : Int), j := 0, l := l, o := naO (winOf l 0 l.n) : A8 }.n : Int)) && decide ((↑{ n := l.n, s := s, t := t, old := false, tk := false, m := (naO (winOf l 0 l.n)).n, len := (↑(naO (winOf l 0 l.n)).n : Int), j := 0, l := l, o := naO (winOf l 0 l.n) : A8 }.n : Int) ≤ 100000000000)) (br (c8b (↑l.n : Int).toNat l.n (↑l.n : Int) 0 (Row.zeros (↑l.n : Int).toNat) l) (some [.slice [.int .u8, .slice [.str], .slice [.int .i64]] (winOf (fldN (nx8b s t l) l.n 0 (Row.zeros (↑l.n : Int).toNat)) 0 l.n), .v (i64 (0))]) (none)) (none)))) (none))) (none))) (none) := by kernel_rfl
theorem t8' (l : Row) (s t : ByteArray) : evF C8x 6 22 [.slice ksL l, .v (.string s), .v (.string t)] =
    br (decide (l.n > 200) || okL l) (br (naE l != 0) (some [D.slice [.int .u8, .slice [.str], .slice [.int .i64]] .nil, D.v (i64 (naE l))]) (br (z3 (naO l).n (naO l).n 0) (br (!(fldN (nx8 (naO l) s t) (naO l).n 0 (false, false)).1) (some [D.slice [.int .u8, .slice [.str], .slice [.int .i64]] .nil, D.v (i64 6)]) (br (decide (t.size ≤ 1000000)) (br (!nmB t) (some [D.slice [.int .u8, .slice [.str], .slice [.int .i64]] .nil, D.v (i64 8)]) (br (fldN (nx8 (naO l) s t) (naO l).n 0 (false, false)).2 (some [D.slice [.int .u8, .slice [.str], .slice [.int .i64]] .nil, D.v (i64 14)]) (br (decide ((0 : Int) ≤ (l.n : Int)) && decide ((l.n : Int) ≤ (l.n : Int)) && decide ((l.n : Int) ≤ 100000000000)) (br (c8b l.n l.n (l.n : Int) 0 (Row.zeros l.n) l) (some [D.slice [.int .u8, .slice [.str], .slice [.int .i64]] (winOf (fldN (nx8b s t l) l.n 0 (Row.zeros l.n)) 0 l.n), D.v (i64 0)]) none) none))) none)) none)) none := by kernel_rfl
set_option maxRecDepth 100000 in
theorem ok8a : LoopOk C8x l8a.C := l8a.ok (fun _ _ _ => True) (by kernel_rfl)
  (fun its x h hc => by
    replace h : d8a its = some x := h
    unfold d8a at h
    split at h
    · cases h
      obtain ⟨h1, h2, h3⟩ := z3_iff.1 hc
      dsimp only at h1 h2 h3
      subst h1 h2
      rfl
    · cases h)
  (fun x hc => by have := (z3_iff.1 hc).2.2; show x.m < 18446744073709551616; omega)
  (fun _ _ => trivial) (fun _ _ _ _ _ _ => trivial)
  (fun q ⟨n, s, t, old, tk, m, len, j, l, o⟩ i ⟨a, b⟩ hc hi _ R K => by
    have h3 := (z3_iff.1 hc).2.2
    replace hi : i < m := hi
    dsimp only at h3
    refine (r8a R K q n m s t a b m i l o).trans ?_
    rw [Int.toNat_natCast, Nat.zero_add i, gd i m hi, ltd i m hi, wsn (by omega)]
    show br true (br true (br a (br b _ (br (eqS (o.S i 0) t) _ _)) (br b _ (br (eqS (o.S i 0) t) _ _))) _) _ = R (Go.Ev.bst p8a (l8a.S ⟨n, s, t, old, tk, m, len, j, l, o⟩ (i + 1) (a || eqS (o.S i 0) s, b || (eqS (o.S i 0) t && !eqS s t))))
    cases a <;> cases b <;> cases eqS (o.S i 0) t <;> rfl)
  (fun q ⟨n, s, t, old, tk, m, len, j, l, o⟩ ⟨a, b⟩ hc _ R K => by
    refine (r8a R K q n m s t a b m m l o).trans ?_
    rw [ltn m]
    rfl)
theorem sR_1 (r : Row) (e j : Nat) (x : Row) : (r.setR e j x).R e j = x := by rw [sR_at, if_pos ⟨rfl, rfl⟩]
theorem sR_no (r : Row) (e j : Nat) (x : Row) {e' j' : Nat} (h : ¬ (e' = e ∧ j' = j)) : (r.setR e j x).R e' j' = r.R e' j' := by rw [sR_at, if_neg h]
set_option maxRecDepth 100000 in
theorem ok8c : LoopOk C8x l8c.C := l8c.ok (fun x k a => (a.R x.i.toNat 1).n ≤ 1000000 + k) (by kernel_rfl)
  (fun its x h hc => by
    replace h : d8c its = some x := h
    unfold d8c at h
    split at h
    · cases h
      obtain ⟨h0, h1, h2, h3⟩ := c8c_iff.1 hc
      dsimp only at h0 h1 h2 h3
      subst h1 h2
      rfl
    · cases h)
  (fun x hc => by have := (c8c_iff.1 hc).2.2.2; show x.a < 18446744073709551616; omega)
  (fun x hc => (c8c_iff.1 hc).1.2.2)
  (fun x k a hc hk hI => by
    show ((a.setR x.i.toNat 1 (psN (a.R x.i.toNat 1) (subS x.s x.t (x.nm.S k 0)))).R x.i.toNat 1).n ≤ _
    rw [sR_1, psN_n]
    have hI : (a.R x.i.toNat 1).n ≤ 1000000 + k := hI
    omega)
  (fun q ⟨s, t, n, i, m, len, j, a, la, k0, o, l, nm⟩ k r hc hk hI R K => by
    obtain ⟨h0, h1, h2, h3⟩ := c8c_iff.1 hc
    replace hk : k < a := hk
    dsimp only at h0 h1 h2 h3
    replace hI : (r.R i.toNat 1).n ≤ 1000000 + k := hI
    refine (r8c R K q n m a s t i len j a k l r nm).trans ?_
    rw [Int.toNat_natCast, Nat.zero_add k, Nat.zero_add i.toNat, gd k a hk, ltd k a hk, wsn (by omega), ij i n ⟨h0.1, h0.2.1⟩, decide_eq_true (show i.toNat = i.toNat from rfl)]
    rw [decide_eq_true (show (r.R i.toNat 1).n + (winOf ((Row.zeros 1).setS 0 0 t) 0 1).n ≤ 10000000000 from (by show (r.R i.toNat 1).n + 1 ≤ 10000000000; omega)), decide_eq_true (show (r.R i.toNat 1).n + (winOf ((Row.zeros 1).setS 0 0 (nm.S k 0)) 0 1).n ≤ 10000000000 from (by show (r.R i.toNat 1).n + 1 ≤ 10000000000; omega))]
    show br true (br true (br (eqS (nm.S k 0) s) _ _) _) _ = R (Go.Ev.bst p8c (l8c.S ⟨s, t, n, i, m, len, j, a, la, k0, o, l, nm⟩ (k + 1) (r.setR i.toNat 1 (psN (r.R i.toNat 1) (bif eqS (nm.S k 0) s then t else nm.S k 0)))))
    cases eqS (nm.S k 0) s <;> rfl)
  (fun q ⟨s, t, n, i, m, len, j, a, la, k0, o, l, nm⟩ r hc hI R K => by
    refine (r8c R K q n m a s t i len j a a l r nm).trans ?_
    rw [ltn a]
    rfl)
theorem rn0_1 (l : Row) (i : Nat) (o : Row) : (rn0 l i o).R i 1 = .nil := by
  unfold rn0
  rw [sR_no _ _ _ _ (by omega), sR_1]
theorem nx8b_sp (s t : ByteArray) (l : Row) (i : Nat) (o : Row) : (nx8b s t l i o).n = o.n ∧ (∀ e, (nx8b s t l i o).I e 0 = (rn0 l i o).I e 0) ∧ (∀ e j, ¬ (e = i ∧ j = 1) → (nx8b s t l i o).R e j = (rn0 l i o).R e j) ∧ ((nx8b s t l i o).R i 1).n = (l.R i 1).n ∧ ∀ x, x < (l.R i 1).n → ((nx8b s t l i o).R i 1).S x 0 = subS s t ((l.R i 1).S x 0) := by
  refine fold_inv (Inv := fun k (r : Row) => r.n = o.n ∧ (∀ e, r.I e 0 = (rn0 l i o).I e 0) ∧ (∀ e j, ¬ (e = i ∧ j = 1) → r.R e j = (rn0 l i o).R e j) ∧ (r.R i 1).n = k ∧ ∀ x, x < k → (r.R i 1).S x 0 = subS s t ((l.R i 1).S x 0)) (nx := nx8c s t (l.R i 1) i) (len := (l.R i 1).n) (fun k r hk h => ?_) (m := (l.R i 1).n) (j := 0) (a := rn0 l i o) (by omega) ⟨rfl, fun _ => rfl, fun _ _ _ => rfl, by rw [rn0_1]; rfl, fun x hx => by omega⟩
  obtain ⟨h1, h2, h3, h4, h5⟩ := h
  unfold nx8c
  refine ⟨h1, h2, fun e j he => ?_, ?_, fun x hx => ?_⟩
  · rw [sR_no _ _ _ _ he]; exact h3 e j he
  · rw [sR_1, psN_n, h4]
  · rw [sR_1]
    by_cases e : x < k
    · rw [psN_lo _ _ (h4.symm ▸ e)]; exact h5 x e
    · have : x = (r.R i 1).n := by omega
      rw [this, psN_hi, h4]
set_option maxRecDepth 100000 in
theorem ok8b : LoopOk C8x l8b.C := l8b.ok (fun x k a => a.n = x.l.n) (by kernel_rfl)
  (fun its x h hc => by
    replace h : d8b its = some x := h
    unfold d8b at h
    split at h
    · cases h
      obtain ⟨⟨h1, h2, h3⟩, ⟨h4, h5, h6⟩, h7⟩ := c8b_iff.1 hc
      dsimp only at h1 h2 h3 h4 h5
      subst h4 h5 h1 h2
      rfl
    · cases h)
  (fun x hc => by have := (okL_iff.1 (c8b_iff.1 hc).2.2).1; show x.l.n < 18446744073709551616; omega)
  (fun x hc => (c8b_iff.1 hc).1.2.2)
  (fun x k a hc hk hI => (nx8b_sp x.s x.t x.l k a).1.trans hI)
  (fun q ⟨s, t, n, m, len, j, o, l⟩ i r hc hi hI R K => by
    have h7 := (c8b_iff.1 hc).2.2
    dsimp only at h7
    replace hi : i < l.n := hi
    have h8 := (okL_iff.1 h7).1
    have h9 := lb_names h7 hi
    have h10 := lb_nums h7 hi
    refine (r8b R K q l.n l.n s t l.n i l r).trans ?_
    rw [Int.toNat_natCast, Nat.zero_add i, gd i _ hi, ltd i _ hi, wsn (by omega)]
    rw [decide_eq_true (show 0 + (winOf (l.R i (0 + 1 + 1)) 0 (l.R i (0 + 1 + 1)).n).n ≤ 10000000000 from (by show 0 + (l.R i 2).n ≤ 10000000000; omega))]
    show br true (br true (br true (br true (br (c8c l.n i (l.R i 1).n (l.R i 1).n 0 (rn0 l i r)) _ _) _) _) _) _ = _
    rw [c8c_iff.2 ⟨⟨by omega, by omega, by rw [Int.toNat_natCast, rn0_1]; exact Nat.zero_le _⟩, rfl, rfl, h9⟩]
    rfl)
  (fun q ⟨s, t, n, m, len, j, o, l⟩ r hc hI R K => by
    refine (r8b R K q l.n l.n s t l.n l.n l r).trans ?_
    rw [ltn l.n]
    rfl)
theorem C8x_ok : CxOk C8x := mkCx_ok enter mixed (fun p h => by
  simp only [List.mem_cons, List.not_mem_nil, or_false] at h
  rcases h with rfl | rfl
  · exact den_known
  · exact den_name) (fun l h => by
  simp only [List.mem_cons, List.not_mem_nil, or_false] at h
  rcases h with rfl | rfl | rfl
  · exact ok8a
  · exact ok8b
  · exact ok8c)
def hasN (k : Row) (x : ByteArray) : Bool := anyF (eqN k x) k.n 0
/-- The error of Rename. -/
def reE (l : Row) (s t : ByteArray) : Int := bif naE l != 0 then naE l else bif hasN (naO l) s then bif nmB t then bif hasN (naO l) t && !eqS s t then 14 else 0 else 8 else 6
def rsR (l : Row) (s t : ByteArray) : Row := winOf (fldN (nx8b s t l) l.n 0 (Row.zeros l.n)) 0 l.n
def Frename : List D → Option (Bool × List D)
  | [.slice [.int .u8, .slice [.str], .slice [.int .i64]] l, .v (.string s), .v (.string t)] => some ((decide (l.n > 200) || okL l) && decide (t.size ≤ 1000000), [.slice [.int .u8, .slice [.str], .slice [.int .i64]] (bif reE l s t == 0 then rsR l s t else .nil), .v (i64 (reE l s t))])
  | _ => none
theorem fld8 (o : Row) (s t : ByteArray) : ∀ (m j : Nat) (a b : Bool), fldN (nx8 o s t) m j (a, b) = (a || anyF (eqN o s) m j, b || (anyF (eqN o t) m j && !eqS s t))
  | 0, j, a, b => by unfold fldN anyF; rw [Bool.or_false, Bool.false_and, Bool.or_false]
  | m + 1, j, a, b => by
    unfold fldN anyF
    rw [show nx8 o s t j (a, b) = (a || eqN o s j, b || (eqN o t j && !eqS s t)) from rfl, fld8 o s t m (j + 1)]
    cases a <;> cases b <;> cases eqN o s j <;> cases eqN o t j <;> cases eqS s t <;> simp
theorem kn_n (l : Row) : (knO l).n ≤ l.n := by
  unfold knO
  cases h : (knR l).1
  · have := runS_inv (Inv := fun j (o : Row) => o.n ≤ j) (stop := stK l) (nx := nxK l) (len := l.n) (fun j a hj h _ => by
      unfold nxK
      cases newB (l.I j 0)
      · exact Nat.le_succ_of_le h
      · rw [cond_true, pn_n]; omega) (m := l.n) (j := 0) (a := .nil) (by omega) (Nat.le_refl _)
    have h2 := this.2.2 h
    have h1 := this.1
    rw [h2] at h1
    exact h1
  · exact Nat.zero_le _
theorem na_le {l : Row} (h : (naE l != 0) = false) : l.n ≤ 200 ∧ naO l = knO l ∧ naE l = knE l := by
  unfold naE naO at *
  by_cases hl : l.n > 200
  · rw [decide_eq_true hl] at h; cases h
  · rw [decide_eq_false hl] at h ⊢
    exact ⟨by omega, rfl, rfl⟩
theorem fd_has (k : Row) (x : ByteArray) : decide (fdI k x < 0) = !hasN k x := by
  unfold fdI hasN
  cases anyF (eqN k x) k.n 0
  · rfl
  · exact decide_eq_false (by simp)
theorem den_rename : Den Tryd.prog 22 Frename := evF_den C8x_ok fun ds rs h => by
  unfold Frename at h
  split at h
  · rename_i l s t
    simp only [Option.some.injEq, Prod.mk.injEq, Bool.and_eq_true] at h
    obtain ⟨⟨h0, h1⟩, rfl⟩ := h
    refine (t8' l s t).trans ?_
    rw [show (decide (l.n > 200) || okL l) = true from h0, fld8, h1]
    unfold reE
    cases hE : (naE l != 0)
    · obtain ⟨h2, h3, h4⟩ := na_le hE
      have h5 : okL l = true := by
        rw [decide_eq_false (show ¬ l.n > 200 by omega)] at h0
        exact h0
      have h6 : (naO l).n ≤ 1000000 := by have := kn_n l; rw [h3]; omega
      rw [z3_iff.2 ⟨rfl, rfl, h6⟩, show c8b l.n l.n (l.n : Int) 0 (Row.zeros l.n) l = true from c8b_iff.2 ⟨⟨rfl, rfl, rfl⟩, ⟨rfl, rfl, by omega⟩, h5⟩, decide_eq_true (show (0 : Int) ≤ (l.n : Int) by omega), decide_eq_true (show (l.n : Int) ≤ (l.n : Int) by omega), decide_eq_true (show (l.n : Int) ≤ 100000000000 by omega)]
      show br true (br false _ (br true (br (!(hasN (naO l) s)) _ (br true (br (!nmB t) _ (br (hasN (naO l) t && !eqS s t) _ _)) _)) _)) _ = _
      cases hasN (naO l) s
      · rfl
      · cases nmB t
        · rfl
        · cases (hasN (naO l) t && !eqS s t) <;> rfl
    · show br true (br true _ _) _ = some [D.slice _ (bif naE l == 0 then _ else _), _]
      rw [show (naE l == 0) = false by rw [bne, Bool.not_eq_true'] at hE; exact hE]
      rfl
  · cases h
/-- A line of r is that of l, renamed. -/
def rnE (s t : ByteArray) (l r : Row) (i : Nat) : Prop := r.I i 0 = l.I i 0 ∧ ((r.R i 1).n = (l.R i 1).n ∧ ∀ x, x < (l.R i 1).n → (r.R i 1).S x 0 = subS s t ((l.R i 1).S x 0)) ∧ ((r.R i 2).n = (l.R i 2).n ∧ ∀ x, x < (l.R i 2).n → (r.R i 2).I x 0 = (l.R i 2).I x 0)
def rnL (s t : ByteArray) (l r : Row) : Prop := r.n = l.n ∧ ∀ i, i < l.n → rnE s t l r i
theorem rs_rn (l : Row) (s t : ByteArray) : rnL s t l (rsR l s t) := by
  have h := fold_inv (Inv := fun k (r : Row) => r.n = l.n ∧ ∀ i, i < k → rnE s t l r i) (nx := nx8b s t l) (len := l.n) (fun k r hk h => by
    obtain ⟨h1, h2, h3, h4, h5⟩ := nx8b_sp s t l k r
    refine ⟨h1.trans h.1, fun i hi => ?_⟩
    by_cases e : i = k
    · subst e
      refine ⟨?_, ⟨h4, h5⟩, ?_⟩
      · rw [h2]
        show ((r.setI i 0 (l.I i 0)).I i 0) = _
        rw [sI_at, if_pos ⟨rfl, rfl⟩]
      · have e2 : (nx8b s t l i r).R i 2 = cpR (l.R i 2) := by rw [h3 i 2 (by omega)]; unfold rn0; rw [sR_1]
        rw [e2]
        exact ⟨cpR_n _, fun _ _ => rfl⟩
    · have e1 : (nx8b s t l k r).I i 0 = r.I i 0 := by
        rw [h2]
        show ((r.setI k 0 (l.I k 0)).I i 0) = _
        rw [sI_at, if_neg (by omega)]
      have e2 : ∀ j, (nx8b s t l k r).R i j = r.R i j := fun j => by
        rw [h3 i j (by omega)]
        unfold rn0
        rw [sR_no _ _ _ _ (by omega), sR_no _ _ _ _ (by omega)]
        rfl
      unfold rnE
      rw [e1, e2, e2]
      exact h.2 i (by omega)) (m := l.n) (j := 0) (a := Row.zeros l.n) (by omega) ⟨rfl, fun i hi => by omega⟩
  exact ⟨rfl, h.2⟩
theorem rn_same {s t : ByteArray} {l r r' : Row} (h : rnL s t l r) (g : rnL s t l r') : saL r r' := by
  refine ⟨h.1.trans g.1.symm, fun i hi => ?_⟩
  obtain ⟨a1, ⟨a2, a3⟩, a4, a5⟩ := h.2 i (h.1 ▸ hi)
  obtain ⟨b1, ⟨b2, b3⟩, b4, b5⟩ := g.2 i (h.1 ▸ hi)
  exact ⟨a1.trans b1.symm, ⟨a2.trans b2.symm, fun x hx => (a3 x (a2 ▸ hx)).trans (b3 x (a2 ▸ hx)).symm⟩, a4.trans b4.symm, fun x hx => (a5 x (a4 ▸ hx)).trans (b5 x (a4 ▸ hx)).symm⟩
end Go.Proofs.YtopdfmhlgkbaaaaDoor

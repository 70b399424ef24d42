/- Texts T26 T27 T28 in one. No conditions. -/
import Derived.Test.YtopdfmhlgkbaaaaDoorMD
/- ScriptFirst: the loop and the tree. No conditions. -/
namespace Go.Proofs.YtopdfmhlgkbaaaaDoor
open Go.Ev Go.RowKit Go.Lib Go.Dec
set_option linter.all false
def pF : PSt := { τ := [.v (.sl 0)] ++ pu 4 ++ [.v (.bool), .v (.sl 1)] ++ pu 3 ++ [.v (.int .i64), .v (.int .i64)] ++ pu 120, saved := [[]], mem := [.row ksL false, .row [.str, .int .u8] true] }
structure AF where
  n : Nat
  b : Bool
  m : Nat
  k : Int
  i : Int
  l : Row
  o : Row
def dF (its : List It) : Option AF := match its with | [.n n, .b b, .n m, .i k, .i i, .r l, .r o] => some ⟨n, b, m, k, i, l, o⟩ | _ => none
def cF (x : AF) : Bool := decide (x.k = 0 ∧ x.i = 0 ∧ x.n ≤ 1000000 ∧ x.m ≤ 1000000)
theorem cF_iff {x : AF} : cF x = true ↔ x.k = 0 ∧ x.i = 0 ∧ x.n ≤ 1000000 ∧ x.m ≤ 1000000 := by unfold cF; rw [decide_eq_true_eq]
/-- Whether a line has a new name. -/
def nwL (l : Row) (i : Nat) : Bool := newB (l.I i 0) && !decide ((l.R i 1).n = 0)
def hitF (l o : Row) (i k : Nat) : Bool := !(o.S k 0 == (l.R i 1).S 0 0 && (o.I k 1 == l.I i 0 && true)) || decide (fdI (winOf o 0 k) ((l.R i 1).S 0 0) ≥ 0)
def stF (l o : Row) (m i k : Nat) : Bool := nwL l i && (decide (m ≤ k) || hitF l o i k)
def nxF (l : Row) (i k : Nat) : Nat := bif nwL l i then k + 1 else k
def lF : RunL AF Nat where
  f := 5
  id := 12
  lv := [0, 5, 6, 10, 11]
  lx := [4, 5, 6, 10]
  p := pF
  dat := dF
  S := fun x i k => [.n x.n, .b x.b, .n x.m, .i k, .i i, .r x.l, .r x.o]
  len := fun x => x.n
  cnd := cF
  ini := fun _ => 0
  stop := fun x i k => stF x.l x.o x.m i k
  nx := fun x i k => nxF x.l i k
  Kb := fun x i k K => K .ret ⟨us 4 ++ [.bool (false), .bool (x.b), .slice (some ⟨0, 0, some 0⟩) (x.m) (0)] ++ us 3 ++ [i64 (k)] ++ us 121, [[]], [some (.row [.str, .int .u8] true (x.o))]⟩
  Ke := fun x k K => K (.exit 0) ⟨us 5 ++ [.bool (x.b), .slice (some ⟨0, 0, some 0⟩) (x.m) (0)] ++ us 3 ++ [i64 (k)] ++ us 121, [[]], [some (.row [.str, .int .u8] true (x.o))]⟩
def Fgr (c b : Row → Bool) : List D → Option (Bool × List D)
  | [.slice [.int .u8, .slice [.str], .slice [.int .i64]] l] => some (c l, [.v (.bool (b l))])
  | _ => none
noncomputable def CF (gc gB nc : Row → Bool) (nO : Row → Row) (nE : Row → Int) (kc kB : Row → Row → Bool) : Cx := mkCx Tryd.prog fns [(14, Falive), (8, Fgr gc gB), (16, Fnq nc nO nE), (17, Fkq kc kB), (18, Fnew), (19, Ffind)] [lF.C]
theorem rF (gc gB nc : Row → Bool) (nO : Row → Row) (nE : Row → Int) (kc kB : Row → Row → Bool) (R : St → Option (List D)) (K : X → St → Option (List D)) (q n m : Nat) (b : Bool) (k i : Int) (l o : Row) : bodyOf (CF gc gB nc nO nE kc kB) 5 12 q (Go.Ev.bst pF [.n n, .b b, .n m, .i k, .i i, .r l, .r o]) (rnd [0, 5, 6, 10, 11] (some [4, 5, 6, 10]) R K) =
    br (decide (i < (↑n : Int))) (br (decide (0 ≤ i) && decide (i < (↑n : Int))) (br (!newB (l.I (0 + i.toNat) 0)) (R ⟨[.slice (some ⟨0, 0, some 0⟩) (n) (0)] ++ us 4 ++ [.bool (b), .slice (some ⟨1, 0, some 0⟩) (m) (0)] ++ us 3 ++ [i64 (k), i64 (IntKind.i64.wrap (i + 1))] ++ us 120, [[]], [some (.row [.int .u8, .slice [.str], .slice [.int .i64]] false (l)), some (.row [.str, .int .u8] true (o))]⟩) (br (decide (0 ≤ i) && decide (i < (↑n : Int))) (br ((↑(l.R (0 + i.toNat) 1).n : Int) == 0) (R ⟨[.slice (some ⟨0, 0, some 0⟩) (n) (0)] ++ us 4 ++ [.bool (b), .slice (some ⟨1, 0, some 0⟩) (m) (0)] ++ us 3 ++ [i64 (k), i64 (IntKind.i64.wrap (i + 1))] ++ us 120, [[]], [some (.row [.int .u8, .slice [.str], .slice [.int .i64]] false (l)), some (.row [.str, .int .u8] true (o))]⟩) (br (decide (k ≥ (↑m : Int))) (K .ret ⟨us 4 ++ [.bool (false), .bool (b), .slice (some ⟨0, 0, some 0⟩) (m) (0)] ++ us 3 ++ [i64 (k)] ++ us 121, [[]], [some (.row [.str, .int .u8] true (o))]⟩) (br (decide (0 ≤ k) && decide (k < (↑m : Int))) (br (decide (0 ≤ i) && decide (i < (↑n : Int))) (br (decide (0 ≤ 0) && decide (0 < (↑(l.R (0 + i.toNat) 1).n : Int))) (br (decide (0 ≤ i) && decide (i < (↑n : Int))) (br (!(o.S (0 + k.toNat) 0 == (l.R (0 + i.toNat) 1).S 0 0 && (o.I (0 + k.toNat) 1 == l.I (0 + i.toNat) 0 && true))) (K .ret ⟨us 4 ++ [.bool (false), .bool (b), .slice (some ⟨0, 0, some 0⟩) (m) (0)] ++ us 3 ++ [i64 (k)] ++ us 121, [[]], [some (.row [.str, .int .u8] true (o))]⟩) (br (decide (0 ≤ k) && decide (k ≤ (↑m : Int))) (br (decide (0 ≤ i) && decide (i < (↑n : Int))) (br (decide (0 ≤ 0) && decide (0 < (↑(l.R (0 + i.toNat) 1).n : Int))) (br (decide ((winOf o (0 + 0) (k.toNat - 0)).n ≤ 1000000)) (br (decide (fdI (winOf o (0 + 0) (k.toNat - 0)) ((l.R (0 + i.toNat) 1).S (0 + 0) 0) ≥ 0)) (K .ret ⟨us 4 ++ [.bool (false), .bool (b), .slice (some ⟨0, 0, some 0⟩) (m) (0)] ++ us 3 ++ [i64 (k)] ++ us 121, [[]], [some (.row [.str, .int .u8] true (o))]⟩) (R ⟨[.slice (some ⟨0, 0, some 0⟩) (n) (0)] ++ us 4 ++ [.bool (b), .slice (some ⟨1, 0, some 0⟩) (m) (0)] ++ us 3 ++ [i64 (IntKind.i64.wrap (k + 1)), i64 (IntKind.i64.wrap (i + 1))] ++ us 120, [[]], [some (.row [.int .u8, .slice [.str], .slice [.int .i64]] false (l)), some (.row [.str, .int .u8] true (o))]⟩)) (none)) (none)) (none)) (none))) (none)) (none)) (none)) (none)))) (none))) (none)) (K (.exit 0) ⟨us 5 ++ [.bool (b), .slice (some ⟨0, 0, some 0⟩) (m) (0)] ++ us 3 ++ [i64 (k)] ++ us 121, [[]], [some (.row [.str, .int .u8] true (o))]⟩) := by kernel_rfl
def fT : Option (List D) := some [.v (.bool true)]
def runF (l o : Row) : Bool × Nat × Nat := runS (stF l o o.n) (nxF l) l.n 0 0
def pre (l : Row) (a : Int) : Row := winOf l 0 a.toNat
theorem eF (gc gB nc : Row → Bool) (nO : Row → Row) (nE : Row → Int) (kc kB : Row → Row → Bool) (l : Row) (at_ : Int) : evF (CF gc gB nc nO nE kc kB) 6 5 [.slice ksL l, .v (i64 at_)] =
    br (gc (wiR l)) (br (gB (wiR l)) fT (br (decide (at_ < 0)) fT (br (decide (at_ > (l.n : Int))) fT (br (nc (wiR l)) (br (decide (0 ≤ at_) && decide (at_ ≤ (l.n : Int))) (br (nc (pre l at_)) (br (nE (wiR l) != 0) fT (br (nE (pre l at_) != 0) fF (br (decide (((nO (pre l at_)).n : Int) > ((nO (wiR l)).n : Int))) fF (br (decide (0 ≤ ((nO (pre l at_)).n : Int)) && decide (((nO (pre l at_)).n : Int) ≤ ((nO (wiR l)).n : Int))) (br (kc (winOf (nO (wiR l)) 0 ((nO (pre l at_)).n : Int).toNat) (wiR (nO (pre l at_)))) (br (!kB (winOf (nO (wiR l)) 0 ((nO (pre l at_)).n : Int).toNat) (wiR (nO (pre l at_)))) fF
      (br (cF ⟨l.n, true, (nO (wiR l)).n, 0, 0, l, nO (wiR l)⟩) (br (runF l (nO (wiR l))).1 fF (some [.v (.bool (((runF l (nO (wiR l))).2.2 : Int) == ((nO (wiR l)).n : Int)))])) none)) none) none)))) none) none) none)))) none := by kernel_rfl
end Go.Proofs.YtopdfmhlgkbaaaaDoor
/- ScriptFirst: the law. No conditions. -/
namespace Go.Proofs.YtopdfmhlgkbaaaaDoor
open Go.Ev Go.RowKit Go.Lib Go.Dec
set_option linter.all false
theorem fldN_succ {β : Type} (nx : Nat → β → β) : ∀ (m j : Nat) (a : β), fldN nx (m + 1) j a = nx (j + m) (fldN nx m j a)
  | 0, j, a => rfl
  | m + 1, j, a => by
    show fldN nx (m + 1) (j + 1) (nx j a) = _
    rw [fldN_succ nx m (j + 1) (nx j a), show j + 1 + m = j + (m + 1) by omega]
    rfl
theorem runS_out {β : Type} {stop : Nat → β → Bool} {nx : Nat → β → β} : ∀ (m j : Nat) (a : β), (runS stop nx m j a).1 = false → (∀ i, i < m → stop (j + i) (fldN nx i j a) = false) ∧ (runS stop nx m j a).2.2 = fldN nx m j a
  | 0, j, a, _ => ⟨fun i hi => absurd hi (Nat.not_lt_zero i), rfl⟩
  | m + 1, j, a, h => by
    cases hs : stop j a
    · rw [runS_s hs] at h ⊢
      obtain ⟨h1, h2⟩ := runS_out m (j + 1) (nx j a) h
      refine ⟨fun i hi => ?_, h2⟩
      cases i with
      | zero => exact hs
      | succ i =>
        have := h1 i (by omega)
        rw [show j + 1 + i = j + (i + 1) by omega] at this
        exact this
    · rw [runS_t hs] at h; cases h
theorem runS_in {β : Type} {stop : Nat → β → Bool} {nx : Nat → β → β} : ∀ (m j : Nat) (a : β), (∀ i, i < m → stop (j + i) (fldN nx i j a) = false) → runS stop nx m j a = (false, j + m, fldN nx m j a)
  | 0, j, a, _ => rfl
  | m + 1, j, a, h => by
    have h0 : stop j a = false := h 0 (by omega)
    rw [runS_s h0, runS_in m (j + 1) (nx j a) fun i hi => by
      have := h (i + 1) (by omega)
      rw [show j + (i + 1) = j + 1 + i by omega] at this
      exact this]
    rw [show j + 1 + m = j + (m + 1) by omega]
    rfl
/-- What is known after j lines. -/
def knS (l : Row) (j : Nat) : Row := fldN (nxK l) j 0 .nil
theorem knS_succ (l : Row) (j : Nat) : knS l (j + 1) = nxK l j (knS l j) := by
  unfold knS
  rw [fldN_succ, Nat.zero_add]
theorem knS_next (l : Row) (j : Nat) : (knS l j).n ≤ (knS l (j + 1)).n ∧ ∀ e, e < (knS l j).n → (knS l (j + 1)).S e 0 = (knS l j).S e 0 ∧ (knS l (j + 1)).I e 1 = (knS l j).I e 1 := by
  rw [knS_succ]
  unfold nxK
  cases newB (l.I j 0)
  · exact ⟨Nat.le_refl _, fun e _ => ⟨rfl, rfl⟩⟩
  · exact ⟨by show (knS l j).n ≤ (knS l j).n + 1; omega, fun e he => ⟨pn_S _ _ _ he, pn_I _ _ _ he⟩⟩
theorem knS_mono (l : Row) : ∀ (d j : Nat), (knS l j).n ≤ (knS l (j + d)).n ∧ ∀ e, e < (knS l j).n → (knS l (j + d)).S e 0 = (knS l j).S e 0 ∧ (knS l (j + d)).I e 1 = (knS l j).I e 1
  | 0, j => ⟨Nat.le_refl _, fun e _ => ⟨rfl, rfl⟩⟩
  | d + 1, j => by
    obtain ⟨h1, h2⟩ := knS_mono l d j
    obtain ⟨h3, h4⟩ := knS_next l (j + d)
    refine ⟨Nat.le_trans h1 h3, fun e he => ?_⟩
    obtain ⟨a, b⟩ := h2 e he
    obtain ⟨c, d'⟩ := h4 e (by omega)
    exact ⟨c.trans a, d'.trans b⟩
/-- Of lines without a fault. -/
theorem na_run {l : Row} (h : naE l = 0) : l.n ≤ 200 ∧ (∀ i, i < l.n → stK l i (knS l i) = false) ∧ naO l = winOf (knS l l.n) 0 (knS l l.n).n ∧ ∀ i, i < l.n → vaL l i = true := by
  obtain ⟨h1, h2, h3⟩ := na_zero h
  obtain ⟨_, h4, _⟩ := na_le (l := l) (by rw [h]; rfl)
  obtain ⟨h5, h6⟩ := runS_out (stop := stK l) (nx := nxK l) l.n 0 .nil h2
  refine ⟨h1, fun i hi => by have := h5 i hi; rw [Nat.zero_add] at this; exact this, ?_, h3⟩
  rw [h4]
  unfold knO
  rw [h2]
  have : (knR l).2.2 = knS l l.n := h6
  rw [this]
  rfl
theorem na_pre {l : Row} (h : naE l = 0) {a : Nat} (ha : a ≤ l.n) : naE (winOf l 0 a) = 0 ∧ naO (winOf l 0 a) = winOf (knS l a) 0 (knS l a).n := by
  obtain ⟨h1, h2, _, _⟩ := na_run h
  have hr : knR (winOf l 0 a) = (false, 0 + a, knS l a) := by
    have : knR (winOf l 0 a) = runS (stK l) (nxK l) a 0 .nil := rfl
    rw [this]
    exact runS_in a 0 Row.nil fun i hi => by rw [Nat.zero_add]; exact h2 i (by omega)
  have hn : (winOf l 0 a).n = a := rfl
  unfold naE naO knE knO
  rw [hr, hn, decide_eq_false (show ¬ a > 200 by omega)]
  exact ⟨rfl, rfl⟩
theorem nwL_is {l : Row} (h : naE l = 0) {i : Nat} (hi : i < l.n) : nwL l i = newB (l.I i 0) := by
  obtain ⟨_, _, _, hv⟩ := na_run h
  obtain ⟨_, hn⟩ := va_word (hv i hi)
  unfold nwL
  cases hw : newB (l.I i 0)
  · rfl
  · rw [hn hw]; rfl
theorem beq_bytes {a b : ByteArray} (h : a = b) : (a == b) = true := by
  subst h
  show (a.data == a.data) = true
  exact beq_self_eq_true _
theorem neK_false {l o : Row} {i : Nat} (h1 : l.S i 0 = o.S i 0) (h2 : l.I i 1 = o.I i 1) : neK l o i = false := by
  unfold neK
  rw [beq_bytes h1, h2, beq_self_eq_true]
  rfl
/-- The loop finds nothing wrong. -/
theorem runF_ok {l : Row} (h : naE l = 0) : runF l (nmO l) = (false, l.n, (nmO l).n) := by
  obtain ⟨h1, h2, h3, hv⟩ := na_run h
  have hO : nmO l = winOf (knS l l.n) 0 (knS l l.n).n := by unfold nmO; rw [h3]; rfl
  have hOn : (nmO l).n = (knS l l.n).n := by rw [hO]; rfl
  have hK : ∀ i, i ≤ l.n → fldN (nxF l) i 0 0 = (knS l i).n := by
    intro i
    induction i with
    | zero => intro _; rfl
    | succ i ih =>
      intro hi
      rw [fldN_succ, ih (by omega), Nat.zero_add, knS_succ]
      unfold nxF nxK
      rw [nwL_is h (by omega)]
      cases newB (l.I i 0) <;> rfl
  unfold runF
  rw [runS_in l.n 0 0 fun i hi => ?_, hK l.n (Nat.le_refl _), hOn, Nat.zero_add]
  rw [Nat.zero_add, hK i (by omega)]
  unfold stF
  rw [nwL_is h hi]
  cases hw : newB (l.I i 0)
  · rfl
  · have hst := h2 i hi
    have hs : knS l (i + 1) = pushN (knS l i) ((l.R i 1).S 0 0) (l.I i 0) := by
      rw [knS_succ]
      unfold nxK
      rw [hw]
      rfl
    obtain ⟨d, hd⟩ : ∃ d, l.n = (i + 1) + d := ⟨l.n - (i + 1), by omega⟩
    obtain ⟨m1, m2⟩ := knS_mono l d (i + 1)
    rw [← hd] at m1 m2
    have hn1 : (knS l (i + 1)).n = (knS l i).n + 1 := by rw [hs]; rfl
    obtain ⟨e1, e2⟩ := m2 (knS l i).n (by omega)
    rw [hs, pn_Sn] at e1
    rw [hs, pn_In] at e2
    have hS : (nmO l).S (knS l i).n 0 = (l.R i 1).S 0 0 := by rw [hO]; exact e1
    have hI : (nmO l).I (knS l i).n 1 = l.I i 0 := by rw [hO]; exact e2
    obtain ⟨m3, m4⟩ := knS_mono l (d + 1) i
    rw [show i + (d + 1) = l.n by omega] at m3 m4
    have hfd : fdI (winOf (nmO l) 0 (knS l i).n) ((l.R i 1).S 0 0) = fdI (knS l i) ((l.R i 1).S 0 0) := by
      unfold fdI
      have e : ∀ e, e < (knS l i).n → eqN (winOf (nmO l) 0 (knS l i).n) ((l.R i 1).S 0 0) e = eqN (knS l i) ((l.R i 1).S 0 0) e := fun e he => by
        unfold eqN
        rw [show (winOf (nmO l) 0 (knS l i).n).S e 0 = (knS l l.n).S e 0 by rw [hO]; rfl, (m4 e he).1]
      have ha : anyF (eqN (winOf (nmO l) 0 (knS l i).n) ((l.R i 1).S 0 0)) (knS l i).n 0 = anyF (eqN (knS l i) ((l.R i 1).S 0 0)) (knS l i).n 0 := anyF_congr fun e' _ he => e e' (by omega)
      show (bif anyF (eqN (winOf (nmO l) 0 (knS l i).n) ((l.R i 1).S 0 0)) (knS l i).n 0 then _ else _) = _
      rw [ha]
      cases hc : anyF (eqN (knS l i) ((l.R i 1).S 0 0)) (knS l i).n 0
      · rfl
      · exfalso
        unfold stK at hst
        rw [hv i hi, hw] at hst
        have hst : (!decide (fdI (knS l i) ((l.R i 1).S 0 0) < 0)) = false := hst
        rw [fd_has] at hst
        unfold hasN at hst
        rw [hc] at hst
        cases hst
    have hlt : fdI (knS l i) ((l.R i 1).S 0 0) < 0 := by
      unfold stK at hst
      rw [hv i hi, hw] at hst
      have hst : (!decide (fdI (knS l i) ((l.R i 1).S 0 0) < 0)) = false := hst
      simpa using hst
    unfold hitF
    rw [hOn, decide_eq_false (show ¬ (knS l l.n).n ≤ (knS l i).n by omega), hS, hI, hfd, decide_eq_false (show ¬ fdI (knS l i) ((l.R i 1).S 0 0) ≥ 0 by omega), beq_bytes rfl, beq_self_eq_true]
    rfl
/-- The beginning of what is known. -/
theorem first_same {l : Row} (h : naE l = 0) {a : Nat} (ha : a ≤ l.n) : (nmO (winOf l 0 a)).n ≤ (nmO l).n ∧ saNB (winOf (nmO l) 0 (nmO (winOf l 0 a)).n) (wiR (nmO (winOf l 0 a))) = true := by
  obtain ⟨_, _, h3, _⟩ := na_run h
  obtain ⟨_, h4⟩ := na_pre h ha
  have hO : nmO l = winOf (knS l l.n) 0 (knS l l.n).n := by unfold nmO; rw [h3]; rfl
  have hP : nmO (winOf l 0 a) = winOf (knS l a) 0 (knS l a).n := by unfold nmO; rw [h4]; rfl
  obtain ⟨m1, m2⟩ := knS_mono l (l.n - a) a
  rw [show a + (l.n - a) = l.n by omega] at m1 m2
  rw [hO, hP]
  refine ⟨m1, ?_⟩
  unfold saNB
  rw [Bool.and_eq_true]
  refine ⟨decide_eq_true rfl, ?_⟩
  rw [Bool.not_eq_true', anyF_false]
  intro e _ he
  have he : e < (knS l a).n := by have : e < 0 + (knS l a).n := he; omega
  exact neK_false (m2 e he).1 (m2 e he).2
end Go.Proofs.YtopdfmhlgkbaaaaDoor
/- ScriptFirst: the law's function gives true. No conditions. -/
namespace Go.Proofs.YtopdfmhlgkbaaaaDoor
open Go.Ev Go.RowKit Go.Lib Go.Dec
set_option linter.all false
noncomputable abbrev CFi : Cx := CF (fun l => decide (l.n ≤ big)) greB tcB nmO naE (fun l _ => decide (l.n ≤ big)) saNB
set_option maxRecDepth 100000 in
theorem okF : LoopOk CFi lF.C := lF.ok (fun x i k => k ≤ i) (by kernel_rfl)
  (fun its x h hc => by
    replace h : dF its = some x := h
    unfold dF at h
    split at h
    · cases h
      obtain ⟨h1, h2, h3, h4⟩ := cF_iff.1 hc
      dsimp only at h1 h2
      subst h1 h2
      rfl
    · cases h)
  (fun x hc => by have := (cF_iff.1 hc).2.2.1; show x.n < 18446744073709551616; omega)
  (fun x hc => Nat.le_refl _)
  (fun x i k hc hi hI hs => by
    show nxF x.l i k ≤ i + 1
    unfold nxF
    cases nwL x.l i
    · show k ≤ i + 1; omega
    · show k + 1 ≤ i + 1; omega)
  (fun q ⟨n, b, m, k0, i0, l, o⟩ i k hc hi hI R K => by
    obtain ⟨h1, h2, h3, h4⟩ := cF_iff.1 hc
    dsimp only at h1 h2 h3 h4
    replace hi : i < n := hi
    refine (rF (fun l => decide (l.n ≤ big)) greB tcB nmO naE (fun l _ => decide (l.n ≤ big)) saNB R K q n m b k i l o).trans ?_
    rw [Int.toNat_natCast, Nat.zero_add i, gd i n hi, ltd i n hi, wsn (j := i) (by omega), wsn (j := k) (by omega)]
    show _ = br (stF l o m i k) _ _
    unfold stF nwL
    have eS : lF.S ⟨n, b, m, k0, i0, l, o⟩ (i + 1) (nxF l i k) = [.n n, .b b, .n m, .i ((nxF l i k : Nat) : Int), .i ((i + 1 : Nat) : Int), .r l, .r o] := rfl
    show _ = br _ _ (R (Go.Ev.bst pF (lF.S ⟨n, b, m, k0, i0, l, o⟩ (i + 1) (nxF l i k))))
    rw [eS]
    unfold nxF nwL
    cases hw : newB (l.I i 0)
    · rfl
    · by_cases hz : (l.R i 1).n = 0
      · rw [decide_eq_true hz, show (((l.R i 1).n : Int) == 0) = true by rw [hz]; rfl]
        rfl
      · rw [decide_eq_false hz, show (((l.R i 1).n : Int) == 0) = false from beq_eq_false_iff_ne.2 (by omega)]
        by_cases hm : m ≤ k
        · rw [decide_eq_true hm, decide_eq_true (show (k : Int) ≥ (m : Int) by omega)]
          rfl
        · rw [decide_eq_false hm, decide_eq_false (show ¬ (k : Int) ≥ (m : Int) by omega), gd k m (by omega), Int.toNat_natCast, Nat.zero_add k, decide_eq_true (show (0 : Int) < ((l.R i 1).n : Int) by omega), decide_eq_true (show (0 : Int) ≤ (k : Int) by omega), decide_eq_true (show (k : Int) ≤ (m : Int) by omega), decide_eq_true (show (winOf o (0 + 0) (k - 0)).n ≤ 1000000 from (by show k - 0 ≤ _; omega))]
          unfold hitF
          cases ha : (!(o.S k 0 == (l.R i 1).S 0 0 && (o.I k 1 == l.I i 0 && true)))
          · cases hb : decide (fdI (winOf o 0 k) ((l.R i 1).S 0 0) ≥ 0)
            · rfl
            · rfl
          · rfl)
  (fun q ⟨n, b, m, k0, i0, l, o⟩ k hc hI R K => by
    refine (rF (fun l => decide (l.n ≤ big)) greB tcB nmO naE (fun l _ => decide (l.n ≤ big)) saNB R K q n m b k n l o).trans ?_
    rw [ltn n]
    rfl)
theorem den_greatq : DenW Tryd.prog Wd 8 (Fgr (fun l => decide (l.n ≤ big)) greB) := (den_great.at Wd).less fun ds rs h => by
  unfold Fgr at h
  split at h
  · exact h
  · cases h
theorem CF_ok : CxW CFi Wd := by
 unfold CFi CF
 exact mkCx_okW enter mixed (fun p h => by
  simp only [List.mem_cons, List.not_mem_nil, or_false] at h
  rcases h with rfl | rfl | rfl | rfl | rfl | rfl
  · exact den_alive
  · exact den_greatq
  · exact den_namesq
  · exact den_sameNq
  · exact den_new.at _
  · exact den_find.at _) (fun l h => by
  simp only [List.mem_cons, List.not_mem_nil, or_false] at h
  subst h
  exact okF)
theorem law_first (l : Row) (a : Int) (hl : l.n ≤ big) : evF CFi 6 5 [.slice ksL l, .v (i64 a)] = some [.v (.bool true)] := by
  refine (eF (fun l => decide (l.n ≤ big)) greB tcB nmO naE (fun l _ => decide (l.n ≤ big)) saNB l a).trans ?_
  have hw : wiR l = winOf l 0 l.n := rfl
  rw [decide_eq_true (show (wiR l).n ≤ big from hl)]
  cases hg : greB (wiR l)
  · have hok := gre_ok hg
    by_cases h1 : a < 0
    · rw [decide_eq_true h1]; rfl
    · rw [decide_eq_false h1]
      by_cases h2 : a > (l.n : Int)
      · rw [decide_eq_true h2]; rfl
      · obtain ⟨n, rfl⟩ := Int.eq_ofNat_of_zero_le (show 0 ≤ a by omega)
        have hn : n ≤ l.n := by omega
        have hp : pre l (n : Int) = winOf (wiR l) 0 n := by unfold pre; rw [Int.toNat_natCast]; rfl
        have hokp : tcB (winOf (wiR l) 0 n) = true := by
          unfold tcB
          rw [Bool.or_eq_true]
          right
          obtain ⟨g1, g2⟩ := okL_iff.1 hok
          exact okL_iff.2 ⟨Nat.le_trans hn g1, fun j hj => g2 j (Nat.lt_of_lt_of_le hj hn)⟩
        rw [decide_eq_false h2, decide_eq_true (show (0 : Int) ≤ (n : Int) by omega), decide_eq_true (show (n : Int) ≤ (l.n : Int) by omega), hp, hokp, show tcB (wiR l) = true by unfold tcB; rw [hok, Bool.or_true]]
        cases he : (naE (wiR l) != 0)
        · have he : naE (wiR l) = 0 := by simpa using he
          obtain ⟨p1, _⟩ := na_pre he (a := n) hn
          obtain ⟨q1, q2⟩ := first_same he (a := n) hn
          have hrun := runF_ok he
          have hrun : runF l (nmO (wiR l)) = (false, l.n, (nmO (wiR l)).n) := hrun
          have hO : (nmO (wiR l)).n ≤ (wiR l).n := by
            obtain ⟨_, _, h3, _⟩ := na_run he
            have h4 := kn_n (wiR l)
            obtain ⟨_, h5, _⟩ := na_le (l := wiR l) (by rw [he]; rfl)
            show (naO (wiR l)).n ≤ _
            rw [h5]
            exact h4
          have hl2 : (wiR l).n ≤ 200 := (na_run he).1
          have hbig : 1000000 ≤ big := Nat.le_of_ble_eq_true (by kernel_rfl)
          rw [p1, bne_self_eq_false, decide_eq_false (show ¬ ((nmO (winOf (wiR l) 0 n)).n : Int) > ((nmO (wiR l)).n : Int) by omega), decide_eq_true (show (0 : Int) ≤ ((nmO (winOf (wiR l) 0 n)).n : Int) by omega), decide_eq_true (show ((nmO (winOf (wiR l) 0 n)).n : Int) ≤ ((nmO (wiR l)).n : Int) by omega), Int.toNat_natCast, q2,
            decide_eq_true (show (winOf (nmO (wiR l)) 0 (nmO (winOf (wiR l) 0 n)).n).n ≤ big from (by show (nmO (winOf (wiR l) 0 n)).n ≤ big; omega)), hrun, cF_iff.2 ⟨rfl, rfl, (show l.n ≤ 1000000 from (by have : l.n ≤ 200 := hl2; omega)), (show (nmO (wiR l)).n ≤ 1000000 by omega)⟩]
          show some [D.v (.bool (((nmO (wiR l)).n : Int) == ((nmO (wiR l)).n : Int)))] = _
          rw [beq_self_eq_true]
        · rfl
  · rfl
end Go.Proofs.YtopdfmhlgkbaaaaDoor

/- Shares and what is owed: sums; the law LedgerShares. No conditions. -/
import Derived.Test.YtpblmkephkhlkaaDoorE31
namespace Go.Proofs.YtpblmkephkhlkaaDoor.Sh
open Go.Ev Mk
set_option linter.all false
theorem tot_setI {o : Row} {i : Nat} {x : Int} : ∀ {n}, tot (bF (o.setI i 0 x)) n = tot (bF o) n + if i < n then x - o.I i 0 else 0
  | 0 => by simp [tot]
  | n + 1 => by
    unfold tot
    rw [tot_setI (n := n)]
    have h : bF (o.setI i 0 x) n = if n = i then x else o.I n 0 := sI_I
    have h' : bF o n = o.I n 0 := rfl
    rw [h, h']
    by_cases hn : n = i
    · subst hn
      rw [if_pos rfl, if_neg (show ¬ n < n by omega), if_pos (show n < n + 1 by omega)]; omega
    · rw [if_neg hn]
      by_cases hi : i < n
      · rw [if_pos hi, if_pos (show i < n + 1 by omega)]; omega
      · rw [if_neg hi, if_neg (show ¬ i < n + 1 by omega)]; omega
def ss (c : Int) (m : Nat) : Nat → Nat → Int
  | 0, _ => 0
  | q + 1, j => Lg.sh c m j + ss c m q (j + 1)
theorem ss_lf {c : Int} {m : Nat} (hc : 1 ≤ c) : ∀ q j, j + q = m → ss c m q j = Lg.lf c m j - Lg.lf c m m
  | 0, j, h => by obtain rfl : j = m := by omega
                  show (0 : Int) = _; omega
  | q + 1, j, h => by
    unfold ss
    rw [ss_lf hc q (j + 1) (by omega), ← Lg.lf_step hc (show j < m by omega)]
    omega
theorem ss_all {c : Int} {m : Nat} (hc : 1 ≤ c) (hm : 0 < m) : ss c m m 0 = c := by
  obtain ⟨h1, h2, h3, h4, h5, _⟩ := Lg.div_facts hc hm
  rw [ss_lf hc m 0 (by omega)]
  have e0 : Lg.lf c m 0 = c := by
    unfold Lg.lf
    split
    · simp
    · rename_i h
      have : c % m = 0 := by simp at h; omega
      rw [this]; simp
  have e1 : Lg.lf c m m = 0 := by
    unfold Lg.lf
    rw [if_neg (by omega)]
    omega
  omega
theorem bad_facts {n : Int} {r : Row} {j : Nat} (h : Lg.badE n r j = false) : (0 ≤ r.I j 0 ∧ r.I j 0 < n) ∧ ∀ k, k < j → r.I k 0 ≠ r.I j 0 := by
  unfold Lg.badE Lg.isB Lg.dup at h
  simp only [Bool.or_eq_false_iff, Bool.not_eq_false', Bool.and_eq_true, decide_eq_true_eq] at h
  refine ⟨by omega, fun k hk => ?_⟩
  have := anyF_false.1 h.2 k (by omega) (by omega)
  simpa using this
theorem shs_spec {n : Nat} {r : Row} {c : Int} {m : Nat} : ∀ (q j : Nat) (o : Row), (∀ i, i < j + q → Lg.badE n r i = false) →
    (∀ p : Nat, (∀ i, j ≤ i → i < j + q → r.I i 0 ≠ (p : Int)) → (Lg.shs r c m q j o).I p 0 = o.I p 0) ∧ (∀ i, j ≤ i → i < j + q → (Lg.shs r c m q j o).I (r.I i 0).toNat 0 = Lg.sh c m i) ∧
    ((∀ i, j ≤ i → i < j + q → o.I (r.I i 0).toNat 0 = 0) → tot (bF (Lg.shs r c m q j o)) n = tot (bF o) n + ss c m q j)
  | 0, j, o, _ => ⟨fun _ _ => rfl, fun i _ _ => by omega, fun _ => by show tot (bF o) n = _ + 0; omega⟩
  | q + 1, j, o, h => by
    have e : Lg.shStep r c m j o = o.setI (r.I j 0).toNat 0 (Lg.sh c m j) := by unfold Lg.shStep; rw [Nat.zero_add, Nat.zero_add]
    obtain ⟨⟨b1, b2⟩, b3⟩ := bad_facts (h j (by omega))
    obtain ⟨i1, i2, i3⟩ := shs_spec (m := m) (c := c) q (j + 1) (Lg.shStep r c m j o) (fun i hi => h i (by omega))
    have hne : ∀ i, j + 1 ≤ i → i < j + 1 + q → r.I i 0 ≠ r.I j 0 := fun i a b => ((bad_facts (h i (by omega))).2 j (by omega)).symm
    unfold Lg.shs
    refine ⟨fun p hp => ?_, fun i a b => ?_, fun hz => ?_⟩
    · rw [i1 p (fun i a b => hp i (by omega) (by omega)), e, sI_ne (by have := hp j (by omega) (by omega); omega)]
    · by_cases hij : i = j
      · subst hij
        rw [i1 _ (fun k a b => by have := hne k a b; omega), e, sI_same]
      · exact i2 i (by omega) (by omega)
    · rw [i3 (fun i a b => by
        have := hne i a b
        have := (bad_facts (h i (by omega))).1
        rw [e, sI_ne (by omega)]
        exact hz i (by omega) (by omega)), e, tot_setI, if_pos (show (r.I j 0).toNat < n by omega), hz j (by omega) (by omega)]
      have e2 : ss c m (q + 1) j = Lg.sh c m j + ss c m q (j + 1) := rfl
      omega
theorem sh_mono {c : Int} {m j k : Nat} (h : j ≤ k) : Lg.sh c m k ≤ Lg.sh c m j ∧ Lg.sh c m j - Lg.sh c m k ≤ 1 := by
  unfold Lg.sh
  split <;> split <;> omega
theorem tot_zero {n k : Nat} : tot (bF (Row.zeros k)) n = 0 := by
  induction n with
  | zero => rfl
  | succ n ih => unfold tot; rw [ih]; rfl
/-- The shares of a valid expense. -/
theorem shR_spec {n : Nat} {b c : Int} {r : Row} (h : Lg.shE n b c r = 0) : (Lg.shR n b c r).n = n ∧ tot (bF (Lg.shR n b c r)) n = c ∧ (∀ k, k < r.n → (0 ≤ r.I k 0 ∧ r.I k 0 < n) ∧ (Lg.shR n b c r).I (r.I k 0).toNat 0 = Lg.sh c r.n k) ∧
    Lg.expB n b c r = true ∧ (1 ≤ n ∧ n ≤ 10) ∧ (0 ≤ b ∧ b < n) ∧ (1 ≤ c ∧ c ≤ 1000000000) ∧ ∀ p, 0 ≤ (Lg.shR n b c r).I p 0 ∧ (Lg.shR n b c r).I p 0 ≤ c + 1 := by
  have hR : Lg.shR n b c r = winOf (Lg.shs r c r.n r.n 0 (.zeros n)) 0 n := by
    unfold Lg.shR
    rw [h]
    rfl
  unfold Lg.shE at h
  cases hp : Lg.partiesB n
  · rw [hp] at h; exact absurd (show (2 : Int) = 0 from h) (by decide)
  cases he : Lg.expB n b c r
  · rw [hp, he] at h; exact absurd (show (8 : Int) = 0 from h) (by decide)
  have he' := he
  simp only [Lg.partiesB, Bool.and_eq_true, decide_eq_true_eq] at hp
  simp only [Lg.expB, Lg.isB, Bool.and_eq_true, decide_eq_true_eq, Bool.not_eq_true'] at he'
  obtain ⟨⟨⟨⟨h1, h2⟩, h3⟩, h4⟩, h5⟩ := he'
  have hb : ∀ i, i < 0 + r.n → Lg.badE n r i = false := fun i hi => anyF_false.1 h5 i (by omega) hi
  obtain ⟨s1, s2, s3⟩ := shs_spec (n := n) (r := r) (c := c) (m := r.n) r.n 0 (.zeros n) hb
  have hI : ∀ p, (Lg.shR n b c r).I p 0 = (Lg.shs r c r.n r.n 0 (.zeros n)).I p 0 := fun p => by rw [hR]; rfl
  have hF : bF (Lg.shR n b c r) = bF (Lg.shs r c r.n r.n 0 (.zeros n)) := funext hI
  refine ⟨by rw [hR]; exact winOf_n, ?_, fun k hk => ⟨(bad_facts (hb k (by omega))).1, by rw [hI]; exact s2 k (by omega) (by omega)⟩, rfl, by omega, by omega, ⟨h2, h3⟩, fun p => ?_⟩
  · rw [hF, s3 (fun _ _ _ => rfl), tot_zero, ss_all h2 (by omega)]
    omega
  · rw [hI]
    by_cases hx : ∃ i, i < r.n ∧ r.I i 0 = (p : Int)
    · obtain ⟨i, hi, hip⟩ := hx
      have := s2 i (by omega) (by omega)
      rw [hip, Int.toNat_natCast] at this
      rw [this]
      exact Lg.sh_bounds h2 hi
    · rw [s1 p (fun i _ hi hip => hx ⟨i, by omega, hip⟩)]
      show 0 ≤ (0 : Int) ∧ (0 : Int) ≤ c + 1
      omega
end Go.Proofs.YtpblmkephkhlkaaDoor.Sh
namespace Go.Proofs.YtpblmkephkhlkaaDoor.Sh
open Go.Ev Mk
set_option linter.all false
theorem tot_add {f g h : Nat → Int} : ∀ {n}, (∀ i, i < n → f i = g i + h i) → tot f n = tot g n + tot h n
  | 0, _ => rfl
  | n + 1, hh => by
    unfold tot
    rw [tot_add (n := n) (fun i hi => hh i (by omega)), hh n (by omega)]
    omega
theorem adds_I {s : Row} : ∀ (q k : Nat) (o : Row), (∀ p, k ≤ p → p < k + q → (-1000000000000000 ≤ o.I p 0 ∧ o.I p 0 ≤ 1000000000000000) ∧ 0 ≤ s.I p 0 ∧ s.I p 0 ≤ 10000000000) → ∀ p, (Lg.adds s q k o).I p 0 = if k ≤ p ∧ p < k + q then o.I p 0 + s.I p 0 else o.I p 0
  | 0, k, o, _, p => by rw [if_neg (by omega)]; rfl
  | q + 1, k, o, h, p => by
    have hk := h k (by omega) (by omega)
    have e : Lg.add1 s k o = o.setI k 0 (o.I k 0 + s.I k 0) := by
      unfold Lg.add1
      rw [Nat.zero_add]
      congr 1
      exact wiN (by omega) (by omega)
    unfold Lg.adds
    rw [e, adds_I q (k + 1) _ (fun p a b => by rw [sI_ne (by omega)]; exact h p (by omega) (by omega)) p, sI_I]
    by_cases hp : p = k
    · subst hp
      rw [if_neg (by omega), if_pos rfl, if_pos (by omega)]
    · rw [if_neg hp]
      by_cases hc : k + 1 ≤ p ∧ p < k + 1 + q
      · rw [if_pos hc, if_pos (by omega)]
      · rw [if_neg hc, if_neg (by omega)]
theorem ow_step {n : Nat} {r o : Row} {j : Nat} {B : Int} (hf : Lg.failE n r j = false) (hB : B ≤ 100000000000000) (ho : ∀ p, p < n → -B ≤ o.I p 0 ∧ o.I p 0 ≤ B) :
    tot (bF (Lg.owStep n r j o)) n = tot (bF o) n ∧ ∀ p, p < n → -(B + 3000000000) ≤ (Lg.owStep n r j o).I p 0 ∧ (Lg.owStep n r j o).I p 0 ≤ B + 3000000000 := by
  have h0 : Lg.sE n r j = 0 := by simpa [Lg.failE] using hf
  obtain ⟨s1, s2, _, _, s5, s6, s7, s8⟩ := shR_spec (n := n) h0
  have hI := adds_I (s := Lg.sR n r j) n 0 o (fun p _ hp => ⟨by have := ho p (by omega); omega, by have := s8 p; unfold Lg.sR; omega⟩)
  have ht : tot (bF (Lg.adds (Lg.sR n r j) n 0 o)) n = tot (bF o) n + r.I (0 + j) 1 := by
    rw [tot_add (f := bF (Lg.adds (Lg.sR n r j) n 0 o)) (g := bF o) (h := bF (Lg.sR n r j)) (fun i hi => by
      show (Lg.adds (Lg.sR n r j) n 0 o).I i 0 = _
      rw [hI i, if_pos (by omega)]
      rfl)]
    have : tot (bF (Lg.sR n r j)) n = r.I (0 + j) 1 := s2
    omega
  have hA : ∀ p, p < n → -B ≤ (Lg.adds (Lg.sR n r j) n 0 o).I p 0 ∧ (Lg.adds (Lg.sR n r j) n 0 o).I p 0 ≤ B + 1000000001 := fun p hp => by
    have h1 := ho p hp
    have h2 : 0 ≤ (Lg.sR n r j).I p 0 ∧ (Lg.sR n r j).I p 0 ≤ r.I (0 + j) 1 + 1 := s8 p
    rw [hI p, if_pos (by omega)]
    omega
  unfold Lg.owStep
  rw [Int.toNat_natCast]
  unfold Lg.less
  have hb : (r.I (0 + j) 0).toNat < n := by omega
  have hb2 := hA _ hb
  rw [Nat.zero_add (r.I (0 + j) 0).toNat, show IntKind.i64.wrap ((Lg.adds (Lg.sR (n : Int) r j) n 0 o).I (r.I (0 + j) 0).toNat 0 - r.I (0 + j) 1) = (Lg.adds (Lg.sR (n : Int) r j) n 0 o).I (r.I (0 + j) 0).toNat 0 - r.I (0 + j) 1 from wiN (by omega) (by omega)]
  refine ⟨?_, fun p hp => ?_⟩
  · rw [tot_setI, if_pos hb, ht]; omega
  · rw [sI_I]
    have := hA p hp
    split <;> omega
theorem ows_spec {n : Nat} {r : Row} : ∀ (m j : Nat) (o : Row) (B : Int), (∀ i, i < j + m → Lg.failE n r i = false) → B + m * 3000000000 ≤ 100000000000000 → (∀ p, p < n → -B ≤ o.I p 0 ∧ o.I p 0 ≤ B) →
    tot (bF (Lg.ows n r m j o)) n = tot (bF o) n ∧ ∀ p, p < n → -(B + m * 3000000000) ≤ (Lg.ows n r m j o).I p 0 ∧ (Lg.ows n r m j o).I p 0 ≤ B + m * 3000000000
  | 0, j, o, B, _, _, ho => ⟨rfl, fun p hp => by have := ho p hp; show _ ≤ o.I p 0 ∧ o.I p 0 ≤ _; omega⟩
  | m + 1, j, o, B, h, hB, ho => by
    obtain ⟨a1, a2⟩ := ow_step (h j (by omega)) (by omega) ho
    obtain ⟨i1, i2⟩ := ows_spec m (j + 1) (Lg.owStep n r j o) (B + 3000000000) (fun i hi => h i (by omega)) (by omega) a2
    unfold Lg.ows
    refine ⟨i1.trans a1, fun p hp => ?_⟩
    have := i2 p hp
    omega
/-- What is owed, where there is no error. -/
theorem owR_spec {n : Int} {r : Row} (h : Lg.owE n r = 0) : ∃ N : Nat, n = N ∧ (1 ≤ N ∧ N ≤ 10) ∧ r.n ≤ 200 ∧ (Lg.owR n r).n = N ∧ tot (bF (Lg.owR n r)) N = 0 ∧ (∀ j, j < r.n → Lg.failE n r j = false) ∧ ∀ p, p < N → -1000000000000 ≤ (Lg.owR n r).I p 0 ∧ (Lg.owR n r).I p 0 ≤ 1000000000000 := by
  have hR : Lg.owR n r = winOf (Lg.ows n r r.n 0 (.zeros n.toNat)) 0 n.toNat := by
    unfold Lg.owR
    rw [h]
    rfl
  unfold Lg.owE at h
  cases hp : Lg.partiesB n
  · rw [hp] at h; exact absurd (show (2 : Int) = 0 from h) (by decide)
  by_cases hl : (r.n : Int) > 200
  · rw [hp, decide_eq_true hl] at h; exact absurd (show (4 : Int) = 0 from h) (by decide)
  rw [hp, decide_eq_false hl] at h
  have h : Lg.fstE n r r.n 0 = 0 := h
  simp only [Lg.partiesB, Bool.and_eq_true, decide_eq_true_eq] at hp
  obtain ⟨N, rfl⟩ := Int.eq_ofNat_of_zero_le (show 0 ≤ n by omega)
  have hf : anyF (Lg.failE N r) r.n 0 = false := by rw [Lg.fstE_zero, h]; rfl
  have hf' : ∀ i, i < 0 + r.n → Lg.failE N r i = false := fun i hi => anyF_false.1 hf i (by omega) hi
  obtain ⟨a1, a2⟩ := ows_spec (n := N) r.n 0 (.zeros N) 0 hf' (by omega) (fun p _ => by show -0 ≤ (0 : Int) ∧ (0 : Int) ≤ 0; omega)
  rw [Int.toNat_natCast] at hR
  have hI : ∀ p, (Lg.owR N r).I p 0 = (Lg.ows N r r.n 0 (.zeros N)).I p 0 := fun p => by rw [hR]; rfl
  refine ⟨N, rfl, by omega, by omega, by rw [hR]; exact winOf_n, ?_, fun j hj => hf' j (by omega), fun p hp => ?_⟩
  · rw [show bF (Lg.owR N r) = bF (Lg.ows N r r.n 0 (.zeros N)) from funext hI, a1, tot_zero]
  · rw [hI]
    have := a2 p hp
    omega
/-- The errors that there may be. -/
theorem fstE_or {n : Int} {r : Row} : ∀ m j, Lg.fstE n r m j = 0 ∨ Lg.fstE n r m j = 2 ∨ Lg.fstE n r m j = 8
  | 0, j => .inl rfl
  | m + 1, j => by
    unfold Lg.fstE
    cases h : Lg.sE n r j != 0
    · exact fstE_or m (j + 1)
    · show Lg.sE n r j = 0 ∨ Lg.sE n r j = 2 ∨ Lg.sE n r j = 8
      unfold Lg.sE Lg.shE
      cases Lg.partiesB n
      · exact .inr (.inl rfl)
      · cases Lg.expB n (r.I (0 + j) 0) (r.I (0 + j) 1) (Lg.wr (r.R (0 + j) 2))
        · exact .inr (.inr rfl)
        · exact .inl rfl
theorem owE_or {n : Int} {r : Row} (h : r.n ≤ 200) : Lg.owE n r = 0 ∨ Lg.owE n r = 2 ∨ Lg.owE n r = 8 := by
  unfold Lg.owE
  cases Lg.partiesB n
  · exact .inr (.inl rfl)
  · rw [decide_eq_false (show ¬ (r.n : Int) > 200 by omega)]
    exact fstE_or r.n 0
end Go.Proofs.YtpblmkephkhlkaaDoor.Sh
namespace Go.Proofs.YtpblmkephkhlkaaDoor.Sh
open Go.Ev Mk
set_option linter.all false
def Re (l : Row) : Option Blk := some (.row Lg.ksE false l)
/-- A sum. -/
def sumW (o : Row) : Nat → Nat → Int → Int
  | 0, _, s => s
  | m + 1, j, s => sumW o m (j + 1) (wi (s + o.I j 0))
def S11 (n : Int) (nl no : Nat) (ok : Bool) (all i : Int) (l o : Row) : St := ⟨[i64 n, sl 0 nl] ++ us 3 ++ [.bool ok, sl 1 no] ++ us 1 ++ [i64 all, i64 i] ++ us 182, [[]], [Re l, Rb true o]⟩
def S11x (n : Int) (nl no : Nat) (ok : Bool) (all : Int) (l o : Row) : St := ⟨[i64 n, sl 0 nl] ++ us 3 ++ [.bool ok, sl 1 no] ++ us 1 ++ [i64 all] ++ us 183, [[]], [Re l, Rb true o]⟩
def S15 (n : Int) (nl no : Nat) (ok : Bool) (all i : Int) (l o : Row) : St := ⟨[i64 n, sl 0 nl] ++ us 3 ++ [.bool ok, sl 1 no] ++ us 1 ++ [i64 all] ++ us 1 ++ [i64 i] ++ us 181, [[]], [Re l, Rb true o]⟩
def S15x (n : Int) (no : Nat) (ok : Bool) (all : Int) (o : Row) : St := ⟨[i64 n] ++ us 4 ++ [.bool ok, sl 0 no] ++ us 1 ++ [i64 all] ++ us 183, [[]], [Rb true o]⟩
def S15r (n : Int) (no : Nat) (ok : Bool) (all : Int) (o : Row) : St := ⟨[i64 n] ++ us 3 ++ [.bool false, .bool ok, sl 0 no] ++ us 1 ++ [i64 all] ++ us 183, [[]], [Rb true o]⟩
def S22 (n : Int) (nl no ns : Nat) (ok : Bool) (all i sum k : Int) (l o s : Row) : St := ⟨[i64 n, sl 0 nl] ++ us 3 ++ [.bool ok, sl 1 no] ++ us 1 ++ [i64 all] ++ us 1 ++ [i64 i, sl 2 ns] ++ us 1 ++ [i64 sum, i64 k] ++ us 177, [[]], [Re l, Rb true o, Rb true s]⟩
def S22x (n : Int) (nl no ns : Nat) (ok : Bool) (all i sum : Int) (l o s : Row) : St := ⟨[i64 n, sl 0 nl] ++ us 3 ++ [.bool ok, sl 1 no] ++ us 1 ++ [i64 all] ++ us 1 ++ [i64 i, sl 2 ns] ++ us 1 ++ [i64 sum] ++ us 178, [[]], [Re l, Rb true o, Rb true s]⟩
def S27 (n : Int) (nl no ns nx : Nat) (ok : Bool) (all i sum k : Int) (l o s x : Row) : St := ⟨[i64 n, sl 0 nl] ++ us 3 ++ [.bool ok, sl 1 no] ++ us 1 ++ [i64 all] ++ us 1 ++ [i64 i, sl 2 ns] ++ us 1 ++ [i64 sum] ++ us 1 ++ [sl 3 nx, i64 k] ++ us 175, [[]], [Re l, Rb true o, Rb true s, Rb false x]⟩
def S27x (n : Int) (nl no : Nat) (ok : Bool) (all i sum : Int) (l o : Row) : St := ⟨[i64 n, sl 0 nl] ++ us 3 ++ [.bool ok, sl 1 no] ++ us 1 ++ [i64 all] ++ us 1 ++ [i64 i] ++ us 2 ++ [i64 sum] ++ us 178, [[]], [Re l, Rb true o]⟩
def S27r (n : Int) (nl no : Nat) (ok : Bool) (all i sum : Int) (l o : Row) : St := ⟨[i64 n, sl 0 nl] ++ us 2 ++ [.bool false, .bool ok, sl 1 no] ++ us 1 ++ [i64 all] ++ us 1 ++ [i64 i] ++ us 2 ++ [i64 sum] ++ us 178, [[]], [Re l, Rb true o]⟩
def l11 (cd : Int → Nat → Bool) : LoopC where
  f := 6
  id := 11
  lv := [0, 1, 5, 6, 8, 9]
  lx := [0, 1, 4, 5, 6, 8]
  p := { τ := [.v (.int .i64), .v (.sl 0)] ++ pu 3 ++ [.v .bool, .v (.sl 1)] ++ pu 1 ++ [.v (.c (i64 0)), .v (.c (i64 0))] ++ pu 182, saved := [[]], mem := [.row Lg.ksE false, .row ks1 true] }
  G := fun its k => match its with
    | [.i n, .n nl, .b ok, .n no, .r l, .r o] => br (cd n no) (k (.exit 0) (S11x n nl no ok (sumW o n.toNat 0 0) l o)) none
    | _ => none
def l15 (cd : Int → Nat → Row → Bool) : LoopC where
  f := 6
  id := 15
  lv := [0, 1, 5, 6, 8, 10]
  lx := [0, 4, 5, 6, 8]
  p := { τ := [.v (.int .i64), .v (.sl 0)] ++ pu 3 ++ [.v .bool, .v (.sl 1)] ++ pu 1 ++ [.v (.int .i64)] ++ pu 1 ++ [.v (.c (i64 0))] ++ pu 181, saved := [[]], mem := [.row Lg.ksE false, .row ks1 true] }
  G := fun its k => match its with
    | [.i n, .n nl, .b ok, .n no, .i all, .r l, .r o] => br (cd n nl l) (k (.exit 2) (S15x n no ok all o)) none
    | _ => none
def l22 (cd : Int → Nat → Bool) : LoopC where
  f := 6
  id := 22
  lv := [0, 1, 5, 6, 8, 10, 11, 13, 14]
  lx := [0, 1, 4, 5, 6, 8, 10, 11, 13]
  p := { τ := [.v (.int .i64), .v (.sl 0)] ++ pu 3 ++ [.v .bool, .v (.sl 1)] ++ pu 1 ++ [.v (.int .i64)] ++ pu 1 ++ [.v (.int .i64), .v (.sl 2)] ++ pu 1 ++ [.v (.c (i64 0)), .v (.c (i64 0))] ++ pu 177, saved := [[]], mem := [.row Lg.ksE false, .row ks1 true, .row ks1 true] }
  G := fun its k => match its with
    | [.i n, .n nl, .b ok, .n no, .i all, .i i, .n ns, .r l, .r o, .r s] => br (cd n ns) (k (.exit 4) (S22x n nl no ns ok all i (sumW s n.toNat 0 0) l o s)) none
    | _ => none
def l27 (cd : Nat → Nat → Row → Row → Bool) : LoopC where
  f := 6
  id := 27
  lv := [0, 1, 5, 6, 8, 10, 11, 13, 15, 16]
  lx := [0, 1, 4, 5, 6, 8, 10, 13]
  p := { τ := [.v (.int .i64), .v (.sl 0)] ++ pu 3 ++ [.v .bool, .v (.sl 1)] ++ pu 1 ++ [.v (.int .i64)] ++ pu 1 ++ [.v (.int .i64), .v (.sl 2)] ++ pu 1 ++ [.v (.int .i64)] ++ pu 1 ++ [.v (.sl 3), .v (.c (i64 1))] ++ pu 175, saved := [[]], mem := [.row Lg.ksE false, .row ks1 true, .row ks1 true, .row ks1 false] }
  G := fun its k => match its with
    | [.i n, .n nl, .b ok, .n no, .i all, .i i, .n ns, .i sum, .n nx, .r l, .r o, .r s, .r x] => br (cd ns nx s x) (k (.exit 6) (S27x n nl no ok all i sum l o)) none
    | _ => none
noncomputable def C30g (c11 : Int → Nat → Bool) (c15 : Int → Nat → Row → Bool) (c22 : Int → Nat → Bool) (c27 : Nat → Nat → Row → Row → Bool) : Cx := mkCx Tryd.prog fns [(15, Falive), (17, Lg.F7), (11, Se.Fsettle), (18, Fzero), (16, Fck), (19, Fw.Fafter), (22, Lg.F10), (23, Lg.F13), (24, Lg.F11), (25, Lg.F20)]
  [l11 c11, l15 c15, l22 c22, l27 c27]
section
variable (c11 : Int → Nat → Bool) (c15 : Int → Nat → Row → Bool) (c22 : Int → Nat → Bool) (c27 : Nat → Nat → Row → Row → Bool)
theorem round11 (R : St → Option (List D)) (K : X → St → Option (List D)) (p : Nat) (n : Int) (nl no : Nat) (ok : Bool) (all : Int) (j : Nat) (l o : Row) : evCode (C30g c11 c15 c22 c27) 6 true (inl (C30g c11 c15 c22 c27) (p + 4)) (lbody (C30g c11 c15 c22 c27).P 6 11) (S11 n nl no ok all j l o) (rnd [0, 1, 5, 6, 8, 9] (some [0, 1, 4, 5, 6, 8]) R K) =
    br (decide ((j : Int) < n)) (br (decide (0 ≤ (j : Int)) && decide ((j : Int) < (no : Int))) (R (S11 n nl no ok (wi (all + o.I (0 + j) 0)) (wi (j + 1)) l o)) none) (K (.exit 0) (S11x n nl no ok all l o)) := by kernel_rfl
theorem round22 (R : St → Option (List D)) (K : X → St → Option (List D)) (p : Nat) (n : Int) (nl no ns : Nat) (ok : Bool) (all i sum : Int) (j : Nat) (l o s : Row) : evCode (C30g c11 c15 c22 c27) 6 true (inl (C30g c11 c15 c22 c27) (p + 4)) (lbody (C30g c11 c15 c22 c27).P 6 22) (S22 n nl no ns ok all i sum j l o s) (rnd [0, 1, 5, 6, 8, 10, 11, 13, 14] (some [0, 1, 4, 5, 6, 8, 10, 11, 13]) R K) =
    br (decide ((j : Int) < n)) (br (decide (0 ≤ (j : Int)) && decide ((j : Int) < (ns : Int))) (R (S22 n nl no ns ok all i (wi (sum + s.I (0 + j) 0)) (wi (j + 1)) l o s)) none) (K (.exit 4) (S22x n nl no ns ok all i sum l o s)) := by kernel_rfl
def xr (ns : Nat) (x : Row) (k : Nat) : Bool := decide (0 ≤ x.I (0 + k) 0) && decide (x.I (0 + k) 0 < (ns : Int))
def sx (s x : Row) (k : Nat) : Int := s.I (0 + (x.I (0 + k) 0).toNat) 0
theorem round27 (R : St → Option (List D)) (K : X → St → Option (List D)) (p : Nat) (n : Int) (nl no ns nx : Nat) (ok : Bool) (all i sum : Int) (k : Int) (l o s x : Row) : evCode (C30g c11 c15 c22 c27) 6 true (inl (C30g c11 c15 c22 c27) (p + 4)) (lbody (C30g c11 c15 c22 c27).P 6 27) (S27 n nl no ns nx ok all i sum k l o s x) (rnd [0, 1, 5, 6, 8, 10, 11, 13, 15, 16] (some [0, 1, 4, 5, 6, 8, 10, 13]) R K) =
    br (decide (k < (nx : Int))) (br (decide (0 ≤ k) && decide (k < (nx : Int))) (br (xr ns x k.toNat) (br (decide (0 ≤ wi (k - 1)) && decide (wi (k - 1) < (nx : Int))) (br (xr ns x (wi (k - 1)).toNat) (br (decide (sx s x k.toNat > sx s x (wi (k - 1)).toNat)) (K .ret (S27r n nl no ok all i sum l o))
      (br (decide ((0 : Int) ≤ 0) && decide ((0 : Int) < (nx : Int))) (br (xr ns x 0) (br (decide (0 ≤ k) && decide (k < (nx : Int))) (br (xr ns x k.toNat) (br (decide (wi (sx s x 0 - sx s x k.toNat) > 1)) (K .ret (S27r n nl no ok all i sum l o)) (R (S27 n nl no ns nx ok all i sum (wi (k + 1)) l o s x))) none) none) none) none)) none) none) none) none) (K (.exit 6) (S27x n nl no ok all i sum l o)) := by kernel_rfl
theorem round15 (R : St → Option (List D)) (K : X → St → Option (List D)) (p : Nat) (n : Int) (nl no : Nat) (ok : Bool) (all : Int) (j : Nat) (l o : Row) : evCode (C30g c11 c15 c22 c27) 6 true (inl (C30g c11 c15 c22 c27) (p + 4)) (lbody (C30g c11 c15 c22 c27).P 6 15) (S15 n nl no ok all j l o) (rnd [0, 1, 5, 6, 8, 10] (some [0, 4, 5, 6, 8]) R K) =
    br (decide ((j : Int) < (nl : Int))) (br (decide (0 ≤ (j : Int)) && decide ((j : Int) < (nl : Int))) (br (decide ((l.R (0 + j) 2).n ≤ 1000)) (br (Lg.sE n l j != 0) (K .ret (S15r n no ok all o)) (br (((Lg.sR n l j).n : Int) != n) (K .ret (S15r n no ok all o)) (br (decide (0 ≤ (j : Int)) && decide ((j : Int) < (nl : Int))) (br (Lg.partiesB n && decide ((l.R (0 + j) 2).n ≤ 1000))
      (br (!Lg.expB n (l.I (0 + j) 0) (l.I (0 + j) 1) (Lg.wr (l.R (0 + j) 2))) (K .ret (S15r n no ok all o)) (br (c22 n (Lg.sR n l j).n) (br (decide (0 ≤ (j : Int)) && decide ((j : Int) < (nl : Int))) (br (c27 (Lg.sR n l j).n (l.R (0 + j) 2).n (Lg.sR n l j) (l.R (0 + j) 2)) (br (decide (0 ≤ (j : Int)) && decide ((j : Int) < (nl : Int)))
        (br (sumW (Lg.sR n l j) n.toNat 0 0 != l.I (0 + j) 1) (K .ret (S15r n no ok all o)) (R (S15 n nl no ok all (wi (j + 1)) l o))) none) none) none) none)) none) none))) none) none) (K (.exit 2) (S15x n no ok all o)) := by kernel_rfl
end
def in11 (n : Int) (no : Nat) : Bool := decide (n = no ∧ no ≤ 1000)
open Classical in
noncomputable def in27 (ns nx : Nat) (s x : Row) : Bool := decide (nx ≤ 1000 ∧ (∀ k, k < nx → xr ns x k = true) ∧ ∀ k, 1 ≤ k → k < nx → ¬ sx s x k > sx s x (k - 1) ∧ ¬ wi (sx s x 0 - sx s x k) > 1)
open Classical in
noncomputable def in15 (n : Int) (nl : Nat) (l : Row) : Bool := decide (nl ≤ 1000 ∧ ∀ j, j < nl → (l.R (0 + j) 2).n ≤ 1000 ∧ Lg.failE n l j = false)
noncomputable def C30 : Cx := C30g in11 in15 in11 in27
theorem sumW_tot {o : Row} : ∀ (m j : Nat) (s : Int), (∀ p, p < j + m → -1000000000000 ≤ o.I p 0 ∧ o.I p 0 ≤ 1000000000000) → -1000000000000 * (j : Int) ≤ s → s ≤ 1000000000000 * (j : Int) → j + m ≤ 1000 → sumW o m j s = s + (tot (bF o) (j + m) - tot (bF o) j)
  | 0, j, s, _, _, _, _ => by show s = _; rw [Nat.add_zero]; omega
  | m + 1, j, s, h, h1, h2, h3 => by
    have hj := h j (by omega)
    have e : wi (s + o.I j 0) = s + o.I j 0 := wiN (by omega) (by omega)
    unfold sumW
    rw [e, sumW_tot m (j + 1) _ (fun p hp => h p (by omega)) (by omega) (by omega) (by omega), show j + 1 + m = j + (m + 1) by omega]
    have : tot (bF o) (j + 1) = tot (bF o) j + o.I j 0 := rfl
    omega
theorem goS {f : St → (X → St → Option (List D)) → Option (List D)} {lv : List Tmp} {lx : Option (List Tmp)} {S : Int → Int → St} {Sx : Int → St} {e : X} {n : Nat} {o : Row} (hn : n ≤ 1000)
    (hr : ∀ (s : Int) (j : Nat) R K, f (S s j) (rnd lv lx R K) = br (decide ((j : Int) < (n : Int))) (br (decide (0 ≤ (j : Int)) && decide ((j : Int) < (n : Int))) (R (S (wi (s + o.I (0 + j) 0)) (wi (j + 1)))) none) (K e (Sx s))) (K : X → St → Option (List D)) :
    ∀ (m fu j : Nat) (s : Int), j + m = n → m < fu → rounds lv lx f fu (S s j) K = K e (Sx (sumW o m j s))
  | 0, fu + 1, j, s, h0, h1 => by
    rw [rnds1, hr, decide_eq_false (show ¬ (j : Int) < (n : Int) by omega), br_false]
    rfl
  | m + 1, fu + 1, j, s, h0, h1 => by
    rw [rnds1, hr, show (decide (0 ≤ (j : Int)) && decide ((j : Int) < (n : Int))) = true by simp only [Bool.and_eq_true, decide_eq_true_eq]; omega, decide_eq_true (show (j : Int) < (n : Int) by omega), br_true, br_true, Nat.zero_add,
      wiN (n := (j : Int) + 1) (by omega) (by omega), show (j : Int) + 1 = ((j + 1 : Nat) : Int) by omega]
    exact goS hn hr K m fu (j + 1) _ (by omega) (by omega)
set_option maxRecDepth 100000 in
theorem loop11 : LoopOk C30 (l11 in11) := ⟨by kernel_rfl, fun q its k rr h => by
  show rounds [0, 1, 5, 6, 8, 9] (some [0, 1, 4, 5, 6, 8]) (evCode C30 6 true (inl C30 (q + 4)) (lbody C30.P 6 11)) 18446744073709551616 (Go.Ev.bst (l11 in11).p its) k = some rr
  dsimp only [l11] at h
  split at h
  · rename_i n nl ok no l o
    rcases br_some h with ⟨h1, h2⟩ | ⟨_, h2⟩
    · obtain ⟨rfl, h3⟩ := of_decide_eq_true h1
      rw [← h2, Int.toNat_natCast]
      exact goS (S := fun s j => S11 no nl no ok s j l o) (Sx := fun s => S11x no nl no ok s l o) h3 (fun s j R K => round11 in11 in15 in11 in27 R K q no nl no ok s j l o) k no _ 0 0 (by omega) (by omega)
    · cases h2
  · cases h⟩
set_option maxRecDepth 100000 in
theorem loop22 : LoopOk C30 (l22 in11) := ⟨by kernel_rfl, fun q its k rr h => by
  show rounds [0, 1, 5, 6, 8, 10, 11, 13, 14] (some [0, 1, 4, 5, 6, 8, 10, 11, 13]) (evCode C30 6 true (inl C30 (q + 4)) (lbody C30.P 6 22)) 18446744073709551616 (Go.Ev.bst (l22 in11).p its) k = some rr
  dsimp only [l22] at h
  split at h
  · rename_i n nl ok no all i ns l o s
    rcases br_some h with ⟨h1, h2⟩ | ⟨_, h2⟩
    · obtain ⟨rfl, h3⟩ := of_decide_eq_true h1
      rw [← h2, Int.toNat_natCast]
      exact goS (S := fun t j => S22 ns nl no ns ok all i t j l o s) (Sx := fun t => S22x ns nl no ns ok all i t l o s) h3 (fun t j R K => round22 in11 in15 in11 in27 R K q ns nl no ns ok all i t j l o s) k ns _ 0 0 (by omega) (by omega)
    · cases h2
  · cases h⟩
end Go.Proofs.YtpblmkephkhlkaaDoor.Sh
namespace Go.Proofs.YtpblmkephkhlkaaDoor.Sh
open Go.Ev Mk
set_option linter.all false
open Classical in
theorem in27_iff {ns nx : Nat} {s x : Row} : in27 ns nx s x = true ↔ (nx ≤ 1000 ∧ (∀ k, k < nx → xr ns x k = true) ∧ ∀ k, 1 ≤ k → k < nx → ¬ sx s x k > sx s x (k - 1) ∧ ¬ wi (sx s x 0 - sx s x k) > 1) := by
  unfold in27
  exact decide_eq_true_iff
theorem go27 {q : Nat} {n : Int} {nl no ns nx : Nat} {ok : Bool} {all i sum : Int} {l o s x : Row} (h1 : nx ≤ 1000) (h2 : ∀ k, k < nx → xr ns x k = true) (h3 : ∀ k, 1 ≤ k → k < nx → ¬ sx s x k > sx s x (k - 1) ∧ ¬ wi (sx s x 0 - sx s x k) > 1) (K : X → St → Option (List D)) :
    ∀ (m fu k : Nat), 1 ≤ k → nx ≤ k + m → m < fu → k ≤ 1001 → rounds [0, 1, 5, 6, 8, 10, 11, 13, 15, 16] (some [0, 1, 4, 5, 6, 8, 10, 13]) (evCode C30 6 true (inl C30 (q + 4)) (lbody C30.P 6 27)) fu (S27 n nl no ns nx ok all i sum k l o s x) K = K (.exit 6) (S27x n nl no ok all i sum l o) := by
  intro m
  induction m with
  | zero =>
    intro fu k hk hm hf hb
    obtain ⟨fu, rfl⟩ : ∃ fu', fu = fu' + 1 := ⟨fu - 1, by omega⟩
    rw [rnds1]
    refine (round27 in11 in15 in11 in27 _ K q n nl no ns nx ok all i sum k l o s x).trans ?_
    rw [decide_eq_false (show ¬ (k : Int) < (nx : Int) by omega), br_false]
  | succ m ih =>
    intro fu k hk hm hf hb
    obtain ⟨fu, rfl⟩ : ∃ fu', fu = fu' + 1 := ⟨fu - 1, by omega⟩
    rw [rnds1]
    refine (round27 in11 in15 in11 in27 _ K q n nl no ns nx ok all i sum k l o s x).trans ?_
    by_cases hkn : k < nx
    · obtain ⟨g1, g2⟩ := h3 k hk hkn
      have w1 : wi ((k : Int) - 1) = ((k - 1 : Nat) : Int) := by rw [wiN (by omega) (by omega)]; omega
      rw [w1, Int.toNat_natCast, Int.toNat_natCast, h2 k hkn, h2 (k - 1) (by omega), h2 0 (by omega), decide_eq_false g1, decide_eq_false g2,
        show (decide (0 ≤ (k : Int)) && decide ((k : Int) < (nx : Int))) = true by simp only [Bool.and_eq_true, decide_eq_true_eq]; omega,
        show (decide (0 ≤ ((k - 1 : Nat) : Int)) && decide (((k - 1 : Nat) : Int) < (nx : Int))) = true by simp only [Bool.and_eq_true, decide_eq_true_eq]; omega,
        show (decide ((0 : Int) ≤ 0) && decide ((0 : Int) < (nx : Int))) = true by simp only [Bool.and_eq_true, decide_eq_true_eq]; omega,
        decide_eq_true (show (k : Int) < (nx : Int) by omega), br_true, br_true, br_true, br_true, br_true, br_false, br_true, br_true, br_true, br_true, br_false, wiN (n := (k : Int) + 1) (by omega) (by omega), show (k : Int) + 1 = ((k + 1 : Nat) : Int) by omega]
      exact ih fu (k + 1) (by omega) (by omega) (by omega) (by omega)
    · rw [decide_eq_false (show ¬ (k : Int) < (nx : Int) by omega), br_false]
set_option maxRecDepth 100000 in
theorem loop27 : LoopOk C30 (l27 in27) := ⟨by kernel_rfl, fun q its k rr h => by
  show rounds [0, 1, 5, 6, 8, 10, 11, 13, 15, 16] (some [0, 1, 4, 5, 6, 8, 10, 13]) (evCode C30 6 true (inl C30 (q + 4)) (lbody C30.P 6 27)) 18446744073709551616 (Go.Ev.bst (l27 in27).p its) k = some rr
  dsimp only [l27] at h
  split at h
  · rename_i n nl ok no all i ns sum nx l o s x
    rcases br_some h with ⟨h1, h2⟩ | ⟨_, h2⟩
    · obtain ⟨a1, a2, a3⟩ := in27_iff.1 h1
      rw [← h2]
      exact go27 (q := q) (n := n) (nl := nl) (no := no) (ok := ok) (all := all) (i := i) (sum := sum) (l := l) (o := o) a1 a2 a3 k nx _ 1 (by omega) (by omega) (by omega) (by omega)
    · cases h2
  · cases h⟩
theorem good15 {n : Int} {l : Row} {j : Nat} (hx : (l.R (0 + j) 2).n ≤ 1000) (hf : Lg.failE n l j = false) :
    Lg.sE n l j = 0 ∧ ((Lg.sR n l j).n : Int) = n ∧ Lg.partiesB n = true ∧ Lg.expB n (l.I (0 + j) 0) (l.I (0 + j) 1) (Lg.wr (l.R (0 + j) 2)) = true ∧ in11 n (Lg.sR n l j).n = true ∧ in27 (Lg.sR n l j).n (l.R (0 + j) 2).n (Lg.sR n l j) (l.R (0 + j) 2) = true ∧ sumW (Lg.sR n l j) n.toNat 0 0 = l.I (0 + j) 1 := by
  have h0 : Lg.sE n l j = 0 := by simpa [Lg.failE] using hf
  have hp : Lg.partiesB n = true := by
    have h1 : Lg.shE n (l.I (0 + j) 0) (l.I (0 + j) 1) (Lg.wr (l.R (0 + j) 2)) = 0 := h0
    unfold Lg.shE at h1
    cases hp : Lg.partiesB n
    · rw [hp] at h1; exact absurd (show (2 : Int) = 0 from h1) (by decide)
    · rfl
  have hp' := hp
  simp only [Lg.partiesB, Bool.and_eq_true, decide_eq_true_eq] at hp'
  obtain ⟨N, rfl⟩ := Int.eq_ofNat_of_zero_le (show 0 ≤ n by omega)
  obtain ⟨s1, s2, s3, s4, s5, s6, s7, s8⟩ := shR_spec (n := N) h0
  have s1' : (Lg.sR N l j).n = N := s1
  have hwn : (Lg.wr (l.R (0 + j) 2)).n = (l.R (0 + j) 2).n := winOf_n
  rw [hwn] at s3
  have hI : ∀ k, (Lg.wr (l.R (0 + j) 2)).I k 0 = (l.R (0 + j) 2).I k 0 := fun _ => rfl
  have hsx : ∀ k, k < (l.R (0 + j) 2).n → sx (Lg.sR N l j) (l.R (0 + j) 2) k = Lg.sh (l.I (0 + j) 1) (l.R (0 + j) 2).n k := fun k hk => by
    unfold sx
    rw [Nat.zero_add k, Nat.zero_add (Int.toNat _)]
    exact (s3 k hk).2
  refine ⟨h0, by rw [s1'], hp, s4, decide_eq_true ⟨by rw [s1'], by omega⟩, ?_, ?_⟩
  · rw [in27_iff]
    refine ⟨hx, fun k hk => ?_, fun k h1 hk => ?_⟩
    · have := (s3 k hk).1
      rw [hI] at this
      unfold xr
      rw [s1', Nat.zero_add k]
      simp only [Bool.and_eq_true, decide_eq_true_eq]
      exact this
    · rw [hsx k hk, hsx (k - 1) (by omega), hsx 0 (by omega)]
      have m1 := sh_mono (c := l.I (0 + j) 1) (m := (l.R (0 + j) 2).n) (show k - 1 ≤ k by omega)
      have m2 := sh_mono (c := l.I (0 + j) 1) (m := (l.R (0 + j) 2).n) (show 0 ≤ k by omega)
      rw [wiN (by omega) (by omega)]
      omega
  · rw [Int.toNat_natCast, sumW_tot N 0 0 (fun p _ => by have h : 0 ≤ (Lg.sR N l j).I p 0 ∧ (Lg.sR N l j).I p 0 ≤ l.I (0 + j) 1 + 1 := s8 p; omega) (by omega) (by omega) (by omega), Nat.zero_add]
    have e1 : tot (bF (Lg.sR N l j)) N = l.I (0 + j) 1 := s2
    have e2 : tot (bF (Lg.sR N l j)) 0 = 0 := rfl
    omega
theorem go15 {q : Nat} {n : Int} {nl no : Nat} {ok : Bool} {all : Int} {l o : Row} (h1 : nl ≤ 1000) (h2 : ∀ j, j < nl → (l.R (0 + j) 2).n ≤ 1000 ∧ Lg.failE n l j = false) (K : X → St → Option (List D)) :
    ∀ (m fu j : Nat), j + m = nl → m < fu → rounds [0, 1, 5, 6, 8, 10] (some [0, 4, 5, 6, 8]) (evCode C30 6 true (inl C30 (q + 4)) (lbody C30.P 6 15)) fu (S15 n nl no ok all j l o) K = K (.exit 2) (S15x n no ok all o)
  | 0, fu + 1, j, hj, hu => by
    rw [rnds1]
    refine (round15 in11 in15 in11 in27 _ K q n nl no ok all j l o).trans ?_
    rw [decide_eq_false (show ¬ (j : Int) < (nl : Int) by omega), br_false]
  | m + 1, fu + 1, j, hj, hu => by
    obtain ⟨hx, hf⟩ := h2 j (by omega)
    obtain ⟨g1, g2, g3, g4, g5, g6, g7⟩ := good15 hx hf
    rw [rnds1]
    refine (round15 in11 in15 in11 in27 _ K q n nl no ok all j l o).trans ?_
    rw [show (decide (0 ≤ (j : Int)) && decide ((j : Int) < (nl : Int))) = true by simp only [Bool.and_eq_true, decide_eq_true_eq]; omega, decide_eq_true (show (j : Int) < (nl : Int) by omega), decide_eq_true hx, g1, g2, g3, g4, g5, g6, g7,
      show ((0 : Int) != 0) = false from rfl, show (n != n) = false by simp, show (true && true) = true from rfl, show (!true) = false from rfl, show (l.I (0 + j) 1 != l.I (0 + j) 1) = false by simp,
      br_true, br_true, br_true, br_false, br_false, br_true, br_true, br_false, br_true, br_true, br_true, br_true, br_false, wiN (n := (j : Int) + 1) (by omega) (by omega), show (j : Int) + 1 = ((j + 1 : Nat) : Int) by omega]
    exact go15 h1 h2 K m fu (j + 1) (by omega) (by omega)
set_option maxRecDepth 100000 in
theorem loop15 : LoopOk C30 (l15 in15) := ⟨by kernel_rfl, fun q its k rr h => by
  show rounds [0, 1, 5, 6, 8, 10] (some [0, 4, 5, 6, 8]) (evCode C30 6 true (inl C30 (q + 4)) (lbody C30.P 6 15)) 18446744073709551616 (Go.Ev.bst (l15 in15).p its) k = some rr
  dsimp only [l15] at h
  split at h
  · rename_i n nl ok no all l o
    rcases br_some h with ⟨h1, h2⟩ | ⟨_, h2⟩
    · unfold in15 at h1
      obtain ⟨a1, a2⟩ := @of_decide_eq_true _ _ h1
      rw [← h2]
      exact go15 (q := q) a1 a2 k nl _ 0 (by omega) (by omega)
    · cases h2
  · cases h⟩
theorem C30_ok : CxW C30 Wt := mkCx_okW enter mixed (fun p h => by
    simp only [List.mem_cons, List.not_mem_nil, or_false] at h
    rcases h with rfl | rfl | rfl | rfl | rfl | rfl | rfl | rfl | rfl | rfl
    · exact den_alive
    · exact Lg.den8.at _
    · exact Se.den_settle
    · exact den_zero.at _
    · exact den_start.at _
    · exact Fw.den_after.at _
    · exact Lg.den10.at _
    · exact Lg.den13.at _
    · exact Lg.den11.at _
    · exact Lg.den21.at _) (fun l h => by
    simp only [List.mem_cons, List.not_mem_nil, or_false] at h
    rcases h with rfl | rfl | rfl | rfl
    · exact loop11
    · exact loop15
    · exact loop22
    · exact loop27)
end Go.Proofs.YtpblmkephkhlkaaDoor.Sh
namespace Go.Proofs.YtpblmkephkhlkaaDoor.Sh
open Go.Ev Mk
set_option linter.all false
def wl (l : Row) : Row := winOf l 0 l.n
def ow (n : Int) (l : Row) : Row := winOf (Lg.owR n (wl l)) 0 (Lg.owR n (wl l)).n
theorem tsh (n : Int) (l : Row) : evF C30 6 6 [.v (i64 n), .slice Lg.ksE l] =
    br (decide (l.n ≤ Lg.big)) (br (anyF (Lg.lng (wl l)) l.n 0 || decide ((l.n : Int) > 210)) (some [.v (.bool true)]) (br (decide ((l.n : Int) > 60)) (some [.v (.bool true)]) (br (!anyF (Lg.wide (wl l)) l.n 0) (br (Lg.owE n (wl l) != 0) (br (Lg.owE n (wl l) == 2) (some [.v (.bool true)]) (some [.v (.bool (Lg.owE n (wl l) == 8))]))
      (br (((Lg.owR n (wl l)).n : Int) != n) (some [.v (.bool false)]) (br (in11 n (Lg.owR n (wl l)).n) (br (in15 n l.n l) (br (ckE (ow n l) != 0) (some [.v (.bool (sumW (Lg.owR n (wl l)) n.toNat 0 0 == 0))]) (br (Se.stC (ow n l)) (br (sumW (Lg.owR n (wl l)) n.toNat 0 0 == 0) (br (ckE (ow n l) == 0) (br (Lg.chk n (Fw.sR (ow n l)) == 0)
        (br (decide ((Lg.owR n (wl l)).n ≤ 1000) && Fw.ina (Fw.sR (ow n l)).n (Lg.owR n (wl l)).n (Fw.sR (ow n l))) (br (decide (0 + (Lg.owR n (wl l)).n ≤ 1000)) (some [.v (.bool (zrB (Fw.af (ow n l) (Fw.sR (ow n l)))))]) none) none) (some [.v (.bool false)])) (some [.v (.bool false)])) (some [.v (.bool false)])) none)) none) none))) none))) none := by kernel_rfl
theorem law_shares (n : Int) (l : Row) (hr : l.n ≤ Lg.big) : evF C30 6 6 [.v (i64 n), .slice Lg.ksE l] = some [.v (.bool true)] := by
  refine (tsh n l).trans ?_
  rw [decide_eq_true hr, br_true]
  have hwn : (wl l).n = l.n := winOf_n
  by_cases h1 : (anyF (Lg.lng (wl l)) l.n 0 || decide ((l.n : Int) > 210)) = true
  · rw [h1, br_true]
  · rw [Bool.not_eq_true] at h1
    rw [h1, br_false]
    by_cases h2 : (l.n : Int) > 60
    · rw [decide_eq_true h2, br_true]
    · have hlng := (Bool.or_eq_false_iff.1 h1).1
      have hsm : ∀ j, j < l.n → (l.R (0 + j) 2).n ≤ 1000 := fun j hj => by
        have := anyF_false.1 hlng j (by omega) (by omega)
        unfold Lg.lng at this
        have h := of_decide_eq_false this
        have : ((wl l).R (0 + j) 2).n = (l.R (0 + j) 2).n := rfl
        omega
      have hwide : anyF (Lg.wide (wl l)) l.n 0 = false := anyF_false.2 fun j _ hj => by
        unfold Lg.wide
        have := hsm j (by omega)
        exact decide_eq_false (by show ¬ (l.R (0 + j) 2).n > 1000; omega)
      rw [decide_eq_false h2, br_false, hwide, show (!false) = true from rfl, br_true]
      by_cases h3 : Lg.owE n (wl l) = 0
      · obtain ⟨N, rfl, o1, o2, o3, o4, o5, o6⟩ := owR_spec h3
        rw [hwn] at o5
        have h15 : in15 N l.n l = true := by
          unfold in15
          exact decide_eq_true ⟨by omega, fun j hj => ⟨hsm j hj, o5 j hj⟩⟩
        have hsum : sumW (Lg.owR N (wl l)) N 0 0 = 0 := by
          rw [sumW_tot N 0 0 (fun p hp => o6 p (by omega)) (by omega) (by omega) (by omega), Nat.zero_add]
          have e2 : tot (bF (Lg.owR (N : Int) (wl l))) 0 = 0 := rfl
          omega
        have hown : (ow N l).n = N := by
          have : (ow N l).n = (Lg.owR N (wl l)).n := winOf_n
          omega
        rw [show (Lg.owE (N : Int) (wl l) != 0) = false by simpa using h3, br_false, o3, show (((N : Nat) : Int) != (N : Int)) = false by simp, br_false, show in11 (N : Int) N = true from decide_eq_true ⟨rfl, by omega⟩, br_true, h15, br_true, Int.toNat_natCast, hsum, show ((0 : Int) == 0) = true from rfl]
        by_cases hk : ckE (ow N l) = 0
        · obtain ⟨s1, rest, s2, s3, s4, s5, s6⟩ := settle_ok hk
          obtain ⟨hf, _, _⟩ := ck_fit hk
          have hpc : pc rest (ow N l).n ≤ (ow N l).n := cntB_bound
          have hm := Fw.mN_pos hk s2
          have hsn : (Fw.sR (ow N l)).n = (Se.stR (ow N l)).n := winOf_n
          have hc1 : Lg.chk N (Fw.sR (ow N l)) = 0 := (chk_iff _ _).2 ⟨⟨by omega, by omega⟩, by omega, fun x hx => by have := s3 x hx; rw [hown] at this; exact this⟩
          have hc2 : Lg.chk (ow N l).n (Fw.sR (ow N l)) = 0 := by rw [hown]; exact hc1
          have hin : (decide (N ≤ 1000) && Fw.ina (Fw.sR (ow N l)).n N (Fw.sR (ow N l))) = true := by
            obtain ⟨_, _, h3, h4⟩ := Lg.chk_zero (n := (N : Int)) (r := Fw.sR (ow N l)) (by rw [hc1]; rfl)
            unfold Fw.ina
            rw [decide_eq_true (show N ≤ 1000 by omega), decide_eq_true (show (Fw.sR (ow N l)).n ≤ 1000 by omega), h4]
            rfl
          have hz1 : zrB (Fw.af (ow N l) (Fw.sR (ow N l))) = true := Fw.zr_iff.2 fun p hp => by
            have hafn : (Fw.af (ow N l) (Fw.sR (ow N l))).n = 0 + (ow N l).n := winOf_n
            obtain ⟨_, h2, h3⟩ := (chk_iff _ _).1 hc2
            have e : (Fw.af (ow N l) (Fw.sR (ow N l))).I p 0 = (ow N l).I p 0 + bl (pl (Fw.sR (ow N l))) p := Fw.af_I hf h2 h3 p
            rw [e]
            exact s4 p (by omega)
          rw [show (ckE (ow N l) != 0) = false by simpa using hk, br_false, s1, br_true, br_true, hk, show ((0 : Int) == 0) = true from rfl, br_true, hc1, show ((0 : Int) == 0) = true from rfl, br_true, hin, br_true, Nat.zero_add, decide_eq_true (show N ≤ 1000 by omega), br_true, hz1]
        · rw [show (ckE (ow N l) != 0) = true by simpa using hk, br_true]
      · rw [show (Lg.owE n (wl l) != 0) = true by simpa using h3, br_true]
        rcases owE_or (n := n) (r := wl l) (by omega) with h | h | h
        · exact absurd h h3
        · rw [h]; rfl
        · rw [h]; rfl
end Go.Proofs.YtpblmkephkhlkaaDoor.Sh

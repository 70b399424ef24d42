/- Texts E70 E71 E72 E73 E74 E75 in one. No conditions. -/
import Derived.Test.YtpblmkephkhlkaaDoorLB
import Derived.Test.YtpblmkephkhlkaaDoorLF
/- A group of a best grouping may be taken; lists of labels. No conditions. -/
namespace Go.Proofs.YtpblmkephkhlkaaDoor.Mk
open Go.Ev
set_option linter.all false
theorem cntB_ge {e : Nat → Bool} {a k : Nat} (h : ∀ q, a ≤ q → q < a + k → e q = true) : ∀ {Q}, a + k ≤ Q → k ≤ cntB e Q
  | 0, hq => by omega
  | Q + 1, hq => by
    unfold cntB
    by_cases hk : k = 0
    · omega
    · by_cases hQ : a + k ≤ Q
      · have := cntB_ge h hQ; omega
      · have := cntB_ge (e := e) (a := a) (k := k - 1) (fun q h1 h2 => h q h1 (by omega)) (Q := Q) (by omega)
        rw [if_pos (h Q (by omega) (by omega))]
        omega
theorem clM_x {c : Nat → Nat} {s q0 n : Nat} (q : Nat) : clM c (s ^^^ clM c s q0 n) q n = if q = q0 then 0 else clM c s q n := by
  apply Nat.eq_of_testBit_eq
  intro i
  rw [clM_bit, Nat.testBit_xor, clM_bit]
  by_cases hi : i < n
  · rw [decide_eq_true hi]
    by_cases hq : q = q0
    · rw [if_pos hq, Nat.zero_testBit]
      subst hq
      cases s.testBit i <;> by_cases h1 : c i = q <;> simp [h1]
    · rw [if_neg hq, clM_bit, decide_eq_true hi]
      cases s.testBit i
      · simp
      · by_cases h1 : c i = q
        · have : ¬ c i = q0 := fun h => hq (h1.symm.trans h)
          simp [h1, hq]
        · simp [h1]
  · rw [decide_eq_false hi, Bool.false_and]
    split
    · rw [Nat.zero_testBit]
    · rw [clM_bit, decide_eq_false hi, Bool.false_and]
theorem candOf {b : Row} (hf : Fit b) {s q0 k : Nat} {c : Nat → Nat} (ht : s < 2 ^ b.n) (h0 : s ≠ 0) (hz : Sg b s = 0) (zero : ∀ q, Sg b (clM c s q b.n) = 0) (low : c (ctzN s) = q0) (hu : ∀ q, q0 < q → q < q0 + k → use c s b.n q = true)
    (hk : mN b s = (k : Nat)) (hk1 : 1 ≤ k) (hc : ∀ i, i < b.n → c i < b.n) (hkn : q0 + k ≤ b.n) (hone : ∀ p, s.testBit p = true → c p < q0 + k) (hge : ∀ p, s.testBit p = true → q0 ≤ c p) : Cand (mostR b) s (lowN s) (clM c s q0 b.n) ∧ mN b (s ^^^ clM c s q0 b.n) = mN b s - 1 := by
  have hp10 : 2 ^ b.n ≤ 2 ^ 10 := Nat.pow_le_pow_right (by decide) hf.1
  have hl := low_bits h0 (by omega)
  have hlb : (clM c s q0 b.n).testBit (ctzN s) = true := by
    rw [clM_bit, decide_eq_true (bit_lt ht hl.1), hl.1, decide_eq_true low]; rfl
  have hsub : clM c s q0 b.n &&& s = clM c s q0 b.n := sub_of_bit fun i hi => by
    rw [clM_bit] at hi
    simp only [Bool.and_eq_true] at hi
    exact hi.2.1
  have hb0 : clM c s q0 b.n ≠ 0 := fun h => by rw [h, Nat.zero_testBit] at hlb; cases hlb
  have hlt : clM c s q0 b.n < 2 ^ b.n := Nat.lt_of_le_of_lt (sub_le hsub) ht
  have hxlt : s ^^^ clM c s q0 b.n < 2 ^ b.n := Nat.lt_of_le_of_lt (xor_le hsub) ht
  have hcl : ∀ q, clM c (s ^^^ clM c s q0 b.n) q b.n = if q = q0 then 0 else clM c s q b.n := fun q => clM_x q
  have hle := lab_le hf hc (s ^^^ clM c s q0 b.n) (s ^^^ clM c s q0 b.n) (Nat.le_refl _) hxlt (fun q => by
    rw [hcl]
    split
    · exact sM_zero
    · exact zero q)
  have hcnt : k - 1 ≤ cntB (use c (s ^^^ clM c s q0 b.n) b.n) b.n := cntB_ge (a := q0 + 1) (k := k - 1) (fun q h1 h2 => by
    have := hu q (by omega) (by omega)
    unfold use at this ⊢
    rw [hcl, if_neg (by omega)]
    exact this) (by omega)
  have hup : mN b (s ^^^ clM c s q0 b.n) ≤ mN b s - 1 := by
    by_cases he : clM c s q0 b.n = s
    · have : mN b (s ^^^ clM c s q0 b.n) = 0 := by rw [he, Nat.xor_self]; exact (most_good hf (t := 0) (Nat.two_pow_pos _)).zero rfl
      omega
    · have := (most_good hf ht).step h0 hz _ hb0 hsub he hlb (zero q0)
      omega
  have heq : mN b (s ^^^ clM c s q0 b.n) = mN b s - 1 := by omega
  refine ⟨⟨hb0, hsub, low_and h0 (by omega) hlb, ((most_good hf hlt).pos hb0 (zero q0)).1, ?_⟩, heq⟩
  rw [wi_m hf ht]
  exact heq
end Go.Proofs.YtpblmkephkhlkaaDoor.Mk
namespace Go.Proofs.YtpblmkephkhlkaaDoor.Fin
set_option linter.all false
def lsF (e : Nat → Nat) : Nat → Nat → List Nat
  | 0, _ => []
  | m + 1, i => e i :: lsF e m (i + 1)
theorem lsF_len (e : Nat → Nat) : ∀ m i, (lsF e m i).length = m
  | 0, _ => rfl
  | m + 1, i => by show (lsF e m (i + 1)).length + 1 = _; rw [lsF_len e m]
theorem lsF_nth (e : Nat → Nat) : ∀ m i p, p < m → nth (lsF e m i) p = e (i + p)
  | m + 1, i, 0, _ => rfl
  | m + 1, i, p + 1, h => by
    show nth (lsF e m (i + 1)) p = _
    rw [lsF_nth e m (i + 1) p (by omega), show i + 1 + p = i + (p + 1) by omega]
theorem nth_ext : ∀ (a b : List Nat), a.length = b.length → (∀ p, p < a.length → nth a p = nth b p) → a = b
  | [], [], _, _ => rfl
  | x :: a, y :: b, hl, h => by
    have h0 := h 0 (by simp)
    have : x = y := h0
    rw [this, nth_ext a b (by simpa using hl) fun p hp => h (p + 1) (by simp; omega)]
/-- The sum of a group, from a place on. -/
theorem dot_sM (f : Nat → Int) (k s : Nat) : ∀ (L : List Nat) (i : Nat), (∀ p, p < L.length → (s.testBit (i + p) = true ↔ nth L p = k)) → Mk.sM f s (i + L.length) = Mk.sM f s i + dot (ind k L) i f
  | [], i, _ => by show Mk.sM f s i = Mk.sM f s i + 0; omega
  | x :: r, i, h => by
    have h0 := h 0 (by simp)
    have ih := dot_sM f k s r (i + 1) fun p hp => by
      have := h (p + 1) (by simp; omega)
      rw [show i + (p + 1) = i + 1 + p by omega] at this
      exact this
    show Mk.sM f s (i + (r.length + 1)) = Mk.sM f s i + ((bif Nat.beq x k then 1 else 0) * f i + dot (ind k r) (i + 1) f)
    rw [show i + (r.length + 1) = i + 1 + r.length by omega, ih]
    have e : Mk.sM f s (i + 1) = Mk.sM f s i + if s.testBit i = true then f i else 0 := rfl
    rw [e]
    have h0 : s.testBit i = true ↔ x = k := h0
    by_cases hx : x = k
    · rw [if_pos (h0.2 hx), show Nat.beq x k = true by rw [hx]; exact Nat.beq_refl k]
      show _ = _ + (1 * f i + _)
      omega
    · rw [if_neg fun h => hx (h0.1 h)]
      have : Nat.beq x k = false := by
        cases hb : Nat.beq x k
        · rfl
        · exact absurd (Nat.eq_of_beq_eq_true hb) hx
      rw [this]
      show _ = _ + (0 * f i + _)
      omega
theorem cnt_zero (k : Nat) (f : Nat → Int) : ∀ (L : List Nat) (i : Nat), cnt k L = 0 → dot (ind k L) i f = 0 ∧ ∀ p, p < L.length → nth L p ≠ k
  | [], i, _ => ⟨rfl, fun p hp => by simp at hp⟩
  | x :: r, i, h => by
    unfold cnt at h
    cases hb : Nat.beq x k
    · rw [hb] at h
      obtain ⟨i1, i2⟩ := cnt_zero k f r (i + 1) h
      refine ⟨?_, fun p hp => ?_⟩
      · show (bif Nat.beq x k then 1 else 0) * f i + dot (ind k r) (i + 1) f = 0
        rw [hb, i1]
        show 0 * f i + 0 = 0
        omega
      · cases p with
        | zero => intro he; rw [show x = k from he] at hb; rw [Nat.beq_refl k] at hb; cases hb
        | succ p => exact i2 p (by simpa using hp)
    · rw [hb] at h
      have : cnt k r + 1 = 0 := h
      omega
theorem cnt_two (k : Nat) (f : Nat → Int) : ∀ (L : List Nat) (i : Nat), dot (ind k L) i f = 0 → (∀ p, p < L.length → nth L p = k → f (i + p) ≠ 0) → (∃ p, p < L.length ∧ nth L p = k) → 2 ≤ cnt k L
  | [], i, _, _, ⟨p, hp, _⟩ => by simp at hp
  | x :: r, i, hd, hn, he => by
    unfold cnt
    cases hb : Nat.beq x k
    · rw [cond_false]
      refine cnt_two k f r (i + 1) ?_ (fun p hp hk => ?_) ?_
      · have : (bif Nat.beq x k then 1 else 0) * f i + dot (ind k r) (i + 1) f = 0 := hd
        rw [hb] at this
        have : (0 : Int) * f i + dot (ind k r) (i + 1) f = 0 := this
        omega
      · have := hn (p + 1) (by simp; omega) hk
        rw [show i + (p + 1) = i + 1 + p by omega] at this
        exact this
      · obtain ⟨p, h1, h2⟩ := he
        cases p with
        | zero => rw [show x = k from h2, Nat.beq_refl k] at hb; cases hb
        | succ p => exact ⟨p, by simpa using h1, h2⟩
    · rw [cond_true]
      have hf : f i ≠ 0 := hn 0 (by simp) (Nat.eq_of_beq_eq_true hb)
      have hd : (bif Nat.beq x k then 1 else 0) * f i + dot (ind k r) (i + 1) f = 0 := hd
      rw [hb] at hd
      have hd : (1 : Int) * f i + dot (ind k r) (i + 1) f = 0 := hd
      by_cases hc : cnt k r = 0
      · rw [(cnt_zero k f r (i + 1) hc).1] at hd
        omega
      · omega
theorem cnt4 (L : List Nat) : cnt 0 L + cnt 1 L + cnt 2 L + cnt 4 L ≤ L.length := by
  induction L with
  | nil => exact Nat.le_refl 0
  | cons x r ih =>
    unfold cnt
    show _ ≤ r.length + 1
    have hb : ∀ k, (bif Nat.beq x k then cnt k r + 1 else cnt k r) = cnt k r + if x = k then 1 else 0 := fun k => by
      by_cases hx : x = k
      · rw [show Nat.beq x k = true by rw [hx]; exact Nat.beq_refl k, if_pos hx]; rfl
      · have : Nat.beq x k = false := by
          cases hb : Nat.beq x k
          · rfl
          · exact absurd (Nat.eq_of_beq_eq_true hb) hx
        rw [this, if_neg hx]; rfl
    rw [hb, hb, hb, hb]
    split <;> split <;> split <;> split <;> omega
/-- The labels of a list come in order. -/
theorem Rg_ord : ∀ (l : List Nat) (u : Nat), Rg u l → ∀ p, p < l.length → nth l p ≠ 3 → ∀ q, u ≤ q → q < nth l p → ∃ p', p' < p ∧ nth l p' = q
  | x :: r, u, h, 0, hp, hn, q, h1, h2 => by
    have h2 : q < x := h2
    have hn : x ≠ 3 := hn
    rcases h with ⟨h3, _⟩ | ⟨h3, h4, _⟩
    · exact absurd h3 hn
    · omega
  | x :: r, u, h, p + 1, hp, hn, q, h1, h2 => by
    have hp : p < r.length := by simpa using hp
    rcases h with ⟨h3, h4⟩ | ⟨h3, h4, h5⟩
    · obtain ⟨p', g1, g2⟩ := Rg_ord r u h4 p hp hn q h1 h2
      exact ⟨p' + 1, by omega, g2⟩
    · by_cases hxu : x = u
      · rw [if_pos hxu] at h5
        by_cases hqu : q = u
        · exact ⟨0, by omega, by rw [hqu]; exact hxu⟩
        · obtain ⟨p', g1, g2⟩ := Rg_ord r (u + 1) h5 p hp hn q (by omega) h2
          exact ⟨p' + 1, by omega, g2⟩
      · rw [if_neg hxu] at h5
        obtain ⟨p', g1, g2⟩ := Rg_ord r u h5 p hp hn q h1 h2
        exact ⟨p' + 1, by omega, g2⟩
theorem Rg_of : ∀ (l : List Nat) (u : Nat), (∀ p, p < l.length → nth l p ≤ 3) → (∀ p, p < l.length → nth l p ≠ 3 → ∀ q, u ≤ q → q < nth l p → ∃ p', p' < p ∧ nth l p' = q) → Rg u l
  | [], _, _, _ => trivial
  | x :: r, u, h3, h => by
    have hx3 : x ≤ 3 := h3 0 (by simp)
    by_cases hx : x = 3
    · refine .inl ⟨hx, Rg_of r u (fun p hp => h3 (p + 1) (by simp; omega)) fun p hp hn q h1 h2 => ?_⟩
      obtain ⟨p', g1, g2⟩ := h (p + 1) (by simp; omega) hn q h1 h2
      cases p' with
      | zero =>
        have g2 : x = q := g2
        have := h3 (p + 1) (by simp; omega)
        have h2 : q < nth r p := h2
        have this : nth r p ≤ 3 := this
        omega
      | succ p' => exact ⟨p', by omega, g2⟩
    · have hxu : x ≤ u := by
        rcases Nat.lt_or_ge u x with hc | hc
        · obtain ⟨p', g1, _⟩ := h 0 (by simp) hx u (Nat.le_refl _) hc
          omega
        · exact hc
      refine .inr ⟨hxu, by omega, Rg_of r _ (fun p hp => h3 (p + 1) (by simp; omega)) fun p hp hn q h1 h2 => ?_⟩
      have hq : u ≤ q := by split at h1 <;> omega
      obtain ⟨p', g1, g2⟩ := h (p + 1) (by simp; omega) hn q hq h2
      cases p' with
      | zero =>
        have g2 : x = q := g2
        split at h1 <;> omega
      | succ p' => exact ⟨p', by omega, g2⟩
theorem sN_iff : ∀ (b a : List Nat), b.length = a.length → (sN b a = true ↔ ∀ p, p < a.length → (nth b p = 3 ↔ nth a p = 3))
  | [], [], _ => ⟨fun _ p hp => by simp at hp, fun _ => rfl⟩
  | x :: b, y :: a, hl => by
    have hb : ∀ z, Nat.beq z 3 = true ↔ z = 3 := fun z => ⟨Nat.eq_of_beq_eq_true, fun h => by rw [h]; rfl⟩
    have ih := sN_iff b a (by simpa using hl)
    show ((bif Nat.beq x 3 then Nat.beq y 3 else !Nat.beq y 3) && sN b a) = true ↔ _
    rw [Bool.and_eq_true, ih]
    have h1 : (bif Nat.beq x 3 then Nat.beq y 3 else !Nat.beq y 3) = true ↔ (x = 3 ↔ y = 3) := by
      rw [← hb x, ← hb y]
      cases Nat.beq x 3 <;> cases Nat.beq y 3 <;> simp
    rw [h1]
    constructor
    · rintro ⟨g1, g2⟩ p hp
      cases p with
      | zero => exact g1
      | succ p => exact g2 p (by simpa using hp)
    · intro h
      exact ⟨h 0 (by simp), fun p hp => h (p + 1) (by simp; omega)⟩
theorem lx_iff : ∀ (b a : List Nat), b.length = a.length → (lx b a = true ↔ ∃ j, j < a.length ∧ (∀ e, e < j → nth b e = nth a e) ∧ nth b j < nth a j)
  | [], [], _ => ⟨(fun h => by cases h), fun ⟨j, hj, _⟩ => by simp at hj⟩
  | x :: b, y :: a, hl => by
    have ih := lx_iff b a (by simpa using hl)
    show (Nat.blt x y || (Nat.beq x y && lx b a)) = true ↔ _
    have h1 : Nat.blt x y = true ↔ x < y := ⟨fun h => Nat.le_of_ble_eq_true h, fun h => Nat.ble_eq_true_of_le h⟩
    have h2 : Nat.beq x y = true ↔ x = y := ⟨Nat.eq_of_beq_eq_true, fun h => by rw [h]; exact Nat.beq_refl y⟩
    rw [Bool.or_eq_true, Bool.and_eq_true, ih, h1, h2]
    constructor
    · rintro (h | ⟨h, j, g1, g2, g3⟩)
      · exact ⟨0, by simp, fun e he => absurd he (Nat.not_lt_zero e), h⟩
      · refine ⟨j + 1, by simp; omega, fun e he => ?_, g3⟩
        cases e with
        | zero => exact h
        | succ e => exact g2 e (by omega)
    · rintro ⟨j, g1, g2, g3⟩
      cases j with
      | zero => exact .inl g3
      | succ j => exact .inr ⟨g2 0 (by omega), j, by simpa using g1, fun e he => g2 (e + 1) (by omega), g3⟩
theorem eqb_iff {x y : Bool} : eqb x y = true ↔ x = y := by cases x <;> cases y <;> simp [eqb]
theorem bf_imp (k : Nat) : ∀ (b a : List Nat), bf k b a = true → ∃ i, i < b.length ∧ nth b i = k ∧ nth a i ≠ k ∧ ∀ j, j < i → (nth b j = k ↔ nth a j = k)
  | [], _, h => by cases h
  | _ :: _, [], h => by cases h
  | x :: b, y :: a, h => by
    have hbq : ∀ z, Nat.beq z k = true ↔ z = k := fun z => ⟨Nat.eq_of_beq_eq_true, fun h => by rw [h]; exact Nat.beq_refl k⟩
    have h : (bif eqb (Nat.beq x k) (Nat.beq y k) then bf k b a else Nat.beq x k) = true := h
    cases he : eqb (Nat.beq x k) (Nat.beq y k)
    · rw [he] at h
      have hx : x = k := (hbq x).1 h
      refine ⟨0, by simp, hx, fun hy => ?_, fun j hj => absurd hj (Nat.not_lt_zero j)⟩
      have hy : y = k := hy
      have h1 := (hbq x).2 hx
      have h2 := (hbq y).2 hy
      rw [h1, h2] at he
      cases he
    · rw [he] at h
      obtain ⟨i, g1, g2, g3, g4⟩ := bf_imp k b a h
      have he := eqb_iff.1 he
      refine ⟨i + 1, by simp; omega, g2, g3, fun j hj => ?_⟩
      cases j with
      | zero => show x = k ↔ y = k; rw [← hbq x, ← hbq y, he]
      | succ j => exact g4 j (by omega)
theorem sm_imp (k : Nat) : ∀ (b a : List Nat), sm k b a = true → ∀ p, p < b.length → (nth b p = k ↔ nth a p = k)
  | [], _, _, p, hp => by simp at hp
  | _ :: _, [], h, _, _ => by cases h
  | x :: b, y :: a, h, p, hp => by
    have hbq : ∀ z, Nat.beq z k = true ↔ z = k := fun z => ⟨Nat.eq_of_beq_eq_true, fun h => by rw [h]; exact Nat.beq_refl k⟩
    have h : (eqb (Nat.beq x k) (Nat.beq y k) && sm k b a) = true := h
    rw [Bool.and_eq_true] at h
    have he := eqb_iff.1 h.1
    cases p with
    | zero => show x = k ↔ y = k; rw [← hbq x, ← hbq y, he]
    | succ p => exact sm_imp k b a h.2 p (by simpa using hp)
end Go.Proofs.YtpblmkephkhlkaaDoor.Fin
/- The two groupings are the same: at most 7 balances. No conditions. -/
namespace Go.Proofs.YtpblmkephkhlkaaDoor.Eq7
open Go.Ev Mk
open _root_.Go.Proofs.YtpblmkephkhlkaaDoor.Fin
set_option linter.all false
open Rf (Gd Zs tn Pf Lx)
theorem sM_top {f : Nat → Int} {s n : Nat} (hs : s < 2 ^ n) : ∀ k, sM f s (n + k) = sM f s n
  | 0 => rfl
  | k + 1 => by
    show sM f s (n + k) + (if s.testBit (n + k) = true then f (n + k) else 0) = _
    rw [sM_top hs k, Nat.testBit_lt_two_pow (Nat.lt_of_lt_of_le hs (Nat.pow_le_pow_right (by decide) (by omega)))]
    simp
section
variable {b : Row} {M : Nat} (hf : Fit b) (P : Prg b M) (hn7 : b.n ≤ 7)
include P in
theorem bit_iff {p : Nat} : M.testBit p = true ↔ p < b.n ∧ bF b p ≠ 0 := by
  rw [P.nz p, Bool.and_eq_true, decide_eq_true_eq, decide_eq_true_eq]
  exact Iff.rfl
include P in
theorem gd_zero {l : Nat → Int} {m : Nat} (g : Gd (Zs b.n (bF b)) (bF b) b.n m l) (q : Nat) : Sg b (clM (tn l) M q b.n) = 0 := by
  unfold Sg
  rw [sM_class2 (Nat.le_refl b.n) fun i hi hb => ?_]
  · exact g.2 q
  · rcases Int.lt_trichotomy (bF b i) 0 with h | h | h
    · have := (bit_iff P).2 ⟨hi, by omega⟩; rw [hb] at this; cases this
    · exact h
    · have := (bit_iff P).2 ⟨hi, by omega⟩; rw [hb] at this; cases this
theorem gd_lt {l : Nat → Int} {m : Nat} (g : Gd (Zs b.n (bF b)) (bF b) b.n m l) : ∀ i, i < b.n → tn l i < b.n := fun i hi => by
  have := g.1.le i i (Nat.le_refl _) hi
  unfold Rf.tn
  omega
theorem gd_n {l : Nat → Int} {m : Nat} (g : Gd (Zs b.n (bF b)) (bF b) b.n m l) : m ≤ b.n := by
  by_cases h : m = 0
  · omega
  · obtain ⟨p, h1, h2, h3⟩ := g.1.use (m - 1) (by omega)
    have := g.1.le p p (Nat.le_refl _) h1
    omega
include P in
theorem gd_use {l : Nat → Int} {m : Nat} (g : Gd (Zs b.n (bF b)) (bF b) b.n m l) {q : Nat} (hq : q < m) : use (tn l) M b.n q = true := by
  obtain ⟨p, h1, h2, h3⟩ := g.1.use q hq
  exact use_iff.2 ⟨p, h1, (bit_iff P).2 ⟨h1, h2⟩, by unfold Rf.tn; omega⟩
include hf P in
theorem gd_le {l : Nat → Int} {m : Nat} (g : Gd (Zs b.n (bF b)) (bF b) b.n m l) : (m : Int) ≤ mN b M := by
  have h1 := (lab_le hf (gd_lt g) M M (Nat.le_refl _) P.lt (gd_zero P g)).2
  have h2 := cntB_ge (e := use (tn l) M b.n) (a := 0) (k := m) (fun q _ hq => gd_use P g (by omega)) (Q := b.n) (by have := gd_n g; omega)
  omega
include P in
theorem gd_lab {l : Nat → Int} {m : Nat} (g : Gd (Zs b.n (bF b)) (bF b) b.n m l) {p : Nat} (hp : M.testBit p = true) : (tn l p : Int) = l p ∧ tn l p < m ∧ ∀ q, q < tn l p → ∃ p', p' < p ∧ M.testBit p' = true ∧ tn l p' = q := by
  obtain ⟨h1, h2⟩ := (bit_iff P).1 hp
  have h3 := g.1.lo p h1 h2
  have h4 := g.1.hi p h1 h2
  refine ⟨by unfold Rf.tn; omega, by unfold Rf.tn; omega, fun q hq => ?_⟩
  obtain ⟨p', k1, k2, k3⟩ := g.1.rg p h1 h2 q (by unfold Rf.tn at hq; omega)
  exact ⟨p', k1, (bit_iff P).2 ⟨by omega, k2⟩, by unfold Rf.tn; omega⟩
include hf P in
theorem gd_cand {l : Nat → Int} {m : Nat} (g : Gd (Zs b.n (bF b)) (bF b) b.n m l) (hm : mN b M = (m : Nat)) (h0 : M ≠ 0) :
    Cand (mostR b) M (lowN M) (clM (tn l) M 0 b.n) ∧ mN b (M ^^^ clM (tn l) M 0 b.n) = mN b M - 1 := by
  have hp10 : 2 ^ b.n ≤ 2 ^ 10 := Nat.pow_le_pow_right (by decide) hf.1
  have hM := P.lt
  have hlow := low_bits h0 (by omega)
  have hm1 := ((most_good hf P.lt).pos h0 P.z).1
  refine candOf hf P.lt h0 P.z (gd_zero P g) ?_ (fun q h1 h2 => gd_use P g (by omega)) hm (by omega) (gd_lt g) (by have := gd_n g; omega) (fun p hp => by have := (gd_lab P g hp).2.1; omega) (fun p hp => Nat.zero_le _)
  rcases Nat.eq_zero_or_pos (tn l (ctzN M)) with h | h
  · exact h
  · obtain ⟨p', k1, k2, _⟩ := (gd_lab P g hlow.1).2.2 0 h
    rw [hlow.2.1 p' k1] at k2
    cases k2
include hf P in
theorem gd_cand1 {l : Nat → Int} {m : Nat} (g : Gd (Zs b.n (bF b)) (bF b) b.n m l) (hm : mN b M = (m : Nat)) (h0 : M ≠ 0) {R : Nat} (hR : R = M ^^^ clM (tn l) M 0 b.n) (hR0 : R ≠ 0) :
    Cand (mostR b) R (lowN R) (clM (tn l) M 1 b.n) := by
  have hp10 : 2 ^ b.n ≤ 2 ^ 10 := Nat.pow_le_pow_right (by decide) hf.1
  obtain ⟨c1, c2⟩ := gd_cand hf P g hm h0
  have hsub := c1.2.1
  have hRl : R < 2 ^ b.n := by rw [hR]; exact Nat.lt_of_le_of_lt (xor_le hsub) P.lt
  have hRz : Sg b R = 0 := by
    rw [hR]
    have : Sg b (M ^^^ clM (tn l) M 0 b.n) = Sg b M - Sg b (clM (tn l) M 0 b.n) := sM_xor hsub
    rw [this, P.z, gd_zero P g 0]
    rfl
  have hcl : ∀ q, clM (tn l) R q b.n = if q = 0 then 0 else clM (tn l) M q b.n := fun q => by rw [hR]; exact clM_x q
  have hRM : ∀ p, R.testBit p = true → M.testBit p = true ∧ tn l p ≠ 0 := fun p hp => by
    rw [hR, Nat.testBit_xor, clM_bit] at hp
    cases hM : M.testBit p
    · rw [hM] at hp; simp at hp
    · refine ⟨rfl, fun h => ?_⟩
      have := ((bit_iff P).1 hM).1
      rw [hM, h, decide_eq_true this] at hp
      simp at hp
  have hMR : ∀ p, M.testBit p = true → tn l p ≠ 0 → R.testBit p = true := fun p hp h => by
    rw [hR, Nat.testBit_xor, clM_bit, hp, decide_eq_false h]
    simp
  have hlow := low_bits hR0 (by omega)
  have hm1 := ((most_good hf hRl).pos hR0 hRz).1
  have hmR : mN b R = ((m - 1 : Nat) : Int) := by
    rw [← hR] at c2
    have : (1 : Int) ≤ mN b R := hm1
    omega
  have h1m : 1 ≤ m - 1 := by
    have : (1 : Int) ≤ mN b R := hm1
    omega
  have hres := (candOf hf (q0 := 1) (k := m - 1) (c := tn l) hRl hR0 hRz (fun q => by
    rw [hcl]
    split
    · exact sM_zero
    · exact gd_zero P g q) ?_ (fun q h1 h2 => by
      have := gd_use P g (q := q) (by omega)
      unfold Mk.use at this ⊢
      rw [hcl, if_neg (by omega)]
      exact this) hmR h1m (gd_lt g) (by have := gd_n g; omega) (fun p hp => by have := (gd_lab P g (hRM p hp).1).2.1; omega) (fun p hp => by have := (hRM p hp).2; omega)).1
  · rw [hcl, if_neg (by decide)] at hres
    exact hres
  · obtain ⟨k1, k2⟩ := hRM _ hlow.1
    rcases Nat.lt_or_ge 1 (tn l (ctzN R)) with h | h
    · obtain ⟨p', j1, j2, j3⟩ := (gd_lab P g k1).2.2 1 h
      have := hMR p' j2 (by omega)
      rw [hlow.2.1 p' j1] at this
      cases this
    · omega
/-- Labels as a list. -/
def ls (M : Nat) (l : Nat → Int) : List Nat := lsF (fun p => if M.testBit p = true then tn l p else 3) 7 0
theorem ls_len (M : Nat) (l : Nat → Int) : (ls M l).length = 7 := lsF_len _ _ _
theorem ls_nth {M p : Nat} {l : Nat → Int} (hp : p < 7) : nth (ls M l) p = if M.testBit p = true then tn l p else 3 := by
  unfold ls
  rw [lsF_nth _ 7 0 p hp, Nat.zero_add]
include hf P hn7 in
theorem dot_cls {c : Nat → Nat} {L : List Nat} {q k : Nat} (hl : L.length = 7) (h : ∀ p, p < 7 → (nth L p = k ↔ M.testBit p = true ∧ c p = q)) : dot (ind k L) 0 (bF b) = Sg b (clM c M q b.n) := by
  have h1 := dot_sM (bF b) k (clM c M q b.n) L 0 (fun p hp => by
    rw [hl] at hp
    rw [Nat.zero_add, h p hp, clM_bit]
    simp only [Bool.and_eq_true, decide_eq_true_eq]
    constructor
    · rintro ⟨_, h2, h3⟩; exact ⟨h2, h3⟩
    · rintro ⟨h2, h3⟩; exact ⟨((bit_iff P).1 h2).1, h2, h3⟩)
  rw [hl, Nat.zero_add] at h1
  have h0 : sM (bF b) (clM c M q b.n) 0 = 0 := rfl
  have hlt : clM c M q b.n < 2 ^ b.n := Nat.lt_pow_two_of_testBit _ fun i hi => by rw [clM_bit, decide_eq_false (by omega)]; rfl
  have h2 := sM_top (f := bF b) hlt (7 - b.n)
  rw [show b.n + (7 - b.n) = 7 by omega] at h2
  unfold Sg
  omega
include hf P hn7 in
theorem gd_G3 {l : Nat → Int} (g : Gd (Zs b.n (bF b)) (bF b) b.n 3 l) : _root_.Go.Proofs.YtpblmkephkhlkaaDoor.Fin.G3 (bF b) (ls M l) := by
  have hbn : ∀ p, M.testBit p = true → p < 7 := fun p hp => by have := ((bit_iff P).1 hp).1; omega
  have hk : ∀ k, k < 3 → ∀ p, p < 7 → (nth (ls M l) p = k ↔ M.testBit p = true ∧ tn l p = k) := fun k hk p hp => by
    rw [ls_nth hp]
    by_cases hM : M.testBit p = true
    · rw [if_pos hM]; exact ⟨fun h => ⟨hM, h⟩, fun h => h.2⟩
    · rw [if_neg hM]; exact ⟨fun h => by omega, fun h => absurd h.1 hM⟩
  have hd : ∀ k, k < 3 → dot (ind k (ls M l)) 0 (bF b) = 0 := fun k h3 => by
    rw [dot_cls hf P hn7 (ls_len M l) (hk k h3)]
    exact gd_zero P g k
  have ht : ∀ k, k < 3 → 2 ≤ cnt k (ls M l) := fun k h3 => cnt_two k (bF b) (ls M l) 0 (hd k h3) (fun p hp he => by
    rw [ls_len] at hp
    rw [Nat.zero_add]
    exact ((bit_iff P).1 ((hk k h3 p hp).1 he).1).2) (by
    obtain ⟨p, h1, h2, h4⟩ := use_iff.1 (gd_use P g h3)
    exact ⟨p, by rw [ls_len]; omega, (hk k h3 p (by omega)).2 ⟨h2, h4⟩⟩)
  refine ⟨ls_len M l, ?_, ?_, hd 0 (by decide), hd 1 (by decide), hd 2 (by decide)⟩
  · refine Rg_of _ 0 (fun p hp => ?_) fun p hp hne q _ hq => ?_
    · rw [ls_len] at hp
      rw [ls_nth hp]
      split
      · rename_i hM
        have := (gd_lab P g hM).2.1; omega
      · exact Nat.le_refl _
    · rw [ls_len] at hp
      rw [ls_nth hp] at hne hq
      by_cases hM : M.testBit p = true
      · rw [if_pos hM] at hq
        obtain ⟨p', k1, k2, k3⟩ := (gd_lab P g hM).2.2 q hq
        exact ⟨p', k1, by rw [ls_nth (by omega), if_pos k2]; exact k3⟩
      · rw [if_neg hM] at hne; exact absurd rfl hne
  · unfold _root_.Go.Proofs.YtpblmkephkhlkaaDoor.Fin.two
    rw [Nat.ble_eq_true_of_le (ht 0 (by decide)), Nat.ble_eq_true_of_le (ht 1 (by decide)), Nat.ble_eq_true_of_le (ht 2 (by decide))]
    rfl
/-- A list's labels. -/
def lf (M : Nat) (L : List Nat) : Nat → Int := fun p => if M.testBit p = true then (nth L p : Int) else -1
theorem lf_tn {L : List Nat} {p : Nat} (hp : M.testBit p = true) : tn (lf M L) p = nth L p := by
  unfold Rf.tn lf
  rw [if_pos hp, Int.toNat_natCast]
include hf P hn7 in
theorem G3_gd {l : Nat → Int} {L : List Nat} (h : _root_.Go.Proofs.YtpblmkephkhlkaaDoor.Fin.G3 (bF b) L) (hs : sN L (ls M l) = true) (hl3 : ∀ p, M.testBit p = true → tn l p ≠ 3) : (∀ p, p < 7 → (nth L p = 3 ↔ M.testBit p = false)) ∧ Gd (Zs b.n (bF b)) (bF b) b.n 3 (lf M L) := by
  have h3 : ∀ p, p < 7 → (nth L p = 3 ↔ M.testBit p = false) := fun p hp => by
    rw [(sN_iff L (ls M l) (by rw [h.len, ls_len])).1 hs p (by rw [ls_len]; exact hp), ls_nth hp]
    by_cases hM : M.testBit p = true
    · rw [if_pos hM, hM]; exact ⟨fun he => absurd he (hl3 p hM), fun he => by cases he⟩
    · rw [if_neg hM]; exact ⟨fun _ => by simpa using hM, fun _ => rfl⟩
  have hle : ∀ p, p < 7 → nth L p ≤ 3 := fun p hp => by
    have : nth L p ∈ L := by
      have : ∀ (L : List Nat) p, p < L.length → nth L p ∈ L := by
        intro L
        induction L with
        | nil => intro p hp; simp at hp
        | cons x r ih =>
          intro p hp
          cases p with
          | zero => exact List.mem_cons_self
          | succ p => exact List.mem_cons_of_mem _ (ih p (by simpa using hp))
      exact this L p (by rw [h.len]; exact hp)
    exact Rg_le L 0 h.rg _ this
  have hb : ∀ p, p < b.n → bF b p ≠ 0 → M.testBit p = true ∧ lf M L p = (nth L p : Int) ∧ nth L p < 3 := fun p hp hbp => by
    have hM := (bit_iff P).2 ⟨hp, hbp⟩
    have h4 := hle p (by omega)
    have h5 : nth L p ≠ 3 := fun he => by rw [(h3 p (by omega)).1 he] at hM; cases hM
    exact ⟨hM, by unfold lf; rw [if_pos hM], by omega⟩
  have hk : ∀ k, k < 3 → ∀ p, p < 7 → (nth L p = k ↔ M.testBit p = true ∧ tn (lf M L) p = k) := fun k hk p hp => by
    constructor
    · intro he
      have hM : M.testBit p = true := by
        cases hM : M.testBit p
        · have := (h3 p hp).2 hM; omega
        · rfl
      exact ⟨hM, by rw [lf_tn hM]; exact he⟩
    · rintro ⟨hM, he⟩
      rw [lf_tn hM] at he; exact he
  refine ⟨h3, ⟨fun p hp hbp => ?_, fun p hp hbp => ?_, fun p hp hbp => ?_, fun p hp hbp q hq => ?_, fun q hq => ?_⟩, fun q => ?_⟩
  · unfold lf
    rw [if_neg fun hM => ((bit_iff P).1 hM).2 hbp]
  · rw [(hb p hp hbp).2.1]; omega
  · rw [(hb p hp hbp).2.1]; have := (hb p hp hbp).2.2; omega
  · obtain ⟨k1, k2, k3⟩ := hb p hp hbp
    rw [k2] at hq
    obtain ⟨p', j1, j2⟩ := Rg_ord L 0 h.rg p (by rw [h.len]; omega) (by omega) q (Nat.zero_le _) (by omega)
    have hM' : M.testBit p' = true := by
      cases hM : M.testBit p'
      · have := (h3 p' (by omega)).2 hM; omega
      · rfl
    refine ⟨p', j1, ((bit_iff P).1 hM').2, ?_⟩
    unfold lf
    rw [if_pos hM', j2]
  · have hc : cnt q L ≠ 0 := fun h0 => by
      have ht := h.two
      unfold _root_.Go.Proofs.YtpblmkephkhlkaaDoor.Fin.two at ht
      simp only [Bool.and_eq_true] at ht
      have t0 := Nat.le_of_ble_eq_true ht.1
      have t1 := Nat.le_of_ble_eq_true ht.2.1
      have t2 := Nat.le_of_ble_eq_true ht.2.2
      have : q = 0 ∨ q = 1 ∨ q = 2 := by omega
      rcases this with rfl | rfl | rfl <;> omega
    have : ∃ p, p < 7 ∧ nth L p = q := Classical.byContradiction fun hne => hc (by
      have : ∀ (L : List Nat), (∀ p, p < L.length → nth L p ≠ q) → cnt q L = 0 := by
        intro L
        induction L with
        | nil => intro _; rfl
        | cons x r ih =>
          intro h
          unfold cnt
          have hx : Nat.beq x q = false := by
            cases hb : Nat.beq x q
            · rfl
            · exact absurd (Nat.eq_of_beq_eq_true hb) (h 0 (by simp))
          rw [hx]
          exact ih fun p hp => h (p + 1) (by simp; omega)
      exact this L fun p hp he => hne ⟨p, by rw [h.len] at hp; exact hp, he⟩)
    obtain ⟨p, hp, he⟩ := this
    obtain ⟨hM, _⟩ := (hk q hq p hp).1 he
    obtain ⟨k1, k2⟩ := (bit_iff P).1 hM
    exact ⟨p, k1, k2, by unfold lf; rw [if_pos hM, he]⟩
  · have hcl : Rf.Zs b.n (bF b) (lf M L) ↔ ∀ q, Sg b (clM (tn (lf M L)) M q b.n) = 0 := by
      unfold Rf.Zs Sg
      constructor
      · intro h q
        rw [sM_class2 (Nat.le_refl b.n) fun i hi hb => Classical.byContradiction fun hne => by have := (bit_iff P).2 ⟨hi, hne⟩; rw [hb] at this; cases this]
        exact h q
      · intro h q
        have := h q
        rw [sM_class2 (Nat.le_refl b.n) fun i hi hb => Classical.byContradiction fun hne => by have := (bit_iff P).2 ⟨hi, hne⟩; rw [hb] at this; cases this] at this
        exact this
    refine (hcl.2 fun q => ?_) q
    by_cases hq : q < 3
    · rw [← dot_cls hf P hn7 h.len (hk q hq)]
      have : q = 0 ∨ q = 1 ∨ q = 2 := by omega
      rcases this with rfl | rfl | rfl
      · exact h.z0
      · exact h.z1
      · exact h.z2
    · have : clM (tn (lf M L)) M q b.n = 0 := by
        apply Nat.eq_of_testBit_eq
        intro i
        rw [clM_bit, Nat.zero_testBit]
        by_cases hi : i < b.n
        · cases hM : M.testBit i
          · simp
          · obtain ⟨k1, k2⟩ := (bit_iff P).1 hM
            have := (hb i k1 k2).2.2
            rw [decide_eq_false (show ¬ tn (lf M L) i = q by rw [lf_tn hM]; omega)]
            simp
        · rw [decide_eq_false hi]; rfl
      rw [this]
      exact sM_zero
end
end Go.Proofs.YtpblmkephkhlkaaDoor.Eq7
/- The two groupings are the same: at most 7 balances. No conditions. -/
namespace Go.Proofs.YtpblmkephkhlkaaDoor.Eq7
open Go.Ev Mk
open _root_.Go.Proofs.YtpblmkephkhlkaaDoor.Fin
set_option linter.all false
open Rf (Gd Zs tn Pf Lx rgF rgL lst)
theorem Bf_of {M n : Nat} {l l' : Nat → Int} {k j : Nat} (hj : j < n) (hM : M.testBit j = true) (h1 : tn l' j = k) (h2 : tn l j ≠ k) (h3 : ∀ e, e < j → M.testBit e = true → (tn l' e = k ↔ tn l e = k)) : Bf (clM (tn l') M k n) (clM (tn l) M k n) := by
  refine ⟨j, ?_, ?_, fun e he => ?_⟩
  · rw [clM_bit, decide_eq_true hj, hM, decide_eq_true h1]; rfl
  · rw [clM_bit, decide_eq_false h2]; simp
  · rw [clM_bit, clM_bit]
    cases hMe : M.testBit e
    · simp
    · have := h3 e he hMe
      by_cases hc : tn l' e = k
      · rw [decide_eq_true hc, decide_eq_true (this.1 hc)]
      · rw [decide_eq_false hc, decide_eq_false (fun h => hc (this.2 h))]
/-- Of the best groupings none comes before the greedy one. -/
theorem none_before {b : Row} {M : Nat} (hf : Fit b) (P : Prg b M) (hn7 : b.n ≤ 7) {l0 : Nat → Int} {m : Nat} (hm : mN b M = (m : Nat)) (g0 : Gd (Zs b.n (bF b)) (bF b) b.n m l0) (gA : Gd (Zs b.n (bF b)) (bF b) b.n m (fun p => (gpR b).I p 0))
    (hfst : ∀ l', Gd (Zs b.n (bF b)) (bF b) b.n m l' → ¬ Lx b.n l' l0) : ¬ Lx b.n l0 (fun p => (gpR b).I p 0) := by
  rintro ⟨j, hj, he, hlt⟩
  have hAl : tn (fun p => (gpR b).I p 0) = lab (gpR b) := rfl
  have hBj : bF b j ≠ 0 := fun hz => by
    have hlt : l0 j < (gpR b).I j 0 := hlt
    have h1 : (gpR b).I j 0 = -1 := gA.1.z j hj hz
    rw [g0.1.z j hj hz] at hlt
    omega
  have hMj := (bit_iff P).2 ⟨hj, hBj⟩
  have hM0 : M ≠ 0 := fun h => by rw [h, Nat.zero_testBit] at hMj; cases hMj
  have t0 := gd_lab P g0 hMj
  have tA := gd_lab P gA hMj
  have hlt' : tn l0 j < tn (fun p => (gpR b).I p 0) j := by
    have h1 := t0.1
    have h2 := tA.1
    have h2 : (tn (fun p => (gpR b).I p 0) j : Int) = (gpR b).I j 0 := h2
    have hlt : l0 j < (gpR b).I j 0 := hlt
    omega
  have hee : ∀ e, e < j → tn l0 e = tn (fun p => (gpR b).I p 0) e := fun e h => by
    unfold Rf.tn
    rw [he e h]
  by_cases hm4 : 4 ≤ m
  · -- too many groups
    have key : ∀ k k', (k = 0 ∧ k' = 0) ∨ (k = 1 ∧ k' = 1) ∨ (k = 2 ∧ k' = 2) ∨ (k = 3 ∧ k' = 4) → 2 ≤ cnt k' (lsF (fun p => if M.testBit p = true then (if tn l0 p = 3 then 4 else if 4 ≤ tn l0 p then 5 else tn l0 p) else 3) 7 0) := fun k k' hkk => by
      have hnth : ∀ p, p < 7 → (nth (lsF (fun p => if M.testBit p = true then (if tn l0 p = 3 then 4 else if 4 ≤ tn l0 p then 5 else tn l0 p) else 3) 7 0) p = k' ↔ M.testBit p = true ∧ tn l0 p = k) := fun p hp => by
        rw [lsF_nth _ 7 0 p hp, Nat.zero_add]
        by_cases hM : M.testBit p = true
        · rw [if_pos hM]
          constructor
          · intro h; refine ⟨hM, ?_⟩; split at h <;> (try split at h) <;> omega
          · rintro ⟨_, h⟩; split <;> (try split) <;> omega
        · rw [if_neg hM]
          exact ⟨fun h => by omega, fun h => absurd h.1 hM⟩
      have hd : dot (ind k' (lsF (fun p => if M.testBit p = true then (if tn l0 p = 3 then 4 else if 4 ≤ tn l0 p then 5 else tn l0 p) else 3) 7 0)) 0 (bF b) = 0 := by
        rw [dot_cls hf P hn7 (lsF_len _ _ _) hnth]
        exact gd_zero P g0 k
      refine cnt_two k' (bF b) _ 0 hd (fun p hp h => ?_) ?_
      · rw [lsF_len] at hp
        rw [Nat.zero_add]
        exact ((bit_iff P).1 ((hnth p hp).1 h).1).2
      · obtain ⟨p, h1, h2, h4⟩ := use_iff.1 (gd_use P g0 (q := k) (by omega))
        exact ⟨p, by rw [lsF_len]; omega, (hnth p (by omega)).2 ⟨h2, h4⟩⟩
    have h4 := cnt4 (lsF (fun p => if M.testBit p = true then (if tn l0 p = 3 then 4 else if 4 ≤ tn l0 p then 5 else tn l0 p) else 3) 7 0)
    rw [lsF_len] at h4
    have k0 := key 0 0 (by omega)
    have k1 := key 1 1 (by omega)
    have k2 := key 2 2 (by omega)
    have k3 := key 3 4 (by omega)
    omega
  · by_cases hm3 : m = 3
    · subst hm3
      have h30 : ∀ p, M.testBit p = true → tn l0 p ≠ 3 := fun p hp => by have := (gd_lab P g0 hp).2.1; omega
      have h3A : ∀ p, M.testBit p = true → tn (fun p => (gpR b).I p 0) p ≠ 3 := fun p hp => by have := (gd_lab P gA hp).2.1; omega
      have hsAB : sN (ls M l0) (ls M (fun p => (gpR b).I p 0)) = true := (sN_iff _ _ (by rw [ls_len, ls_len])).2 fun p hp => by
        rw [ls_len] at hp
        rw [ls_nth hp, ls_nth hp]
        by_cases hM : M.testBit p = true
        · rw [if_pos hM, if_pos hM]
          exact ⟨fun h => absurd h (h30 p hM), fun h => absurd h (h3A p hM)⟩
        · rw [if_neg hM, if_neg hM]
      have hGA := gd_G3 hf P hn7 gA
      have hG0 := gd_G3 hf P hn7 g0
      -- a list whose group k comes before
      have hbfk : ∀ (LC : List Nat) k, k < 3 → LC.length = 7 → (∀ p, p < 7 → (nth LC p = 3 ↔ M.testBit p = false)) → bf k LC (ls M (fun p => (gpR b).I p 0)) = true → Bf (clM (tn (lf M LC)) M k b.n) (clM (tn (fun p => (gpR b).I p 0)) M k b.n) := fun LC k hk hlen h3 hb => by
        obtain ⟨i, i1, i2, i3, i4⟩ := bf_imp k _ _ hb
        rw [hlen] at i1
        have hMi : M.testBit i = true := by
          cases hM : M.testBit i
          · have := (h3 i i1).2 hM; omega
          · rfl
        rw [ls_nth i1, if_pos hMi] at i3
        refine Bf_of ((bit_iff P).1 hMi).1 hMi ((lf_tn hMi).trans i2) i3 fun e h hMe => ?_
        have := i4 e h
        rw [ls_nth (by omega), if_pos hMe] at this
        rw [lf_tn hMe]
        exact this
      have hlx : lx (ls M l0) (ls M (fun p => (gpR b).I p 0)) = true := (lx_iff _ _ (by rw [ls_len, ls_len])).2 ⟨j, by rw [ls_len]; omega, fun e h => by
        rw [ls_nth (by omega), ls_nth (by omega), hee e h], by
        rw [ls_nth (by omega), ls_nth (by omega), if_pos hMj, if_pos hMj]
        exact hlt'⟩
      have := core hGA hG0 hsAB (fun p hp hne => by
          rw [ls_nth hp] at hne
          by_cases hM : M.testBit p = true
          · exact ((bit_iff P).1 hM).2
          · rw [if_neg hM] at hne; exact absurd rfl hne)
        (fun LC hC hs => by
          cases hb : bf 0 LC (ls M (fun p => (gpR b).I p 0))
          · rfl
          · exfalso
            obtain ⟨h3, hg⟩ := G3_gd hf P hn7 hC hs h3A
            exact P.g0 hM0 _ (gd_cand hf P hg hm hM0).1 (hbfk LC 0 (by decide) hC.len h3 hb))
        (fun LC hC hs hsm => by
          cases hb : bf 1 LC (ls M (fun p => (gpR b).I p 0))
          · rfl
          · exfalso
            obtain ⟨h3, hg⟩ := G3_gd hf P hn7 hC hs h3A
            have hc0 : clM (tn (lf M LC)) M 0 b.n = clM (tn (fun p => (gpR b).I p 0)) M 0 b.n := by
              apply Nat.eq_of_testBit_eq
              intro i
              rw [clM_bit, clM_bit]
              by_cases hi : i < b.n
              · rw [decide_eq_true hi]
                cases hM : M.testBit i
                · rfl
                · have h := sm_imp 0 _ _ hsm i (by rw [hC.len]; omega)
                  rw [ls_nth (by omega), if_pos hM, ← lf_tn (L := LC) hM] at h
                  by_cases hc : tn (lf M LC) i = 0
                  · rw [decide_eq_true hc, decide_eq_true (h.1 hc)]
                  · rw [decide_eq_false hc, decide_eq_false fun h' => hc (h.2 h')]
              · rw [decide_eq_false hi, Bool.false_and, Bool.false_and]
            have hR0 : M ^^^ clM (tn (fun p => (gpR b).I p 0)) M 0 b.n ≠ 0 := fun h0 => by
              obtain ⟨p, p1, p2, p3⟩ := use_iff.1 (gd_use P gA (q := 1) (by decide))
              have := congrArg (fun x => x.testBit p) h0
              simp only [Nat.testBit_xor, Nat.zero_testBit, clM_bit, p2, p3] at this
              simp at this
            have hc1 := gd_cand1 hf P hg hm hM0 (R := M ^^^ clM (tn (fun p => (gpR b).I p 0)) M 0 b.n) (by rw [hc0]) hR0
            exact P.g1 hM0 hR0 _ hc1 (hbfk LC 1 (by decide) hC.len h3 hb))
        (fun LC hC hs => by
          cases hb : lx LC (ls M l0)
          · rfl
          · exfalso
            obtain ⟨h3, hg⟩ := G3_gd hf P hn7 hC hs h3A
            obtain ⟨i, i1, i2, i3⟩ := (lx_iff _ _ (by rw [hC.len, ls_len])).1 hb
            rw [ls_len] at i1
            have hMi : M.testBit i = true := by
              cases hM : M.testBit i
              · have h := (h3 i i1).2 hM
                rw [h, ls_nth i1, hM] at i3
                simp at i3
              · rfl
            have hval : ∀ e, e < 7 → (e < b.n) → nth LC e = nth (ls M l0) e → lf M LC e = l0 e := fun e h7 hen h => by
              rw [ls_nth h7] at h
              unfold lf
              by_cases hM : M.testBit e = true
              · rw [if_pos hM] at h ⊢
                rw [h]
                exact (gd_lab P g0 hM).1
              · rw [if_neg hM]
                have hz : bF b e = 0 := Classical.byContradiction fun hne => hM ((bit_iff P).2 ⟨hen, hne⟩)
                exact (g0.1.z e hen hz).symm
            have hin := ((bit_iff P).1 hMi).1
            refine hfst _ hg ⟨i, hin, fun e h => hval e (by omega) (by omega) (i2 e h), ?_⟩
            rw [ls_nth i1, if_pos hMi] at i3
            have := (gd_lab P g0 hMi).1
            unfold lf
            rw [if_pos hMi]
            omega)
      rw [hlx] at this
      cases this
    · -- at most two groups
      have h2 := tA.2.1
      have hA1 : tn (fun p => (gpR b).I p 0) j = 1 := by omega
      have h00 : tn l0 j = 0 := by omega
      exact P.g0 hM0 _ (gd_cand hf P g0 hm hM0).1 (Bf_of hj hMj h00 (by omega) fun e h _ => by rw [hee e h])
theorem same_groups {b : Row} (h : ckE b = 0) (hn7 : b.n ≤ 7) : (rgF b).length = b.n ∧ ∀ p, p < b.n → (rgF b).getD p 0 = (gpR b).I p 0 := by
  obtain ⟨hf, hn1, _⟩ := ck_fit h
  obtain ⟨M, P⟩ := prg h
  obtain ⟨l0, m0, g0, hr, hfst⟩ := Rf.search_finds (by omega) hf.2 P.gd
  have hr : rgF b = lst b.n l0 := hr
  have hA := (hfst _ _ P.gd).1
  have h0 := gd_le hf P g0
  have hm0 := P.m0
  have hmm : m0 = (mN b M).toNat := by omega
  have hm : mN b M = (m0 : Nat) := by omega
  have gA := P.gd
  rw [← hmm] at gA
  have n1 : ¬ Lx b.n (fun p => (gpR b).I p 0) l0 := (hfst _ _ gA).2 rfl
  have n2 := none_before hf P hn7 hm g0 gA fun l' hg => (hfst l' m0 hg).2 rfl
  have key : ∀ N p, p ≤ N → p < b.n → l0 p = (gpR b).I p 0 := by
    intro N
    induction N with
    | zero =>
      intro p hp hpn
      have : p = 0 := by omega
      subst this
      rcases Int.lt_trichotomy (l0 0) ((gpR b).I 0 0) with hc | hc | hc
      · exact absurd ⟨0, hpn, fun e he => absurd he (Nat.not_lt_zero e), hc⟩ n2
      · exact hc
      · exact absurd ⟨0, hpn, fun e he => absurd he (Nat.not_lt_zero e), hc⟩ n1
    | succ N ih =>
      intro p hp hpn
      rcases Int.lt_trichotomy (l0 p) ((gpR b).I p 0) with hc | hc | hc
      · exact absurd ⟨p, hpn, fun e he => ih e (by omega) (by omega), hc⟩ n2
      · exact hc
      · exact absurd ⟨p, hpn, fun e he => (ih e (by omega) (by omega)).symm, hc⟩ n1
  rw [hr, Rf.lst_len]
  exact ⟨rfl, fun p hp => (Rf.lst_get hp).trans (key p p (Nat.le_refl _) hp)⟩
end Go.Proofs.YtpblmkephkhlkaaDoor.Eq7
/- The two settlements are the same: at most 7 balances. No conditions. -/
namespace Go.Proofs.YtpblmkephkhlkaaDoor.Eq7
open Go.Ev Mk
set_option linter.all false
theorem if_cg {P Q : Prop} [Decidable P] [Decidable Q] (h : P ↔ Q) {α : Type} (a b : α) : (if P then a else b) = if Q then a else b := by
  by_cases hp : P
  · rw [if_pos hp, if_pos (h.1 hp)]
  · rw [if_neg hp, if_neg fun hq => hp (h.2 hq)]
theorem pyN_ff {n : Nat} {lr f l g : Row} {gr : Int} (hb : Bd l n) (hg : ∀ p, p < n → lr.I p 0 = g.I p 0) (hf : ∀ p, p < n → g.I p 0 = gr → f.I p 0 = l.I p 0) :
    ∀ m, m ≤ n → fldN (Rf.pyN lr f gr n) m (n - m) (ffF l g gr 1 (n - m) m, ffF l g gr (-1) (n - m) m) = (ffF l g gr 1 n 0, ffF l g gr (-1) n 0)
  | 0, _ => rfl
  | m + 1, h => by
    have ih := pyN_ff hb hg hf m (by omega)
    rw [← ih]
    show fldN _ m (n - (m + 1) + 1) (Rf.pyN lr f gr n (n - (m + 1)) _) = _
    rw [show n - (m + 1) + 1 = n - m by omega]
    congr 1
    unfold Rf.pyN
    have e : n - 1 - (n - (m + 1)) = m := by omega
    rw [e]
    have hm := hb m (by omega)
    obtain ⟨d, hd⟩ : ∃ d, n - m = d + 1 := ⟨n - m - 1, by omega⟩
    have hd' : n - (m + 1) = d := by omega
    rw [hd, hd', hg m (by omega)]
    have e1 : ∀ sg, ffF l g gr sg (d + 1) m = if g.I m 0 = gr ∧ wi (l.I m 0 * sg) > 0 then (m : Int) else ffF l g gr sg d (m + 1) := fun sg => rfl
    rw [e1, e1, Int.mul_one, wiN (n := l.I m 0) (by omega) (by omega), wiN (n := l.I m 0 * -1) (by omega) (by omega)]
    refine Prod.ext ?_ ?_
    · exact if_cg ⟨fun ⟨a, c⟩ => ⟨a, by have := hf m (by omega) a; omega⟩, fun ⟨a, c⟩ => ⟨a, by have := hf m (by omega) a; omega⟩⟩ _ _
    · exact if_cg ⟨fun ⟨a, c⟩ => ⟨a, by have := hf m (by omega) a; omega⟩, fun ⟨a, c⟩ => ⟨a, by have := hf m (by omega) a; omega⟩⟩ _ _
theorem pyP_ff {n : Nat} {lr f l g : Row} {gr : Int} (hb : Bd l n) (hg : ∀ p, p < n → lr.I p 0 = g.I p 0) (hf : ∀ p, p < n → g.I p 0 = gr → f.I p 0 = l.I p 0) :
    Rf.pyP lr f gr n = (ffF l g gr 1 n 0, ffF l g gr (-1) n 0) := by
  have := pyN_ff hb hg hf n (Nat.le_refl _)
  rw [Nat.sub_self] at this
  exact this
theorem pk_pyO (o : Row) (p : Int × Int) (c : Int) : pk (Rf.pyO o o.n p c) (o.n + 1) = pk o o.n ++ [(p.1, p.2, c)] := pl_app (winOf o 0 o.n) (winOf ((((Row.zeros 1).setI 0 0 p.1).setI 0 1 p.2).setI 0 2 c) 0 1)
theorem sim {g lr : Row} {n : Nat} {gr : Int} (hn : n ≤ 10) (hg : ∀ p, p < n → lr.I p 0 = g.I p 0) : ∀ (F F2 : Nat) (l f : Row) (k : Nat) (o o' : Row) (k1 : Nat) (l1 o1 : Row), Bd l n → (∀ p, p < n → g.I p 0 = gr → f.I p 0 = l.I p 0) →
    Se.inG g n n gr F (Se.fw l g n n gr 1) k l o = some (k1, l1, o1) → F ≤ F2 → o'.n + F ≤ 1000000 → ∃ o2 X, Rf.pyF lr gr n F2 f o' = some o2 ∧ pk o1 k1 = pk o k ++ X ∧ pk o2 o2.n = pk o' o'.n ++ X
  | 0, F2, l, f, k, o, o', k1, l1, o1, hb, hf, h, hF, ho => by
    have hP := pyP_ff hb hg hf
    have hfw : Se.fw l g n n gr 1 = ffF l g gr 1 n 0 := ffF_win _ _ _ _ _ _ _ _
    unfold Se.inG at h
    rw [hfw] at h
    split at h
    · rename_i hc
      cases h
      refine ⟨o', [], ?_, (List.append_nil _).symm, (List.append_nil _).symm⟩
      have hc' : (Rf.pyP lr f gr n).1 < 0 := by rw [hP]; exact hc
      cases F2 <;> (unfold Rf.pyF; rw [if_pos hc'])
    · cases h
  | F + 1, F2, l, f, k, o, o', k1, l1, o1, hb, hf, h, hF, ho => by
    have hP := pyP_ff hb hg hf
    have hfw : Se.fw l g n n gr 1 = ffF l g gr 1 n 0 := ffF_win _ _ _ _ _ _ _ _
    have hfw2 : Se.fw l g n n gr (-1) = ffF l g gr (-1) n 0 := ffF_win _ _ _ _ _ _ _ _
    obtain ⟨F2, rfl⟩ : ∃ G, F2 = G + 1 := ⟨F2 - 1, by omega⟩
    unfold Se.inG at h
    rw [hfw, hfw2] at h
    split at h
    · rename_i hc
      cases h
      refine ⟨o', [], ?_, (List.append_nil _).symm, (List.append_nil _).symm⟩
      unfold Rf.pyF
      rw [if_pos (show (Rf.pyP lr f gr n).1 < 0 by rw [hP]; exact hc)]
    · rename_i hc
      split at h
      · cases h
      · rename_i hd
        rcases ffF_spec l g gr 1 n 0 with ⟨h1, _⟩ | ⟨i, h1, h2, h3, h4, h5⟩
        · rw [h1] at hc; exact absurd (by decide) hc
        · rcases ffF_spec l g gr (-1) n 0 with ⟨h1, _⟩ | ⟨t, t1, t2, t3, t4, t5⟩
          · rw [h1] at hd; exact absurd (by decide) hd
          · have hbi := hb i (by omega)
            have hbt := hb t (by omega)
            rw [Int.mul_one, wiN (by omega) (by omega)] at h5
            rw [wiN (by omega) (by omega)] at t5
            have hit : i ≠ t := fun h => by subst h; omega
            have hce : Se.ceI l i t = if - l.I t 0 < l.I i 0 then - l.I t 0 else l.I i 0 := by
              unfold Se.ceI Se.mnI
              rw [Int.toNat_natCast, Int.toNat_natCast, Nat.zero_add, Nat.zero_add, wiN (by omega) (by omega), Int.zero_sub]
            rw [h3, t3] at h
            have hfi := hf i (by omega) h4
            have hft := hf t (by omega) t4
            have hpc : Rf.pyC f ((i : Int), (t : Int)) = Se.ceI l i t := by
              rw [hce]
              unfold Rf.pyC
              rw [Int.toNat_natCast, Int.toNat_natCast, Nat.zero_add, Nat.zero_add, hfi, hft, show IntKind.i64.wrap (0 - l.I t 0) = - l.I t 0 from (wiN (by omega) (by omega)).trans (by omega)]
            generalize hcc : Se.ceI l i t = c at hce h hpc
            have hcr : 1 ≤ c ∧ c ≤ l.I i 0 ∧ c ≤ - l.I t 0 ∧ (c = l.I i 0 ∨ c = - l.I t 0) := by
              rw [hce]
              split <;> omega
            have hl2 := l2_I hit hbi hbt (c := c) (by omega)
            have hf2 : ∀ p : Nat, (Rf.pyL2 f ((i : Int), (t : Int))).I p 0 = f.I p 0 + dl ((i : Int), (t : Int), c) p := by
              have e : Rf.pyL2 f ((i : Int), (t : Int)) = Se.l2U f i t (Rf.pyC f ((i : Int), (t : Int))) := rfl
              rw [e, hpc]
              exact l2_I hit (by rw [hfi]; exact hbi) (by rw [hft]; exact hbt) (by omega)
            have hdi : (Se.l2U l i t c).I i 0 = l.I i 0 - c := by rw [hl2]; unfold dl; dsimp only; rw [if_neg (by omega), if_pos rfl]; omega
            have hdt : (Se.l2U l i t c).I t 0 = l.I t 0 + c := by rw [hl2]; unfold dl; dsimp only; rw [if_pos rfl, if_neg (by omega)]; omega
            have hdp : ∀ p, p ≠ i → p ≠ t → (Se.l2U l i t c).I p 0 = l.I p 0 := fun p h1 h2 => by rw [hl2]; unfold dl; dsimp only; rw [if_neg (by omega), if_neg (by omega)]; omega
            have hb2 : Bd (Se.l2U l i t c) n := fun p hp => by
              by_cases e1 : p = i
              · subst e1; rw [hdi]; omega
              · by_cases e2 : p = t
                · subst e2; rw [hdt]; omega
                · rw [hdp p e1 e2]; exact hb p hp
            obtain ⟨o2, X, r1, r2, r3⟩ := sim hn hg F F2 (Se.l2U l i t c) (Rf.pyL2 f ((i : Int), (t : Int))) (k + 1) (Se.oU o k (Se.pyR i t c)) (Rf.pyO o' o'.n ((i : Int), (t : Int)) c) k1 l1 o1 hb2 (fun p hp hpg => by rw [hf2, hl2, hf p hp hpg]) h (by omega) (by show o'.n + 1 + F ≤ _; omega)
            refine ⟨o2, ((i : Int), (t : Int), c) :: X, ?_, ?_, ?_⟩
            · have hP' : Rf.pyP lr f gr n = ((i : Int), (t : Int)) := by rw [hP, h3, t3]
              unfold Rf.pyF
              rw [hP', hpc, if_neg (show ¬ (i : Int) < 0 by omega), if_pos (show 0 ≤ (t : Int) ∧ (i : Int) < n ∧ (t : Int) < n ∧ o'.n ≤ 1000000 by omega)]
              exact r1
            · rw [r2, pk_oU, List.append_assoc]; rfl
            · rw [r3]
              show pk _ (o'.n + 1) ++ X = _
              rw [pk_pyO, List.append_assoc]
              rfl
/-- The payments of the groups j, j + 1, .. -/
def cat (XS : Nat → List Pt) : Nat → Nat → List Pt
  | 0, _ => []
  | c + 1, j => XS j ++ cat XS c (j + 1)
theorem cat_nil {XS : Nat → List Pt} {m : Nat} (h : ∀ j, m ≤ j → XS j = []) : ∀ c j, m ≤ j → cat XS c j = []
  | 0, _, _ => rfl
  | c + 1, j, hj => by
    unfold cat
    rw [h j hj, cat_nil h c (j + 1) (by omega)]
    rfl
theorem cat_cut {XS : Nat → List Pt} {m : Nat} (h : ∀ j, m ≤ j → XS j = []) : ∀ c j, j ≤ m → m ≤ j + c → cat XS c j = cat XS (m - j) j
  | 0, j, h1, h2 => by rw [show m - j = 0 by omega]
  | c + 1, j, h1, h2 => by
    by_cases he : j = m
    · rw [cat_nil h _ _ (by omega), he, Nat.sub_self]
      rfl
    · rw [show m - j = (m - (j + 1)) + 1 by omega]
      show XS j ++ cat XS c (j + 1) = XS j ++ _
      rw [cat_cut h c (j + 1) (by omega) (by omega)]
theorem pl_nxS (b l : Row) (g : Nat) (o : Row) : pl (Rf.nxS b l g o) = pl o ++ pl (Rf.pyS b l g) := pl_app (winOf o 0 o.n) (winOf (Rf.pyS b l g) 0 (Rf.pyS b l g).n)
theorem pl_fld (b l : Row) : ∀ m j o, pl (fldN (Rf.nxS b l) m j o) = pl o ++ cat (fun j => pl (Rf.pyS b l j)) m j
  | 0, j, o => (List.append_nil _).symm
  | m + 1, j, o => by
    show pl (fldN _ m (j + 1) (Rf.nxS b l j o)) = _ ++ (pl (Rf.pyS b l j) ++ cat _ m (j + 1))
    rw [pl_fld b l m (j + 1), pl_nxS, List.append_assoc]
theorem coR_spec {r : Row} {B : Nat} (hB : B ≤ 1000) (h : ∀ i, i < r.n → -1 ≤ r.I i 0 ∧ r.I i 0 < (B : Int)) : 0 ≤ Rf.coR r ∧ Rf.coR r ≤ B ∧ ∀ i, i < r.n → r.I i 0 < Rf.coR r := by
  unfold Rf.coR
  refine fold_inv (nx := Rf.cnX r) (Inv := fun j a => 0 ≤ a ∧ a ≤ (B : Int) ∧ ∀ i, i < j → r.I i 0 < a) (len := r.n) (fun j a hj ⟨h1, h2, h3⟩ => ?_) (Nat.zero_add _) ⟨Int.le_refl _, by omega, fun i hi => absurd hi (Nat.not_lt_zero _)⟩
  have hj' := h j hj
  unfold Rf.cnX
  rw [show IntKind.i64.wrap (r.I j 0 + 1) = r.I j 0 + 1 from wiN (by omega) (by omega)]
  split
  · refine ⟨by omega, by omega, fun i hi => ?_⟩
    by_cases e : i = j
    · subst e; omega
    · have := h3 i (by omega); omega
  · refine ⟨h1, h2, fun i hi => ?_⟩
    by_cases e : i = j
    · subst e; omega
    · exact h3 i (by omega)
theorem pyS_eq {b r o2 : Row} {j : Nat} (hb : Rf.W1 b = b) (hr : Rf.W1 r = r) (h : Rf.pyF r (j : Int) b.n 10000 (Row.nil.app (winOf b 0 b.n)) .nil = some o2) : Rf.payOk b r j = true ∧ pl (Rf.pyS b r j) = pk o2 o2.n := by
  unfold Rf.payOk Rf.pyS Rf.pyR
  rw [hr, hb]
  refine ⟨?_, ?_⟩
  · show (Rf.pyF r (j : Int) b.n 10000 (Row.nil.app (Rf.W1 b)) .nil).isSome = true
    rw [hb]
    have h' : Rf.pyF r (j : Int) b.n 10000 (Row.nil.app (Rf.W1 b)) .nil = some o2 := h
    rw [hb] at h'
    rw [h']
    rfl
  · rw [h]
    rfl
end Go.Proofs.YtpblmkephkhlkaaDoor.Eq7
/- The two settlements are the same: at most 7 balances, the end. No conditions. -/
namespace Go.Proofs.YtpblmkephkhlkaaDoor.Eq7
open Go.Ev Mk
set_option linter.all false
theorem out2 {b g r : Row} {rest : Nat} (hn : b.n ≤ 10) (hb : Rf.W1 b = b) (hr : Rf.W1 r = r) (hrg : ∀ p, p < b.n → r.I p 0 = g.I p 0) (h : GOk b g rest) : ∀ (c j k : Nat) (l o : Row) (xs : List Pt), j + c = b.n → Iv b g rest j k l o xs →
    ∃ k' l' o', Se.outG g b.n b.n c j k l o = some (k', l', o') ∧ pk o' k' = pk o k ++ cat (fun j => pl (Rf.pyS b r j)) c j ∧ ∀ j', j ≤ j' → j' < b.n → Rf.payOk b r j' = true
  | 0, j, k, l, o, xs, hj, hi => ⟨k, l, o, rfl, (List.append_nil _).symm, fun j' h1 h2 => by omega⟩
  | c + 1, j, k, l, o, xs, hj, hi => by
    obtain ⟨k1, l1, o1, ys, e1, e2⟩ := iv_step hn h hi
    have e1' := e1
    unfold Se.gsG at e1'
    split at e1'
    · obtain ⟨o2, X, r1, r2, r3⟩ := sim (lr := r) hn hrg 1000 10000 l (Row.nil.app (winOf b 0 b.n)) k o .nil k1 l1 o1 hi.bd (fun p hp hpg => by
        rw [hi.keep p hp (by omega)]
        rfl) e1' (by omega) (by show 0 + 1000 ≤ _; omega)
      obtain ⟨q1, q2⟩ := pyS_eq hb hr r1
      obtain ⟨k', l', o', s1, s2, s3⟩ := out2 hn hb hr hrg h c (j + 1) k1 l1 o1 ys (by omega) e2
      refine ⟨k', l', o', ?_, ?_, fun j' h1 h2 => ?_⟩
      · unfold Se.outG
        rw [e1]
        exact s1
      · rw [s2, r2]
        show _ = _ ++ (pl (Rf.pyS b r j) ++ cat _ c (j + 1))
        rw [q2, r3, List.append_assoc]
        rfl
      · by_cases he : j' = j
        · subst he; exact q1
        · exact s3 j' (by omega) h2
    · cases e1'
theorem pyS_nil {b r : Row} {j : Nat} (hb : Rf.W1 b = b) (hr : Rf.W1 r = r) (h : ∀ p, p < b.n → r.I p 0 ≠ (j : Int)) : pl (Rf.pyS b r j) = [] := by
  have hz : ∀ m (p : Int × Int), p.1 = -1 → m ≤ b.n → (fldN (Rf.pyN r (Row.nil.app (winOf b 0 b.n)) (j : Int) b.n) m (b.n - m) p).1 = -1 := by
    intro m
    induction m with
    | zero => intro p hp _; exact hp
    | succ m ih =>
      intro p hp hm
      show (fldN _ m (b.n - (m + 1) + 1) (Rf.pyN r _ (j : Int) b.n (b.n - (m + 1)) p)).1 = -1
      rw [show b.n - (m + 1) + 1 = b.n - m by omega]
      refine ih _ ?_ (by omega)
      unfold Rf.pyN
      show (if r.I (b.n - 1 - (b.n - (m + 1))) 0 = (j : Int) ∧ _ then _ else p.1) = -1
      rw [if_neg fun hc => h _ (by omega) hc.1]
      exact hp
  have hp := hz b.n (-1, -1) rfl (Nat.le_refl _)
  rw [Nat.sub_self] at hp
  have hF : Rf.pyF r (j : Int) b.n 10000 (Row.nil.app (winOf b 0 b.n)) .nil = some .nil := by
    unfold Rf.pyF
    rw [if_pos (show (Rf.pyP r (Row.nil.app (winOf b 0 b.n)) (j : Int) b.n).1 < 0 by
      have : (Rf.pyP r (Row.nil.app (winOf b 0 b.n)) (j : Int) b.n).1 = -1 := hp
      omega)]
  exact (pyS_eq hb hr hF).2
theorem same_settle {b : Row} (h : ckE b = 0) (hn7 : b.n ≤ 7) : Rf.rsC b = true ∧ pl (Rf.rsR b) = pl (Se.stR b) ∧ (Rf.rsR b).n = (Se.stR b).n ∧ (Rf.rgR b).n = b.n ∧ ∀ p, p < b.n → (Rf.rgR b).I p 0 = (gpR b).I p 0 := by
  obtain ⟨hf, hn1, _⟩ := ck_fit h
  obtain ⟨hc, rest, hg⟩ := groups_ok h
  obtain ⟨hlen, hlab⟩ := same_groups h hn7
  have hrn : (Rf.rgR b).n = b.n := by
    unfold Rf.rgR
    rw [if_pos h]
    exact hlen
  have hrg : ∀ p, p < b.n → (Rf.rgR b).I p 0 = (gpR b).I p 0 := fun p hp => by
    rw [← hlab p hp]
    unfold Rf.rgR
    rw [if_pos h]
    rfl
  have hb : Rf.W1 b = b := win_self (by omega)
  have hr : Rf.W1 (Rf.rgR b) = Rf.rgR b := win_self (by omega)
  have hle := hg.le
  have hpc : pc rest b.n ≤ b.n := cntB_bound
  have hcr := coR_spec (r := Rf.rgR b) (B := b.n) (by omega) (fun i hi => by
    rw [hrn] at hi
    rw [hrg i hi]
    rcases hg.rest hi with ⟨h1, h2, _⟩ | ⟨_, h2, _⟩
    · have := hg.hi i h1; omega
    · omega)
  obtain ⟨c1, c2, c3⟩ := hcr
  have h0 : Iv b (gpR b) rest 0 0 (Row.app (.zeros 0) b) .nil [] := {
    bd := hf.2
    zero := fun p hp hgp => by
      rcases hg.rest hp with ⟨_, h2, _⟩ | ⟨_, _, h3⟩
      · omega
      · exact h3
    keep := fun _ _ _ => rfl
    len := rfl
    pk := rfl
    ok := fun x hx => by cases hx
    sum := fun p _ => by show b.I p 0 = b.I p 0 + 0; omega
    cnt := by
      have : Rr (gpR b) 0 b.n = pc rest b.n := cntB_ext fun q hq => by
        rcases hg.rest hq with ⟨h1, h2, _⟩ | ⟨h1, h2, _⟩
        · rw [h1]; exact decide_eq_true (by omega)
        · rw [h1]; exact decide_eq_false (by omega)
      omega }
  obtain ⟨k', l', o', s1, s2, s3⟩ := out2 hf.1 hb hr hrg hg b.n 0 0 _ _ _ (by omega) h0
  have hst : Se.stO b = some (k', l', o') := by
    unfold Se.stO
    rw [hg.n]
    exact s1
  have hpl : pl (Se.stR b) = pk o' k' := by
    unfold Se.stR
    rw [if_neg (fun h' => h' h), hst]
    cases k' with
    | zero => rfl
    | succ k' => rfl
  have hXS : ∀ j, (Rf.coR (Rf.rgR b)).toNat ≤ j → pl (Rf.pyS b (Rf.rgR b) j) = [] := fun j hj => pyS_nil hb hr fun p hp he => by
    have := c3 p (by omega)
    omega
  have hrs : pl (Rf.rsR b) = pk o' k' := by
    have e1 : pl (Rf.rsR b) = pl (Rf.soR b) := by
      unfold Rf.rsR
      rw [if_neg (fun h' => h' h)]
      rfl
    rw [e1]
    unfold Rf.soR
    rw [hb, hr, pl_fld]
    have e2 := cat_cut hXS b.n 0 (Nat.zero_le _) (by omega)
    rw [Nat.sub_zero] at e2
    rw [← e2, s2]
    rfl
  refine ⟨?_, hrs.trans hpl.symm, ?_, hrn, hrg⟩
  · unfold Rf.rsC
    rw [show Rf.cS ⟨b.n, (Rf.rgR b).n, 0, 0, b, Rf.rgR b, .nil⟩ = true from Rf.cS_iff.2 ⟨⟨rfl, rfl, rfl, rfl, rfl, by show b.n ≤ 1000; omega, by show b.n ≤ (Rf.rgR b).n; omega, by show (Rf.rgR b).n ≤ 1000; omega, by show 0 ≤ Rf.coR (Rf.W1 (Rf.rgR b)); rw [hr]; exact c1, by show Rf.coR (Rf.W1 (Rf.rgR b)) ≤ 1000; rw [hr]; omega⟩, fun g hgl => by
      replace hgl : g < (Rf.coR (Rf.W1 (Rf.rgR b))).toNat := hgl
      rw [hr] at hgl
      exact s3 g (Nat.zero_le _) (by omega)⟩]
    simp
  · have := congrArg List.length (hrs.trans hpl.symm)
    unfold pl at this
    simpa using this
end Go.Proofs.YtpblmkephkhlkaaDoor.Eq7
/- The reference's SamePayments: its contract. No conditions. -/
namespace Go.Proofs.YtpblmkephkhlkaaDoor.Rf
open Go.Ev
set_option linter.all false
def pY : PSt := { τ := [.v (.sl 0), .v (.sl 1)] ++ pu 3 ++ [.v (.int .i64)] ++ pu 20, saved := [[]], mem := [.row [.int .i64, .int .i64, .int .i64] false, .row [.int .i64, .int .i64, .int .i64] false] }
structure AY where
  n : Nat
  m : Nat
  i : Int
  r : Row
  s : Row
def dY (its : List It) : Option AY := match its with | [.n n, .n m, .i i, .r r, .r s] => some ⟨n, m, i, r, s⟩ | _ => none
def cY (x : AY) : Bool := decide (x.i = 0 ∧ x.m = x.n ∧ x.n ≤ 1000000)
theorem cY_iff {x : AY} : cY x = true ↔ x.i = 0 ∧ x.m = x.n ∧ x.n ≤ 1000000 := by unfold cY; rw [decide_eq_true_eq]
def neP (r s : Row) (i : Nat) : Bool := !(r.I i 0 == s.I i 0 && (r.I i 1 == s.I i 1 && (r.I i 2 == s.I i 2 && true)))
def lYs : ScanL AY where
  f := 14
  id := 4
  lv := [0, 1, 5]
  lx := [4]
  p := pY
  dat := dY
  S := fun x i => [.n x.n, .n x.m, .i (i : Int), .r x.r, .r x.s]
  len := fun x => x.n
  cnd := cY
  bad := fun x => neP x.r x.s
  Kb := fun x _ K => K .ret ⟨us 4 ++ [.bool (false)] ++ us 21, [[]], []⟩
  Ke := fun x K => K (.exit 0) ⟨us 26, [[]], []⟩
noncomputable def CYs : Cx := mkCx Tryd.prog fns [] [lYs.C]
theorem rYs (R : St → Option (List D)) (K : X → St → Option (List D)) (q n m : Nat) (i : Int) (r s : Row) : bodyOf CYs 14 4 q (Go.Ev.bst pY [.n n, .n m, .i i, .r r, .r s]) (rnd [0, 1, 5] (some [4]) R K) =
    br (decide (i < (↑n : Int))) (br (decide (0 ≤ i) && decide (i < (↑n : Int))) (br (decide (0 ≤ i) && decide (i < (↑m : Int))) (br (!(r.I (0 + i.toNat) 0 == s.I (0 + i.toNat) 0 && (r.I (0 + i.toNat) 1 == s.I (0 + i.toNat) 1 && (r.I (0 + i.toNat) 2 == s.I (0 + i.toNat) 2 && true)))) (K .ret ⟨us 4 ++ [.bool (false)] ++ us 21, [[]], []⟩) (R ⟨[.slice (some ⟨0, 0, some 0⟩) (n) (0), .slice (some ⟨1, 0, some 0⟩) (m) (0)] ++ us 3 ++ [i64 (IntKind.i64.wrap (i + 1))] ++ us 20, [[]], [some (.row [.int .i64, .int .i64, .int .i64] false (r)), some (.row [.int .i64, .int .i64, .int .i64] false (s))]⟩)) (none)) (none)) (K (.exit 0) ⟨us 26, [[]], []⟩) := by kernel_rfl
theorem uYs (r s : Row) : evF CYs 6 14 [.slice ks3 r, .slice ks3 s] = br ((r.n : Int) != (s.n : Int)) (some [.v (.bool false)]) (br (cY ⟨r.n, s.n, 0, r, s⟩) (br (anyF (neP r s) r.n 0) (some [.v (.bool false)]) (some [.v (.bool true)])) none) := by kernel_rfl
set_option maxRecDepth 100000 in
theorem okYs : LoopOk CYs lYs.C := lYs.ok (by kernel_rfl)
  (fun its x h hc => by
    replace h : dY its = some x := h
    unfold dY at h
    split at h
    · cases h
      obtain ⟨h1, h2, h3⟩ := cY_iff.1 hc
      dsimp only at h1
      subst h1
      rfl
    · cases h)
  (fun x hc => by have := (cY_iff.1 hc).2.2; show x.n < 18446744073709551616; omega)
  (fun q ⟨n, m, i0, r, s⟩ i hc hi R K => by
    obtain ⟨h1, h2, h3⟩ := cY_iff.1 hc
    dsimp only at h1 h2 h3
    replace hi : i < n := hi
    subst h2
    refine (rYs R K q m m i r s).trans ?_
    rw [Int.toNat_natCast, Nat.zero_add i, gd i m hi, ltd i m hi, wsn (j := i) (by omega)]
    rfl)
  (fun q ⟨n, m, i0, r, s⟩ hc R K => by
    refine (rYs R K q n m (n : Int) r s).trans ?_
    rw [ltn n]
    rfl)
theorem CYs_ok : CxOk CYs := mkCx_ok enter mixed (fun p h => by cases h) (fun l h => by
  simp only [List.mem_cons, List.not_mem_nil, or_false] at h
  subst h
  exact okYs)
def sameP (r s : Row) : Bool := bif (r.n : Int) != (s.n : Int) then false else !anyF (neP r s) r.n 0
def FsP : List D → Option (Bool × List D)
  | [.slice [.int .i64, .int .i64, .int .i64] r, .slice [.int .i64, .int .i64, .int .i64] s] => some (decide (r.n ≤ 1000000), [.v (.bool (sameP r s))])
  | _ => none
theorem den_sameP : Den Tryd.prog 14 FsP := evF_den CYs_ok fun ds rs h => by
  unfold FsP at h
  split at h
  · rename_i r s
    simp only [Option.some.injEq, Prod.mk.injEq] at h
    obtain ⟨h0, rfl⟩ := h
    refine (uYs r s).trans ?_
    unfold sameP
    cases hn : ((r.n : Int) != (s.n : Int))
    · rw [cY_iff.2 ⟨rfl, by have := bne_eq_false_iff_eq.1 hn; show s.n = r.n; omega, of_decide_eq_true h0⟩]
      cases anyF (neP r s) r.n 0 <;> rfl
    · rfl
  · cases h
theorem sameP_iff {r s : Row} : pl r = pl s → r.n = s.n → sameP r s = true := fun h hn => by
  have h0 : anyF (neP r s) r.n 0 = false := anyF_false.2 fun i _ hi => by
    have h1 : ((List.range r.n).map (ptAt r))[i]? = ((List.range s.n).map (ptAt s))[i]? := congrArg (fun l => l[i]?) h
    rw [List.getElem?_map, List.getElem?_map, List.getElem?_range (by omega), List.getElem?_range (by omega)] at h1
    simp only [Option.map_some, Option.some.injEq, ptAt, Prod.mk.injEq] at h1
    obtain ⟨a, b, c⟩ := h1
    unfold neP
    rw [a, b, c]
    simp
  unfold sameP
  rw [h0, hn]
  simp
end Go.Proofs.YtpblmkephkhlkaaDoor.Rf
namespace Go.Proofs.YtpblmkephkhlkaaDoor.Eq7
open Go.Ev Mk
set_option linter.all false
def Fgv (gc : Row → Bool) (gr : Row → Row) : List D → Option (Bool × List D)
  | [.slice [.int .i64] b] => some (gc b, [.slice ks1 (gr b), .v (i64 (ckE b))])
  | _ => none
def Fsv (gc : Row → Bool) (gr : Row → Row) : List D → Option (Bool × List D)
  | [.slice [.int .i64] b] => some (gc b, [.slice Lg.ks3 (gr b), .v (i64 (ckE b))])
  | _ => none
def Fsm (gc : Row → Row → Bool) (gr : Row → Row → Bool) : List D → Option (Bool × List D)
  | [.slice [.int .i64] b, .slice [.int .i64] c] => some (gc b c, [.v (.bool (gr b c))])
  | _ => none
def Fsp (gc : Row → Row → Bool) (gr : Row → Row → Bool) : List D → Option (Bool × List D)
  | [.slice [.int .i64, .int .i64, .int .i64] b, .slice [.int .i64, .int .i64, .int .i64] c] => some (gc b c, [.v (.bool (gr b c))])
  | _ => none
noncomputable def CL (gc hc sc rc : Row → Bool) (gr hr sr rr : Row → Row) (mc mr pc pr : Row → Row → Bool) : Cx := mkCx Tryd.prog fns [(9, Fgv gc gr), (10, Fgv hc hr), (11, Fsv sc sr), (12, Fsv rc rr), (13, Fsm mc mr), (14, Fsp pc pr)] []
theorem uL (gc hc sc rc : Row → Bool) (gr hr sr rr : Row → Row) (mc mr pc pr : Row → Row → Bool) (b : Row) : evF (CL gc hc sc rc gr hr sr rr mc mr pc pr) 6 3 [.slice ks1 b] =
    br (decide ((↑b.n : Int) > 7)) (br (decide ((↑b.n : Int) ≤ 10)) (some [.v (.bool (true))]) (br (decide ((↑b.n : Int) > 20)) (some [.v (.bool (true))]) (br (decide (0 + (winOf b 0 b.n).n ≤ 10000000000)) (br (gc (winOf b 0 b.n)) (br (hc (winOf (Row.nil.app (winOf b 0 b.n)) 0 (0 + (winOf b 0 b.n).n))) (br (sc (winOf b 0 b.n)) (br (rc (winOf (Row.nil.app (winOf b 0 b.n)) 0 (0 + (winOf b 0 b.n).n))) (br (mc (winOf (gr (winOf b 0 b.n)) 0 (gr (winOf b 0 b.n)).n) (winOf (hr (winOf (Row.nil.app (winOf b 0 b.n)) 0 (0 + (winOf b 0 b.n).n))) 0 (hr (winOf (Row.nil.app (winOf b 0 b.n)) 0 (0 + (winOf b 0 b.n).n))).n)) (br (mr (winOf (gr (winOf b 0 b.n)) 0 (gr (winOf b 0 b.n)).n) (winOf (hr (winOf (Row.nil.app (winOf b 0 b.n)) 0 (0 + (winOf b 0 b.n).n))) 0 (hr (winOf (Row.nil.app (winOf b 0 b.n)) 0 (0 + (winOf b 0 b.n).n))).n)) (br (ckE (winOf b 0 b.n) == ckE (winOf (Row.nil.app (winOf b 0 b.n)) 0 (0 + (winOf b 0 b.n).n))) (br (pc (winOf (sr (winOf b 0 b.n)) 0 (sr (winOf b 0 b.n)).n) (winOf (rr (winOf (Row.nil.app (winOf b 0 b.n)) 0 (0 + (winOf b 0 b.n).n))) 0 (rr (winOf (Row.nil.app (winOf b 0 b.n)) 0 (0 + (winOf b 0 b.n).n))).n)) (br (pr (winOf (sr (winOf b 0 b.n)) 0 (sr (winOf b 0 b.n)).n) (winOf (rr (winOf (Row.nil.app (winOf b 0 b.n)) 0 (0 + (winOf b 0 b.n).n))) 0 (rr (winOf (Row.nil.app (winOf b 0 b.n)) 0 (0 + (winOf b 0 b.n).n))).n)) (br (ckE (winOf b 0 b.n) == ckE (winOf (Row.nil.app (winOf b 0 b.n)) 0 (0 + (winOf b 0 b.n).n))) (br (mc (winOf b 0 b.n) (winOf (Row.nil.app (winOf b 0 b.n)) 0 (0 + (winOf b 0 b.n).n))) (some [.v (.bool (mr (winOf b 0 b.n) (winOf (Row.nil.app (winOf b 0 b.n)) 0 (0 + (winOf b 0 b.n).n))))]) (none)) (some [.v (.bool (false))])) (some [.v (.bool (false))])) (none)) (some [.v (.bool (false))])) (some [.v (.bool (false))])) (none)) (none)) (none)) (none)) (none)) (none)))) (br (decide ((↑b.n : Int) > 20)) (some [.v (.bool (true))]) (br (decide (0 + (winOf b 0 b.n).n ≤ 10000000000)) (br (gc (winOf b 0 b.n)) (br (hc (winOf (Row.nil.app (winOf b 0 b.n)) 0 (0 + (winOf b 0 b.n).n))) (br (sc (winOf b 0 b.n)) (br (rc (winOf (Row.nil.app (winOf b 0 b.n)) 0 (0 + (winOf b 0 b.n).n))) (br (mc (winOf (gr (winOf b 0 b.n)) 0 (gr (winOf b 0 b.n)).n) (winOf (hr (winOf (Row.nil.app (winOf b 0 b.n)) 0 (0 + (winOf b 0 b.n).n))) 0 (hr (winOf (Row.nil.app (winOf b 0 b.n)) 0 (0 + (winOf b 0 b.n).n))).n)) (br (mr (winOf (gr (winOf b 0 b.n)) 0 (gr (winOf b 0 b.n)).n) (winOf (hr (winOf (Row.nil.app (winOf b 0 b.n)) 0 (0 + (winOf b 0 b.n).n))) 0 (hr (winOf (Row.nil.app (winOf b 0 b.n)) 0 (0 + (winOf b 0 b.n).n))).n)) (br (ckE (winOf b 0 b.n) == ckE (winOf (Row.nil.app (winOf b 0 b.n)) 0 (0 + (winOf b 0 b.n).n))) (br (pc (winOf (sr (winOf b 0 b.n)) 0 (sr (winOf b 0 b.n)).n) (winOf (rr (winOf (Row.nil.app (winOf b 0 b.n)) 0 (0 + (winOf b 0 b.n).n))) 0 (rr (winOf (Row.nil.app (winOf b 0 b.n)) 0 (0 + (winOf b 0 b.n).n))).n)) (br (pr (winOf (sr (winOf b 0 b.n)) 0 (sr (winOf b 0 b.n)).n) (winOf (rr (winOf (Row.nil.app (winOf b 0 b.n)) 0 (0 + (winOf b 0 b.n).n))) 0 (rr (winOf (Row.nil.app (winOf b 0 b.n)) 0 (0 + (winOf b 0 b.n).n))).n)) (br (ckE (winOf b 0 b.n) == ckE (winOf (Row.nil.app (winOf b 0 b.n)) 0 (0 + (winOf b 0 b.n).n))) (br (mc (winOf b 0 b.n) (winOf (Row.nil.app (winOf b 0 b.n)) 0 (0 + (winOf b 0 b.n).n))) (some [.v (.bool (mr (winOf b 0 b.n) (winOf (Row.nil.app (winOf b 0 b.n)) 0 (0 + (winOf b 0 b.n).n))))]) (none)) (some [.v (.bool (false))])) (some [.v (.bool (false))])) (none)) (some [.v (.bool (false))])) (some [.v (.bool (false))])) (none)) (none)) (none)) (none)) (none)) (none))) := by kernel_rfl
def hT (_ : Row) : Bool := true
def mB (r _ : Row) : Bool := decide (r.n ≤ Lg.big)
def pB (r _ : Row) : Bool := decide (r.n ≤ 1000000)

theorem CLr_ok : CxW (CL gpC hT Se.stC Rf.rsC gpR Rf.rgR Se.stR Rf.rsR mB Lg.same pB Rf.sameP) Wt := mkCx_okW enter mixed (fun p h => by
  simp only [List.mem_cons, List.not_mem_nil, or_false] at h
  rcases h with rfl | rfl | rfl | rfl | rfl | rfl
  · exact den_groups
  · exact Rf.den_rGroups.at _
  · exact Se.den_settle
  · exact Rf.den_rSettle.at _
  · exact Lg.den9.at _
  · exact Rf.den_sameP.at _) (fun l h => by cases h)
theorem cp_eq (b : Row) : winOf (Row.nil.app (winOf b 0 b.n)) 0 (0 + (winOf b 0 b.n).n) = winOf b 0 b.n := by
  rw [show (winOf b 0 b.n).n = b.n from rfl, Nat.zero_add]
  rfl
theorem same_iff {r s : Row} (hn : r.n = s.n) (h : ∀ i, i < r.n → r.I i 0 = s.I i 0) : Lg.same r s = true := by
  have h0 : anyF (Lg.neI r s) r.n 0 = false := anyF_false.2 fun i _ hi => by
    show (r.I i 0 != s.I i 0) = false
    rw [h i (by omega)]
    simp
  unfold Lg.same
  rw [h0, hn]
  simp
theorem mN_low {w : Row} (h : ckE w = 0) (t : Nat) (ht : t < 2 ^ w.n) : -1 ≤ mN w t := (most_good (ck_fit h).1 ht).bound.1
structure Alike (w : Row) : Prop where
  g : gpC w = true
  s : Se.stC w = true
  r : Rf.rsC w = true
  mc : mB (winOf (gpR w) 0 (gpR w).n) (winOf (Rf.rgR w) 0 (Rf.rgR w).n) = true
  mr : Lg.same (winOf (gpR w) 0 (gpR w).n) (winOf (Rf.rgR w) 0 (Rf.rgR w).n) = true
  pc : pB (winOf (Se.stR w) 0 (Se.stR w).n) (winOf (Rf.rsR w) 0 (Rf.rsR w).n) = true
  pr : Rf.sameP (winOf (Se.stR w) 0 (Se.stR w).n) (winOf (Rf.rsR w) 0 (Rf.rsR w).n) = true
theorem alike {w : Row} (hn : w.n ≤ 7 ∨ 10 < w.n) : Alike w := by
  by_cases hk : ckE w = 0
  · have h10 := (ck_fit hk).1.1
    obtain ⟨r1, r2, r3, r4, r5⟩ := same_settle hk (by omega)
    obtain ⟨hc, rest, hg⟩ := groups_ok hk
    obtain ⟨s1, rest2, s2, _, _, s5, s6⟩ := settle_ok hk
    have hpc : pc rest2 w.n ≤ w.n := cntB_bound
    refine ⟨hc, s1, r1, ?_, ?_, ?_, ?_⟩
    · exact decide_eq_true (by show (gpR w).n ≤ 9223372036854775807; rw [hg.n]; omega)
    · exact same_iff (by show (gpR w).n = (Rf.rgR w).n; rw [hg.n, r4]) fun i hi => by
        replace hi : i < (gpR w).n := hi
        rw [hg.n] at hi
        exact (r5 i hi).symm
    · refine decide_eq_true ?_
      show (Se.stR w).n ≤ 1000000
      have := mN_low hk rest2 (Fw.Nz.sum hk s2).1
      omega
    · exact Rf.sameP_iff r2.symm r3.symm
  · have e1 : gpR w = .nil := by unfold gpR; rw [if_pos hk]
    have e2 : Rf.rgR w = .nil := by unfold Rf.rgR; rw [if_neg hk]
    have e3 : Se.stR w = .nil := by unfold Se.stR; rw [if_pos hk]
    have e4 : Rf.rsR w = .nil := by unfold Rf.rsR; rw [if_pos hk]
    have e5 : (ckE w != 0) = true := by simpa using hk
    have e6 : gpC w = true := by unfold gpC; rw [e5]; rfl
    refine ⟨e6, ?_, ?_, ?_, ?_, ?_, ?_⟩
    · unfold Se.stC; rw [e6, e5]; rfl
    · unfold Rf.rsC; rw [e5]; rfl
    · rw [e1]; rfl
    · rw [e1, e2]; rfl
    · rw [e3]; rfl
    · rw [e3, e4]; rfl
theorem law_settles (b : Row) : evF (CL gpC hT Se.stC Rf.rsC gpR Rf.rgR Se.stR Rf.rsR mB Lg.same pB Rf.sameP) 6 3 [.slice ks1 b] = some [.v (.bool true)] := by
  refine (uL gpC hT Se.stC Rf.rsC gpR Rf.rgR Se.stR Rf.rsR mB Lg.same pB Rf.sameP b).trans ?_
  rw [cp_eq]
  have hn : b.n = (winOf b 0 b.n).n := rfl
  generalize winOf b 0 b.n = w at *
  rw [hn]
  by_cases h20 : (w.n : Int) > 20
  · rw [decide_eq_true h20]
    by_cases h7 : (w.n : Int) > 7
    · rw [decide_eq_true h7, decide_eq_false (show ¬ (w.n : Int) ≤ 10 by omega)]
      rfl
    · omega
  · have hm : mB w w = true := decide_eq_true (by show w.n ≤ 9223372036854775807; omega)
    have hh : hT w = true := rfl
    have hnn : decide (0 + w.n ≤ 10000000000) = true := decide_eq_true (by omega)
    rw [decide_eq_false h20]
    by_cases h7 : (w.n : Int) > 7
    · rw [decide_eq_true h7]
      by_cases h10 : (w.n : Int) ≤ 10
      · rw [decide_eq_true h10]
        rfl
      · have A := alike (w := w) (.inr (by omega))
        rw [decide_eq_false h10, br_true, br_false, br_false, hnn, br_true, A.g, br_true, hh, br_true, A.s, br_true, A.r, br_true, A.mc, br_true, A.mr, br_true, beq_self_eq_true, br_true, A.pc, br_true, A.pr, br_true, br_true, hm, br_true, Lg.same_self]
    · have A := alike (w := w) (.inl (by omega))
      rw [decide_eq_false h7, br_false, br_false, hnn, br_true, A.g, br_true, hh, br_true, A.s, br_true, A.r, br_true, A.mc, br_true, A.mr, br_true, beq_self_eq_true, br_true, A.pc, br_true, A.pr, br_true, br_true, hm, br_true, Lg.same_self]
end Go.Proofs.YtpblmkephkhlkaaDoor.Eq7

/- ScriptRenames: the law. No conditions. -/
import Derived.Test.YtopdfmhlgkbaaaaDoorT35
import Derived.Test.YtopdfmhlgkbaaaaDoorME
namespace Go.Proofs.YtopdfmhlgkbaaaaDoor
open Go.Ev Go.RowKit Go.Lib Go.Dec
set_option linter.all false
theorem fstF_congr {p q : Nat → Bool} : ∀ (m j : Nat), (∀ i, j ≤ i → i < j + m → p i = q i) → fstF p m j = fstF q m j
  | 0, _, _ => rfl
  | m + 1, j, h => by
    unfold fstF
    rw [h j (Nat.le_refl _) (by omega), fstF_congr m (j + 1) fun i h1 h2 => h i (by omega) (by omega)]
theorem sub_eq (s t : ByteArray) : subS s t s = t := by unfold subS; rw [eqS_iff.2 rfl]; rfl
theorem eqS_false {a b : ByteArray} (h : a ≠ b) : eqS a b = false := by
  cases he : eqS a b
  · rfl
  · exact absurd (eqS_iff.1 he) h
theorem sub_ne {s t x : ByteArray} (h : x ≠ s) : subS s t x = x := by unfold subS; rw [eqS_false h]; rfl
/-- A name that may be renamed without being mixed up. -/
def Pn7 (s t y : ByteArray) : Prop := s = t ∨ y ≠ t
theorem sub_inj {s t y z : ByteArray} (hy : Pn7 s t y) (hz : Pn7 s t z) : eqS (subS s t y) (subS s t z) = eqS y z := by
  by_cases h1 : y = s
  · by_cases h2 : z = s
    · rw [h1, h2, eqS_iff.2 rfl, eqS_iff.2 rfl]
    · rw [h1, sub_eq, sub_ne h2, eqS_false (Ne.symm h2)]
      rcases hz with h | h
      · rw [← h]; exact eqS_false (Ne.symm h2)
      · exact eqS_false (Ne.symm h)
  · by_cases h2 : z = s
    · rw [h2, sub_eq, sub_ne h1, eqS_false h1]
      rcases hy with h | h
      · rw [← h]; exact eqS_false h1
      · exact eqS_false h
    · rw [sub_ne h1, sub_ne h2]
theorem sub_back {s t y : ByteArray} (hy : Pn7 s t y) : subS t s (subS s t y) = y := by
  by_cases h1 : y = s
  · rw [h1, sub_eq, sub_eq]
  · rw [sub_ne h1]
    rcases hy with h | h
    · rw [← h]; exact sub_ne h1
    · exact sub_ne h
/-- What reE = 0 says. -/
theorem re_zero {l : Row} {s t : ByteArray} (h : reE l s t = 0) : naE l = 0 ∧ hasN (naO l) s = true ∧ nmB t = true ∧ (s = t ∨ hasN (naO l) t = false) := by
  unfold reE at h
  cases h1 : (naE l != 0)
  · have h1' : naE l = 0 := by simpa using h1
    rw [h1] at h
    cases h2 : hasN (naO l) s
    · rw [h2] at h; cases h
    · cases h3 : nmB t
      · rw [h2, h3] at h; cases h
      · refine ⟨h1', rfl, rfl, ?_⟩
        cases h4 : hasN (naO l) t
        · exact .inr rfl
        · cases h5 : eqS s t
          · rw [h2, h3, h4, h5] at h; cases h
          · exact .inl (eqS_iff.1 h5)
  · rw [h1] at h
    have h : naE l = 0 := h
    rw [h] at h1
    cases h1
theorem hasN_iff {k : Row} {x : ByteArray} : hasN k x = true ↔ ∃ e, e < k.n ∧ k.S e 0 = x := by
  unfold hasN
  constructor
  · intro h
    obtain ⟨h1, h2, _⟩ := fstF_any (eqN k x) k.n 0 h
    exact ⟨_, by omega, eqS_iff.1 h2⟩
  · rintro ⟨e, he, hx⟩
    cases h : anyF (eqN k x) k.n 0
    · rw [anyF_false] at h
      have := h e (Nat.zero_le _) (by omega)
      unfold eqN at this
      rw [eqS_iff.2 hx] at this
      cases this
    · rfl
/-- Each name of a line is known in the end, and each that is known is a name. -/
theorem kn_names {l : Row} (h : naE l = 0) : (∀ i, i < l.n → ∀ x, x < (l.R i 1).n → hasN (naO l) ((l.R i 1).S x 0) = true) ∧ ∀ j, j ≤ l.n → ∀ e, e < (knS l j).n → nmB ((knS l j).S e 0) = true := by
  obtain ⟨_, h2, h3, hv⟩ := na_run h
  have hN : ∀ i, i < l.n → ∀ x, x < (l.R i 1).n → nmB ((l.R i 1).S x 0) = true := fun i hi x hx => (va_okln (hv i hi)).pn x hx
  constructor
  · intro i hi x hx
    obtain ⟨m1, m2⟩ := knS_mono l (l.n - (i + 1)) (i + 1)
    rw [show i + 1 + (l.n - (i + 1)) = l.n by omega] at m1 m2
    have key : ∃ e, e < (knS l (i + 1)).n ∧ (knS l (i + 1)).S e 0 = (l.R i 1).S x 0 := by
      cases hw : newB (l.I i 0)
      · have hst := h2 i hi
        unfold stK at hst
        rw [hv i hi, hw] at hst
        have hst : anyF (badK l (knS l i) i) (l.R i 1).n 0 = false := hst
        rw [anyF_false] at hst
        have hb := hst x (Nat.zero_le _) (by omega)
        unfold badK misB at hb
        rw [Bool.or_eq_false_iff, decide_eq_false_iff_not] at hb
        rcases fd_char (knS l i) ((l.R i 1).S x 0) with ⟨e, e1, e2, _⟩ | ⟨_, e2, _⟩
        · obtain ⟨n1, n2⟩ := knS_next l i
          exact ⟨e, by omega, (n2 e e1).1.trans e2⟩
        · rw [e2] at hb; omega
      · obtain ⟨_, hn1⟩ := va_word (hv i hi)
        have hx0 : x = 0 := by rw [hn1 hw] at hx; omega
        subst hx0
        have hs : knS l (i + 1) = pushN (knS l i) ((l.R i 1).S 0 0) (l.I i 0) := by
          rw [knS_succ]; unfold nxK; rw [hw]; rfl
        rw [hs]
        exact ⟨(knS l i).n, Nat.lt_succ_self _, pn_Sn _ _ _⟩
    obtain ⟨e, e1, e2⟩ := key
    rw [h3]
    exact hasN_iff.2 ⟨e, by show e < (knS l l.n).n; omega, (m2 e e1).1.trans e2⟩
  · intro j
    induction j with
    | zero => intro _ e he; exact absurd he (Nat.not_lt_zero e)
    | succ j ih =>
      intro hj e he
      rw [knS_succ] at he ⊢
      unfold nxK at he ⊢
      cases hw : newB (l.I j 0)
      · rw [hw] at he
        exact ih (by omega) e he
      · rw [hw] at he
        have he : e < (knS l j).n + 1 := he
        show nmB ((pushN (knS l j) ((l.R j 1).S 0 0) (l.I j 0)).S e 0) = true
        obtain ⟨_, hn1⟩ := va_word (hv j (by omega))
        by_cases hen : e < (knS l j).n
        · rw [pn_S _ _ _ hen]; exact ih (by omega) e hen
        · have : e = (knS l j).n := by omega
          subst this
          rw [pn_Sn]
          exact hN j (by omega) 0 (by rw [hn1 hw]; omega)
/-- The lines that are renamed are a scenario. -/
structure Ren7 (s t : ByteArray) (l r : Row) (j : Nat) : Prop where
  n : (knS r j).n = (knS l j).n
  S : ∀ e, e < (knS l j).n → (knS r j).S e 0 = subS s t ((knS l j).S e 0)
  I : ∀ e, e < (knS l j).n → (knS r j).I e 1 = (knS l j).I e 1
theorem Ren7.fd {s t : ByteArray} {l r : Row} {j : Nat} (h : Ren7 s t l r j) {y : ByteArray} (hy : Pn7 s t y) (hk : ∀ e, e < (knS l j).n → Pn7 s t ((knS l j).S e 0)) : fdI (knS r j) (subS s t y) = fdI (knS l j) y := by
  have e : ∀ e, e < (knS l j).n → eqN (knS r j) (subS s t y) e = eqN (knS l j) y e := fun e he => by
    unfold eqN
    rw [h.S e he]
    exact sub_inj (hk e he) hy
  unfold fdI
  rw [h.n, anyF_congr (p := eqN (knS r j) (subS s t y)) (q := eqN (knS l j) y) (fun i _ hi => e i (by omega)), fstF_congr (p := eqN (knS r j) (subS s t y)) (q := eqN (knS l j) y) _ _ (fun i _ hi => e i (by omega))]
theorem ren_ok {l r : Row} {s t : ByteArray} (h : reE l s t = 0) (hr : rnL s t l r) : (∀ i, i < l.n → vaL r i = true) ∧ (∀ j, j ≤ l.n → Ren7 s t l r j) ∧ (∀ j, j < l.n → stK r j (knS r j) = false) := by
  obtain ⟨z1, z2, z3, z4⟩ := re_zero h
  obtain ⟨_, h2, h3, hv⟩ := na_run z1
  obtain ⟨k1, k2⟩ := kn_names z1
  have hP : ∀ y, hasN (naO l) y = true → Pn7 s t y := fun y hy => by
    rcases z4 with h | h
    · exact .inl h
    · refine .inr fun he => ?_
      rw [he] at hy
      rw [hy] at h
      cases h
  have hPl : ∀ i, i < l.n → ∀ x, x < (l.R i 1).n → Pn7 s t ((l.R i 1).S x 0) := fun i hi x hx => hP _ (k1 i hi x hx)
  have hPk : ∀ j, j ≤ l.n → ∀ e, e < (knS l j).n → Pn7 s t ((knS l j).S e 0) := fun j hj e he => by
    obtain ⟨m1, m2⟩ := knS_mono l (l.n - j) j
    rw [show j + (l.n - j) = l.n by omega] at m1 m2
    refine hP _ ?_
    rw [h3]
    exact hasN_iff.2 ⟨e, by show e < (knS l l.n).n; omega, (m2 e he).1⟩
  have hva : ∀ i, i < l.n → vaL r i = true := fun i hi => by
    obtain ⟨r1, ⟨r2, r3⟩, r4, r5⟩ := hr.2 i hi
    have hvl : vaB (l.I i 0) (l.R i 1) (l.R i 2) = true := hv i hi
    unfold vaL
    rw [r1, ← hvl]
    unfold vaB
    rw [r2, r4]
    have e1 : anyF (badN (r.R i 1)) (l.R i 1).n 0 = anyF (badN (l.R i 1)) (l.R i 1).n 0 := anyF_congr fun x _ hx => by
      unfold badN
      have hn := (va_okln hvl).pn x (by omega)
      rw [r3 x (by omega), hn]
      by_cases hx' : (l.R i 1).S x 0 = s
      · rw [hx', sub_eq, z3]
      · rw [sub_ne hx', hn]
    have e2 : anyF (badU (r.R i 2)) (l.R i 2).n 0 = anyF (badU (l.R i 2)) (l.R i 2).n 0 := anyF_congr fun x _ hx => by
      unfold badU
      rw [r5 x (by omega)]
    have tw : ∀ (a b : Row) (k : Nat), (∀ x, x < k → a.S x 0 = subS s t (b.S x 0) ∧ Pn7 s t (b.S x 0)) → anyF (twi a) k 0 = anyF (twi b) k 0 := fun a b k hab => anyF_congr fun x _ hx => by
      unfold twi
      refine anyF_congr fun y _ hy => ?_
      rw [(hab x (by omega)).1, (hab y (by omega)).1]
      exact sub_inj (hab y (by omega)).2 (hab x (by omega)).2
    have e3 : twB (difR (l.I i 0) (r.R i 1)) = twB (difR (l.I i 0) (l.R i 1)) := by
      unfold difR
      rw [r2]
      cases l.I i 0 == 4
      · exact tw _ _ (l.R i 1).n fun x hx => ⟨r3 x hx, hPl i hi x hx⟩
      · exact tw _ _ ((l.R i 1).n - 1) fun x hx => ⟨r3 (1 + x) (by omega), hPl i hi (1 + x) (by omega)⟩
    rw [e1, e2, e3]
  have hR : ∀ j, j ≤ l.n → Ren7 s t l r j := by
    intro j
    induction j with
    | zero => intro _; exact ⟨rfl, fun e he => absurd he (Nat.not_lt_zero e), fun e he => absurd he (Nat.not_lt_zero e)⟩
    | succ j ih =>
      intro hj
      have g := ih (by omega)
      obtain ⟨r1, ⟨r2, r3⟩, _⟩ := hr.2 j (by omega)
      obtain ⟨_, hn1⟩ := va_word (hv j (by omega))
      cases hw : newB (l.I j 0)
      · have a1 : knS r (j + 1) = knS r j := by rw [knS_succ]; unfold nxK; rw [r1, hw]; rfl
        have a2 : knS l (j + 1) = knS l j := by rw [knS_succ]; unfold nxK; rw [hw]; rfl
        exact ⟨by rw [a1, a2]; exact g.n, fun e he => by rw [a2] at he ⊢; rw [a1]; exact g.S e he, fun e he => by rw [a2] at he ⊢; rw [a1]; exact g.I e he⟩
      · have a1 : knS r (j + 1) = pushN (knS r j) ((r.R j 1).S 0 0) (l.I j 0) := by rw [knS_succ]; unfold nxK; rw [r1, hw]; rfl
        have a2 : knS l (j + 1) = pushN (knS l j) ((l.R j 1).S 0 0) (l.I j 0) := by rw [knS_succ]; unfold nxK; rw [hw]; rfl
        have b1 := r3 0 (by rw [hn1 hw]; omega)
        rw [b1] at a1
        refine ⟨by rw [a1, a2, pn_n, pn_n, g.n], fun e he => ?_, fun e he => ?_⟩
        · rw [a2, pn_n] at he
          rw [a1, a2]
          by_cases hen : e < (knS l j).n
          · rw [pn_S _ _ _ hen, pn_S _ _ _ (by rw [g.n]; exact hen)]
            exact g.S e hen
          · have : e = (knS l j).n := by omega
            subst this
            rw [pn_Sn]
            have := pn_Sn (knS r j) (subS s t ((l.R j 1).S 0 0)) (l.I j 0)
            rw [g.n] at this
            exact this
        · rw [a2, pn_n] at he
          rw [a1, a2]
          by_cases hen : e < (knS l j).n
          · rw [pn_I _ _ _ hen, pn_I _ _ _ (by rw [g.n]; exact hen)]
            exact g.I e hen
          · have : e = (knS l j).n := by omega
            subst this
            rw [pn_In]
            have := pn_In (knS r j) (subS s t ((l.R j 1).S 0 0)) (l.I j 0)
            rw [g.n] at this
            exact this
  refine ⟨hva, hR, fun j hj => ?_⟩
  have g := hR j (by omega)
  obtain ⟨r1, ⟨r2, r3⟩, _⟩ := hr.2 j hj
  obtain ⟨_, hn1⟩ := va_word (hv j hj)
  have hst := h2 j hj
  unfold stK at hst ⊢
  rw [hva j hj, r1]
  rw [hv j hj] at hst
  cases hw : newB (l.I j 0)
  · rw [hw] at hst
    have hst : anyF (badK l (knS l j) j) (l.R j 1).n 0 = false := hst
    show anyF (badK r (knS r j) j) (r.R j 1).n 0 = false
    rw [r2, ← hst]
    refine anyF_congr fun x _ hx => ?_
    have hfd := g.fd (hPl j hj x (by omega)) (hPk j (by omega))
    unfold badK misB
    rw [r1, r3 x (by omega), hfd]
    rcases fd_char (knS l j) ((l.R j 1).S x 0) with ⟨e, e1, _, _, e4, _⟩ | ⟨_, e2, _⟩
    · rw [e4, Int.toNat_natCast, g.I e e1]
    · rw [e2]; rfl
  · rw [hw] at hst
    have hst : (!decide (fdI (knS l j) ((l.R j 1).S 0 0) < 0)) = false := hst
    show (!decide (fdI (knS r j) ((r.R j 1).S 0 0) < 0)) = false
    rw [r3 0 (by rw [hn1 hw]; omega), g.fd (hPl j hj 0 (by rw [hn1 hw]; omega)) (hPk j (by omega))]
    exact hst
/-- Renaming there and back. -/
theorem ren_back {l r : Row} {s t : ByteArray} (h : reE l s t = 0) (hr : rnL s t l r) : naE r = 0 ∧ reE r t s = 0 ∧ saL (rsR r t s) l := by
  obtain ⟨z1, z2, z3, z4⟩ := re_zero h
  obtain ⟨hn, h2, h3, hv⟩ := na_run z1
  obtain ⟨k1, k2⟩ := kn_names z1
  obtain ⟨a1, a2, a3⟩ := ren_ok h hr
  have hrn : r.n = l.n := hr.1
  have hk : knR r = (false, 0 + l.n, knS r l.n) := by
    have : knR r = runS (stK r) (nxK r) l.n 0 Row.nil := by unfold knR; rw [hrn]
    rw [this]
    exact runS_in l.n 0 Row.nil fun i hi => by rw [Nat.zero_add]; exact a3 i hi
  have hna : naE r = 0 ∧ naO r = winOf (knS r l.n) 0 (knS r l.n).n := by
    unfold naE naO knE knO
    rw [hk, hrn, decide_eq_false (show ¬ l.n > 200 by omega)]
    exact ⟨rfl, rfl⟩
  have g := a2 l.n (Nat.le_refl _)
  refine ⟨hna.1, ?_, ?_⟩
  · obtain ⟨e, e1, e2⟩ := hasN_iff.1 z2
    rw [h3] at e1 e2
    have e1 : e < (knS l l.n).n := e1
    have e2 : (knS l l.n).S e 0 = s := e2
    have b1 : hasN (naO r) t = true := hasN_iff.2 ⟨e, by rw [hna.2]; show e < (knS r l.n).n; rw [g.n]; exact e1, by rw [hna.2]; show (knS r l.n).S e 0 = t; rw [g.S e e1, e2, sub_eq]⟩
    have b2 : nmB s = true := by have := k2 l.n (Nat.le_refl _) e e1; rw [e2] at this; exact this
    have b3 : (hasN (naO r) s && !eqS t s) = false := by
      by_cases hst : s = t
      · rw [hst, eqS_iff.2 rfl, Bool.not_true, Bool.and_false]
      · have : hasN (naO r) s = false := by
          cases hh : hasN (naO r) s
          · rfl
          · exfalso
            obtain ⟨e', e3, e4⟩ := hasN_iff.1 hh
            rw [hna.2] at e3 e4
            have e3 : e' < (knS r l.n).n := e3
            have e4 : (knS r l.n).S e' 0 = s := e4
            rw [g.S e' (by rw [← g.n]; exact e3)] at e4
            by_cases hx : (knS l l.n).S e' 0 = s
            · rw [hx, sub_eq] at e4; exact hst e4.symm
            · rw [sub_ne hx] at e4; exact hx e4
        rw [this, Bool.false_and]
    unfold reE
    rw [hna.1, b1, b2, b3]
    rfl
  · obtain ⟨q1, q2⟩ := rs_rn r t s
    refine ⟨q1.trans hrn, fun i hi => ?_⟩
    have hi : i < l.n := by rw [q1, hrn] at hi; exact hi
    obtain ⟨r1, ⟨r2, r3⟩, r4, r5⟩ := hr.2 i hi
    obtain ⟨p1, ⟨p2, p3⟩, p4, p5⟩ := q2 i (by rw [hrn]; exact hi)
    refine ⟨p1.trans r1, ⟨p2.trans r2, fun x hx => ?_⟩, p4.trans r4, fun x hx => ?_⟩
    · have hx' : x < (l.R i 1).n := by rw [p2, r2] at hx; exact hx
      rw [p3 x (by rw [r2]; exact hx'), r3 x hx']
      refine sub_back ?_
      rcases z4 with hh | hh
      · exact .inl hh
      · refine .inr fun he => ?_
        have := k1 i hi x hx'
        rw [he] at this
        rw [this] at hh
        cases hh
    · have hx' : x < (l.R i 2).n := by rw [p4, r4] at hx; exact hx
      rw [p5 x (by rw [r4]; exact hx'), r5 x hx']
end Go.Proofs.YtopdfmhlgkbaaaaDoor

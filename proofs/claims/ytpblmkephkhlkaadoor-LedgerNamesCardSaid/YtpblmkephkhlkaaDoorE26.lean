/- Settle brings all balances to nothing; the law LedgerFewest. No conditions. -/
import Derived.Test.YtpblmkephkhlkaaDoorE21
namespace Go.Proofs.YtpblmkephkhlkaaDoor.Mk
open Go.Ev Se
set_option linter.all false
theorem ffF_win (l g : Row) (a c : Nat) (gr sg : Int) : ∀ m j, ffF (winOf l 0 a) (winOf g 0 c) gr sg m j = ffF l g gr sg m j
  | 0, _ => rfl
  | m + 1, j => by
    unfold ffF
    rw [ffF_win l g a c gr sg m (j + 1)]
    rfl
theorem ffF_spec (l g : Row) (gr sg : Int) : ∀ m j, (ffF l g gr sg m j = -1 ∧ ∀ i, j ≤ i → i < j + m → ¬ (g.I i 0 = gr ∧ wi (l.I i 0 * sg) > 0)) ∨ ∃ i : Nat, j ≤ i ∧ i < j + m ∧ ffF l g gr sg m j = (i : Int) ∧ g.I i 0 = gr ∧ wi (l.I i 0 * sg) > 0
  | 0, j => .inl ⟨rfl, fun i h1 h2 => by omega⟩
  | m + 1, j => by
    unfold ffF
    by_cases hc : g.I j 0 = gr ∧ wi (l.I j 0 * sg) > 0
    · rw [if_pos hc]
      exact .inr ⟨j, by omega, by omega, rfl, hc⟩
    · rw [if_neg hc]
      rcases ffF_spec l g gr sg m (j + 1) with ⟨h1, h2⟩ | ⟨i, h1, h2, h3, h4⟩
      · refine .inl ⟨h1, fun i a b => ?_⟩
        by_cases hij : i = j
        · subst hij; exact hc
        · exact h2 i (by omega) (by omega)
      · exact .inr ⟨i, by omega, by omega, h3, h4⟩
def Bd (l : Row) (n : Nat) : Prop := ∀ i, i < n → -1000000000 ≤ l.I i 0 ∧ l.I i 0 ≤ 1000000000
def gl (g : Row) (gr : Int) : Nat → Nat := fun i => if g.I i 0 = gr then 1 else 0
theorem gl_one {g : Row} {gr : Int} {i : Nat} : gl g gr i = 1 ↔ g.I i 0 = gr := by
  unfold gl
  split <;> simp_all
def gS (l g : Row) (gr : Int) (n : Nat) : Int := lS (bF l) (gl g gr) 1 n
def nzc (l g : Row) (gr : Int) (n : Nat) : Nat := cntB (fun i => decide (g.I i 0 = gr) && decide (l.I i 0 ≠ 0)) n
theorem lS_nonneg {f : Nat → Int} {c : Nat → Nat} {q : Nat} : ∀ {n}, (∀ i, i < n → c i = q → 0 ≤ f i) → 0 ≤ lS f c q n ∧ ∀ i, i < n → c i = q → f i ≤ lS f c q n
  | 0, _ => ⟨Int.le_refl _, fun i h => by omega⟩
  | n + 1, h => by
    obtain ⟨h1, h2⟩ := lS_nonneg (n := n) (f := f) (c := c) (q := q) (fun i hi => h i (by omega))
    have h3 := h n (by omega)
    unfold lS
    refine ⟨by split <;> omega, fun i hi hc => ?_⟩
    by_cases hin : i = n
    · subst hin; rw [if_pos hc]; omega
    · have := h2 i (by omega) hc
      split <;> omega
theorem lS_neg {f : Nat → Int} {c : Nat → Nat} {q n : Nat} : lS (fun i => - f i) c q n = - lS f c q n := by
  have := lS_add (f := f) (g := fun i => - f i) (h := fun _ => 0) (c := c) (q := q) (n := n) (fun i _ => by omega)
  rw [lS_zero (fun _ _ => rfl)] at this
  omega
theorem all_zero {l g : Row} {gr : Int} {n : Nat} (h0 : gS l g gr n = 0) (hp : ∀ i, i < n → g.I i 0 = gr → l.I i 0 ≤ 0) : ∀ i, i < n → g.I i 0 = gr → l.I i 0 = 0 := fun i hi hg => by
  obtain ⟨_, h2⟩ := lS_nonneg (f := fun i => - bF l i) (c := gl g gr) (q := 1) (n := n) (fun j hj hc => by have := hp j hj (gl_one.1 hc); show 0 ≤ - l.I j 0; omega)
  have h3 := h2 i hi (gl_one.2 hg)
  rw [lS_neg] at h3
  have h4 := hp i hi hg
  unfold gS at h0
  have : - bF l i = - l.I i 0 := rfl
  omega
theorem all_zero' {l g : Row} {gr : Int} {n : Nat} (h0 : gS l g gr n = 0) (hp : ∀ i, i < n → g.I i 0 = gr → 0 ≤ l.I i 0) : ∀ i, i < n → g.I i 0 = gr → l.I i 0 = 0 := fun i hi hg => by
  obtain ⟨_, h2⟩ := lS_nonneg (f := bF l) (c := gl g gr) (q := 1) (n := n) (fun j hj hc => hp j hj (gl_one.1 hc))
  have h3 := h2 i hi (gl_one.2 hg)
  have h4 := hp i hi hg
  unfold gS at h0
  have : bF l i = l.I i 0 := rfl
  omega
def pk (o : Row) (k : Nat) : List Pt := (List.range k).map (ptAt o)
theorem pk_oU (o : Row) (k : Nat) (fr to c : Int) : pk (oU o k (pyR fr to c)) (k + 1) = pk o k ++ [(fr, to, c)] := by
  cases k with
  | zero =>
    have := pl_app .nil (pyR fr to c)
    exact this
  | succ k =>
    have := pl_app (winOf o 0 (k + 1)) (pyR fr to c)
    exact this
theorem l2_I {l : Row} {i t : Nat} {c : Int} (hit : i ≠ t) (h1 : -1000000000 ≤ l.I i 0 ∧ l.I i 0 ≤ 1000000000) (h2 : -1000000000 ≤ l.I t 0 ∧ l.I t 0 ≤ 1000000000) (hc : 0 ≤ c ∧ c ≤ 1000000000) (p : Nat) :
    (l2U l i t c).I p 0 = l.I p 0 + dl ((i : Int), (t : Int), c) p := by
  unfold l2U l1U
  rw [Int.toNat_natCast, Int.toNat_natCast, Nat.zero_add, Nat.zero_add, sI_I, sI_I, sI_I, if_neg (show ¬ t = i from fun h => hit h.symm), wiN (n := l.I t 0 + c) (by omega) (by omega), wiN (n := l.I i 0 - c) (by omega) (by omega)]
  unfold dl
  dsimp only
  by_cases hpt : p = t
  · subst hpt
    rw [if_pos rfl, if_pos rfl, if_neg (show ¬ (i : Int) = (p : Int) by omega)]
    omega
  · rw [if_neg hpt, if_neg (show ¬ (t : Int) = (p : Int) by omega)]
    by_cases hpi : p = i
    · subst hpi
      rw [if_pos rfl, if_pos rfl]; omega
    · rw [if_neg hpi, if_neg (show ¬ (i : Int) = (p : Int) by omega)]; omega
theorem inG_spec {g : Row} {n : Nat} {gr : Int} (hn : n ≤ 10) : ∀ (f : Nat) (l : Row) (k : Nat) (o : Row), Bd l n → gS l g gr n = 0 → nzc l g gr n ≤ f →
    ∃ k' l' o' xs, inG g n n gr f (fw l g n n gr 1) k l o = some (k', l', o') ∧ Bd l' n ∧ (∀ p, p < n → g.I p 0 = gr → l'.I p 0 = 0) ∧ (∀ p, g.I p 0 ≠ gr → l'.I p 0 = l.I p 0) ∧ k' = k + xs.length ∧ xs.length ≤ nzc l g gr n - 1 ∧
      pk o' k' = pk o k ++ xs ∧ (∀ x, x ∈ xs → okP n x) ∧ ∀ p : Nat, l'.I p 0 = l.I p 0 + bl xs p := by
  intro f
  induction f with
  | zero =>
    intro l k o hb hs hz
    have hfw : fw l g n n gr 1 = ffF l g gr 1 n 0 := ffF_win _ _ _ _ _ _ _ _
    rcases ffF_spec l g gr 1 n 0 with ⟨h1, h2⟩ | ⟨i, h1, h2, h3, h4, h5⟩
    · have hle : ∀ i, i < n → g.I i 0 = gr → l.I i 0 ≤ 0 := fun i hi hg => by
        have h3 := h2 i (by omega) (by omega)
        have h4 := hb i hi
        rw [Int.mul_one, wiN (by omega) (by omega)] at h3
        by_cases h5 : l.I i 0 > 0
        · exact absurd ⟨hg, h5⟩ h3
        · omega
      refine ⟨k, l, o, [], ?_, hb, all_zero hs hle, fun _ _ => rfl, rfl, by simp, by simp, (fun x h => by cases h), fun p => by show _ = _ + 0; omega⟩
      unfold inG
      rw [hfw, h1, if_pos (by decide)]
    · exfalso
      have h6 := hb i (by omega)
      rw [Int.mul_one, wiN (by omega) (by omega)] at h5
      have h7 : 1 ≤ nzc l g gr n := by
        have := cntB_lt (e := fun _ => false) (e' := fun i => decide (g.I i 0 = gr) && decide (l.I i 0 ≠ 0)) (q0 := i) (Q := n) (fun q _ h => by cases h) (by omega) rfl (by simp; omega)
        unfold nzc
        omega
      omega
  | succ f ih =>
    intro l k o hb hs hz
    have hfw : fw l g n n gr 1 = ffF l g gr 1 n 0 := ffF_win _ _ _ _ _ _ _ _
    have hfw2 : fw l g n n gr (-1) = ffF l g gr (-1) n 0 := ffF_win _ _ _ _ _ _ _ _
    rcases ffF_spec l g gr 1 n 0 with ⟨h1, h2⟩ | ⟨i, h1, h2, h3, h4, h5⟩
    · have hle : ∀ i, i < n → g.I i 0 = gr → l.I i 0 ≤ 0 := fun i hi hg => by
        have h3 := h2 i (by omega) (by omega)
        have h4 := hb i hi
        rw [Int.mul_one, wiN (by omega) (by omega)] at h3
        by_cases h5 : l.I i 0 > 0
        · exact absurd ⟨hg, h5⟩ h3
        · omega
      refine ⟨k, l, o, [], ?_, hb, all_zero hs hle, fun _ _ => rfl, rfl, by simp, by simp, (fun x h => by cases h), fun p => by show _ = _ + 0; omega⟩
      unfold inG
      rw [hfw, h1, if_pos (by decide)]
    · have hbi := hb i (by omega)
      rw [Int.mul_one, wiN (by omega) (by omega)] at h5
      rcases ffF_spec l g gr (-1) n 0 with ⟨t1, t2⟩ | ⟨t, t1, t2, t3, t4, t5⟩
      · exfalso
        have := all_zero' hs (fun j hj hg => by
          have h6 := t2 j (by omega) (by omega)
          have h7 := hb j hj
          rw [wiN (by omega) (by omega)] at h6
          by_cases h8 : l.I j 0 < 0
          · exact absurd ⟨hg, by omega⟩ h6
          · omega) i (by omega) h4
        omega
      · have hbt := hb t (by omega)
        rw [wiN (by omega) (by omega)] at t5
        have hit : i ≠ t := fun h => by subst h; omega
        have hce : ceI l i t = if - l.I t 0 < l.I i 0 then - l.I t 0 else l.I i 0 := by
          unfold ceI mnI
          rw [Int.toNat_natCast, Int.toNat_natCast, Nat.zero_add, Nat.zero_add, wiN (by omega) (by omega), Int.zero_sub]
        generalize hc : ceI l i t = c at hce
        have hcr : 1 ≤ c ∧ c ≤ l.I i 0 ∧ c ≤ - l.I t 0 ∧ (c = l.I i 0 ∨ c = - l.I t 0) := by
          rw [hce]
          split <;> omega
        have hl2 := l2_I hit hbi hbt (c := c) (by omega)
        have hok : okP n ((i : Int), (t : Int), c) := by unfold okP; dsimp only; omega
        have hdi : (l2U l i t c).I i 0 = l.I i 0 - c := by rw [hl2]; unfold dl; dsimp only; rw [if_neg (by omega), if_pos rfl]; omega
        have hdt : (l2U l i t c).I t 0 = l.I t 0 + c := by rw [hl2]; unfold dl; dsimp only; rw [if_pos rfl, if_neg (by omega)]; omega
        have hdp : ∀ p, p ≠ i → p ≠ t → (l2U l i t c).I p 0 = l.I p 0 := fun p h1 h2 => by rw [hl2]; unfold dl; dsimp only; rw [if_neg (by omega), if_neg (by omega)]; omega
        have hb2 : Bd (l2U l i t c) n := fun p hp => by
          by_cases e1 : p = i
          · subst e1; rw [hdi]; omega
          · by_cases e2 : p = t
            · subst e2; rw [hdt]; omega
            · rw [hdp p e1 e2]; exact hb p hp
        have hs2 : gS (l2U l i t c) g gr n = 0 := by
          unfold gS at hs ⊢
          rw [lS_add (f := bF l) (g := fun p => dl ((i : Int), (t : Int), c) p) (h := bF (l2U l i t c)) (fun p _ => hl2 p), hs, lS_dl hok (by
            show gl g gr (i : Int).toNat = gl g gr (t : Int).toNat
            rw [Int.toNat_natCast, Int.toNat_natCast, gl_one.2 h4, gl_one.2 t4])]
          rfl
        have hmono : ∀ q, q < n → (decide (g.I q 0 = gr) && decide ((l2U l i t c).I q 0 ≠ 0)) = true → (decide (g.I q 0 = gr) && decide (l.I q 0 ≠ 0)) = true := fun q _ h => by
          simp only [Bool.and_eq_true, decide_eq_true_eq] at h ⊢
          refine ⟨h.1, ?_⟩
          by_cases e1 : q = i
          · subst e1; omega
          · by_cases e2 : q = t
            · subst e2; omega
            · rw [hdp q e1 e2] at h; exact h.2
        have hz2 : nzc (l2U l i t c) g gr n + 1 ≤ nzc l g gr n := by
          rcases hcr.2.2.2 with h | h
          · exact cntB_lt (q0 := i) hmono (by omega) (by simp only [Bool.and_eq_false_iff, decide_eq_false_iff_not]; right; rw [hdi]; omega) (by simp only [Bool.and_eq_true, decide_eq_true_eq]; exact ⟨h4, by omega⟩)
          · exact cntB_lt (q0 := t) hmono (by omega) (by simp only [Bool.and_eq_false_iff, decide_eq_false_iff_not]; right; rw [hdt]; omega) (by simp only [Bool.and_eq_true, decide_eq_true_eq]; exact ⟨t4, by omega⟩)
        have h2n : 2 ≤ nzc l g gr n := by
          have a1 := cntB_lt (e := fun _ => false) (e' := fun q => decide (q = i)) (q0 := i) (Q := n) (fun q _ h => by cases h) (by omega) rfl (by simp)
          have a2 := cntB_lt (e := fun q => decide (q = i)) (e' := fun q => decide (g.I q 0 = gr) && decide (l.I q 0 ≠ 0)) (q0 := t) (Q := n) (fun q _ h => by
            have := of_decide_eq_true h
            subst this
            simp only [Bool.and_eq_true, decide_eq_true_eq]; exact ⟨h4, by omega⟩) (by omega) (by simp; omega) (by simp only [Bool.and_eq_true, decide_eq_true_eq]; exact ⟨t4, by omega⟩)
          unfold nzc
          omega
        obtain ⟨k', l', o', xs, e1, e2, e3, e4, e5, e6, e7, e8, e9⟩ := ih (l2U l i t c) (k + 1) (oU o k (pyR i t c)) hb2 hs2 (by omega)
        refine ⟨k', l', o', ((i : Int), (t : Int), c) :: xs, ?_, e2, e3, fun p hp => ?_, by rw [List.length_cons]; omega, by rw [List.length_cons]; omega, ?_, ?_, fun p => ?_⟩
        · unfold inG
          rw [hfw, h3, if_neg (by omega), hfw2, t3, if_neg (by omega), hc]
          exact e1
        · rw [e4 p hp]
          exact hdp p (fun h => by subst h; exact hp h4) (fun h => by subst h; exact hp t4)
        · rw [e7, pk_oU, List.append_assoc]; rfl
        · intro x hx
          rcases List.mem_cons.1 hx with rfl | hx
          · exact hok
          · exact e8 x hx
        · rw [e9 p, hl2 p]
          show _ = l.I p 0 + (dl ((i : Int), (t : Int), c) p + bl xs p)
          omega
end Go.Proofs.YtpblmkephkhlkaaDoor.Mk
namespace Go.Proofs.YtpblmkephkhlkaaDoor.Mk
open Go.Ev Se
set_option linter.all false
theorem cntB_split {e e1 e2 : Nat → Bool} : ∀ {Q}, (∀ q, q < Q → (if e q = true then 1 else 0 : Nat) = (if e1 q = true then 1 else 0) + (if e2 q = true then 1 else 0)) → cntB e Q = cntB e1 Q + cntB e2 Q
  | 0, _ => rfl
  | Q + 1, h => by
    unfold cntB
    rw [cntB_split (Q := Q) (fun q hq => h q (by omega)), h Q (by omega)]
    omega
theorem GOk.rest {b g : Row} {rest : Nat} (h : GOk b g rest) {p : Nat} (hp : p < b.n) : (rest.testBit p = true ∧ 0 ≤ g.I p 0 ∧ b.I p 0 ≠ 0) ∨ (rest.testBit p = false ∧ g.I p 0 = -1 ∧ b.I p 0 = 0) := by
  have hz := h.nz p
  rw [decide_eq_true hp, Bool.true_and] at hz
  cases hr : rest.testBit p
  · rw [hr] at hz
    have h0 : b.I p 0 = 0 := Classical.not_not.1 (of_decide_eq_false hz.symm)
    exact .inr ⟨rfl, h.out p hp h0, h0⟩
  · rw [hr] at hz
    exact .inl ⟨rfl, h.lo p hr, of_decide_eq_true hz.symm⟩
theorem grp_sum {b g l : Row} {rest j : Nat} (h : GOk b g rest) (hl : ∀ p, p < b.n → g.I p 0 = (j : Int) → l.I p 0 = b.I p 0) : ∀ k, k ≤ b.n → lS (bF l) (gl g j) 1 k = sM (bF b) (clM (lab g) rest j b.n) k
  | 0, _ => rfl
  | k + 1, hk => by
    unfold lS sM
    rw [grp_sum h hl k (by omega), clM_bit, decide_eq_true (show k < b.n by omega), Bool.true_and]
    by_cases hg : g.I k 0 = (j : Int)
    · rw [if_pos (gl_one.2 hg)]
      rcases h.rest (p := k) (by omega) with ⟨h1, h2, h3⟩ | ⟨h1, h2, h3⟩
      · rw [h1, decide_eq_true (show lab g k = j by unfold lab; omega), if_pos (show (true && true) = true from rfl)]
        show _ + l.I k 0 = _ + b.I k 0
        rw [hl k (by omega) hg]
      · omega
    · rw [if_neg (fun h => hg (gl_one.1 h))]
      rcases h.rest (p := k) (by omega) with ⟨h1, h2, h3⟩ | ⟨h1, h2, h3⟩
      · rw [h1, decide_eq_false (show ¬ lab g k = j by unfold lab; omega)]; rfl
      · rw [h1]; rfl
def Rr (g : Row) (j n : Nat) : Nat := cntB (fun i => decide ((j : Int) ≤ g.I i 0)) n
structure Iv (b g : Row) (rest j k : Nat) (l o : Row) (xs : List Pt) : Prop where
  bd : Bd l b.n
  zero : ∀ p, p < b.n → g.I p 0 < (j : Int) → l.I p 0 = 0
  keep : ∀ p, p < b.n → (j : Int) ≤ g.I p 0 → l.I p 0 = b.I p 0
  len : k = xs.length
  pk : pk o k = xs
  ok : ∀ x, x ∈ xs → okP b.n x
  sum : ∀ p, p < b.n → l.I p 0 = b.I p 0 + bl xs p
  cnt : k + Rr g j b.n + min j (mN b rest).toNat ≤ pc rest b.n
theorem iv_step {b g : Row} {rest j k : Nat} {l o : Row} {xs : List Pt} (hn : b.n ≤ 10) (h : GOk b g rest) (hi : Iv b g rest j k l o xs) :
    ∃ k' l' o' ys, gsG b.n b.n k j (fw l g b.n b.n j 1) l g o = some (k', l', o') ∧ Iv b g rest (j + 1) k' l' o' ys := by
  have hs : gS l g j b.n = 0 := by
    have := grp_sum (l := l) (j := j) h (fun p hp hg => hi.keep p hp (by omega)) b.n (Nat.le_refl _)
    unfold gS
    rw [this]
    exact h.sum j
  have hnz : nzc l g j b.n ≤ b.n := cntB_bound
  have hpc : pc rest b.n ≤ b.n := cntB_bound
  have hcnt := hi.cnt
  obtain ⟨k', l', o', ys, e1, e2, e3, e4, e5, e6, e7, e8, e9⟩ := inG_spec (g := g) (gr := (j : Int)) hn 1000 l k o hi.bd hs (by omega)
  refine ⟨k', l', o', xs ++ ys, ?_, ?_⟩
  · unfold gsG
    rw [if_pos ⟨by omega, Nat.le_refl _, fw_lt _ _ _ _ _ _, by omega⟩]
    exact e1
  · have hsp : Rr g j b.n = nzc l g j b.n + Rr g (j + 1) b.n := cntB_split fun q hq => by
      by_cases h1 : g.I q 0 = (j : Int)
      · have h2 := hi.keep q hq (by omega)
        rcases h.rest hq with ⟨_, _, h3⟩ | ⟨_, h4, _⟩
        · rw [decide_eq_true (show (j : Int) ≤ g.I q 0 by omega), decide_eq_true h1, decide_eq_true (show l.I q 0 ≠ 0 by omega), decide_eq_false (show ¬ ((j + 1 : Nat) : Int) ≤ g.I q 0 by omega)]; rfl
        · omega
      · rw [decide_eq_false h1, Bool.false_and]
        by_cases h2 : (j : Int) ≤ g.I q 0
        · rw [decide_eq_true h2, decide_eq_true (show ((j + 1 : Nat) : Int) ≤ g.I q 0 by omega)]; rfl
        · rw [decide_eq_false h2, decide_eq_false (show ¬ ((j + 1 : Nat) : Int) ≤ g.I q 0 by omega)]; rfl
    have hne : j < (mN b rest).toNat → 1 ≤ nzc l g j b.n := fun hj => by
      obtain ⟨i, u1, u2, u3⟩ := use_iff.1 (h.all j (by omega))
      rcases h.rest u1 with ⟨_, h2, h3⟩ | ⟨h4, _, _⟩
      · have hgi : g.I i 0 = (j : Int) := by unfold lab at u3; omega
        have := cntB_lt (e := fun _ => false) (e' := fun i => decide (g.I i 0 = (j : Int)) && decide (l.I i 0 ≠ 0)) (q0 := i) (Q := b.n) (fun q _ h => by cases h) u1 rfl (by
          rw [hi.keep i u1 (by omega), decide_eq_true hgi, decide_eq_true h3]; rfl)
        unfold nzc
        omega
      · rw [u2] at h4; cases h4
    exact {
      bd := e2
      zero := fun p hp hg => by
        by_cases h1 : g.I p 0 = (j : Int)
        · exact e3 p hp h1
        · rw [e4 p h1]; exact hi.zero p hp (by omega)
      keep := fun p hp hg => by rw [e4 p (by omega)]; exact hi.keep p hp (by omega)
      len := by rw [List.length_append, e5, hi.len]
      pk := by rw [e7, hi.pk]
      ok := fun x hx => (List.mem_append.1 hx).elim (hi.ok x) (e8 x)
      sum := fun p hp => by rw [e9 p, hi.sum p hp, bl_app]; omega
      cnt := by
        by_cases hj : j < (mN b rest).toNat
        · have := hne hj; omega
        · omega }
theorem out_spec {b g : Row} {rest : Nat} (hn : b.n ≤ 10) (h : GOk b g rest) : ∀ (c j k : Nat) (l o : Row) (xs : List Pt), j + c = b.n → Iv b g rest j k l o xs →
    ∃ k' l' o' ys, outG g b.n b.n c j k l o = some (k', l', o') ∧ Iv b g rest b.n k' l' o' ys
  | 0, j, k, l, o, xs, hj, hi => by
    obtain rfl : j = b.n := by omega
    exact ⟨k, l, o, xs, rfl, hi⟩
  | c + 1, j, k, l, o, xs, hj, hi => by
    obtain ⟨k', l', o', ys, e1, e2⟩ := iv_step hn h hi
    unfold outG
    rw [e1]
    exact out_spec hn h c (j + 1) k' l' o' ys (by omega) e2
theorem settle_ok {b : Row} (h : ckE b = 0) : stC b = true ∧ ∃ rest, Nz b rest ∧ (∀ x, x ∈ pl (stR b) → okP b.n x) ∧ (∀ p : Nat, p < b.n → b.I p 0 + bl (pl (stR b)) p = 0) ∧ ((stR b).n : Int) + mN b rest ≤ (pc rest b.n : Nat) ∧ (pl (stR b)).length = (stR b).n := by
  obtain ⟨hf, hn1, _⟩ := ck_fit h
  obtain ⟨hc, rest, hg⟩ := groups_ok h
  have hle := hg.le
  have hpc : pc rest b.n ≤ b.n := cntB_bound
  have h0 : Iv b (gpR b) rest 0 0 (Row.app (.zeros 0) b) .nil [] := {
    bd := hf.2
    zero := fun p hp hgp => by
      rcases hg.rest hp with ⟨_, h2, _⟩ | ⟨_, _, h3⟩
      · omega
      · exact h3
    keep := fun _ _ _ => rfl
    len := rfl
    pk := rfl
    ok := fun x hx => by cases hx
    sum := fun p _ => by show b.I p 0 = b.I p 0 + 0; omega
    cnt := by
      have : Rr (gpR b) 0 b.n = pc rest b.n := cntB_ext fun q hq => by
        rcases hg.rest hq with ⟨h1, h2, _⟩ | ⟨h1, h2, _⟩
        · rw [h1]; exact decide_eq_true (by omega)
        · rw [h1]; exact decide_eq_false (by omega)
      omega }
  obtain ⟨k', l', o', ys, e1, e2⟩ := out_spec hf.1 hg b.n 0 0 _ _ _ (by omega) h0
  have hst : stO b = some (k', l', o') := by
    unfold stO
    rw [hg.n]
    exact e1
  have hz : ∀ p, p < b.n → l'.I p 0 = 0 := fun p hp => e2.zero p hp (by
    rcases hg.rest hp with ⟨h1, _, _⟩ | ⟨_, h2, _⟩
    · have := hg.hi p h1; omega
    · omega)
  have hpl : pl (stR b) = ys ∧ (stR b).n = k' := by
    unfold stR
    rw [if_neg (fun h' => h' h), hst]
    cases k' with
    | zero => exact ⟨e2.pk, rfl⟩
    | succ k' => exact ⟨e2.pk, rfl⟩
  refine ⟨?_, rest, hg.nz, fun x hx => ?_, fun p hp => ?_, ?_, ?_⟩
  · unfold stC
    rw [hc, hst, decide_eq_true (show b.n ≤ (gpR b).n by rw [hg.n]; exact Nat.le_refl _)]
    simp
  · rw [hpl.1] at hx; exact e2.ok x hx
  · rw [hpl.1, ← e2.sum p hp]; exact hz p hp
  · rw [hpl.2]
    have := e2.cnt
    omega
  · rw [hpl.1, hpl.2]; exact e2.len.symm
end Go.Proofs.YtpblmkephkhlkaaDoor.Mk
namespace Go.Proofs.YtpblmkephkhlkaaDoor.Fw
open Go.Ev Mk
set_option linter.all false
def Sa (nl no : Nat) (j : Int) (l o : Row) : St := ⟨us 1 ++ [sl 0 nl] ++ us 3 ++ [sl 1 no, i64 j] ++ us 40, [[]], [some (.row Lg.ks3 false l), Rb true o]⟩
def Sax (no : Nat) (o : Row) : St := ⟨us 5 ++ [sl 0 no] ++ us 41, [[]], [Rb true o]⟩
def Ga (cd : Nat → Nat → Row → Bool) : List It → (X → St → Option (List D)) → Option (List D)
  | [.n nl, .n no, .r l, .r o], k => br (cd nl no l) (k (.exit 0) (Sax no (Lg.books l nl 0 o))) none
  | _, _ => none
def la (cd : Nat → Nat → Row → Bool) : LoopC where
  f := 19
  id := 3
  lv := [1, 5, 6]
  lx := [4, 5]
  p := { τ := pu 1 ++ [.v (.sl 0)] ++ pu 3 ++ [.v (.sl 1), .v (.c (i64 0))] ++ pu 40, saved := [[]], mem := [.row Lg.ks3 false, .row ks1 true] }
  G := Ga cd
noncomputable def Cag (cd : Nat → Nat → Row → Bool) : Cx := mkCx Tryd.prog fns [] [la cd]
theorem rounda (cd : Nat → Nat → Row → Bool) (R : St → Option (List D)) (K : X → St → Option (List D)) (p : Nat) (nl no : Nat) (j : Nat) (l o : Row) : evCode (Cag cd) 19 true (inl (Cag cd) (p + 4)) (lbody (Cag cd).P 19 3) (Sa nl no j l o) (rnd [1, 5, 6] (some [4, 5]) R K) =
    br (decide ((j : Int) < (nl : Int))) (br (decide (0 ≤ (j : Int)) && decide ((j : Int) < (nl : Int))) (br (Lg.inR no (l.I (0 + j) 0)) (br (decide (0 ≤ (j : Int)) && decide ((j : Int) < (nl : Int))) (br (Lg.inR no (l.I (0 + j) 0)) (br (decide (0 ≤ (j : Int)) && decide ((j : Int) < (nl : Int))) (br (Lg.inR no (l.I (0 + j) 1)) (br (decide (0 ≤ (j : Int)) && decide ((j : Int) < (nl : Int))) (br (Lg.inR no (l.I (0 + j) 1))
      (R (Sa nl no (wi (j + 1)) l (Lg.book l j o))) none) none) none) none) none) none) none) none) (K (.exit 0) (Sax no o)) := by kernel_rfl
def ina (nl no : Nat) (l : Row) : Bool := decide (nl ≤ 1000) && !anyF (Lg.bad (no : Int) l) nl 0
noncomputable def Ca : Cx := Cag ina
theorem goa {f : St → (X → St → Option (List D)) → Option (List D)} {lv : List Tmp} {lx : Option (List Tmp)} {nl no : Nat} {l : Row} (hn : nl ≤ 1000) (hb : ∀ i, i < nl → Lg.bad (no : Int) l i = false)
    (hr : ∀ (j : Nat) (o : Row) R K, f (Sa nl no j l o) (rnd lv lx R K) = br (decide ((j : Int) < (nl : Int))) (br (decide (0 ≤ (j : Int)) && decide ((j : Int) < (nl : Int))) (br (Lg.inR no (l.I (0 + j) 0)) (br (decide (0 ≤ (j : Int)) && decide ((j : Int) < (nl : Int))) (br (Lg.inR no (l.I (0 + j) 0)) (br (decide (0 ≤ (j : Int)) && decide ((j : Int) < (nl : Int))) (br (Lg.inR no (l.I (0 + j) 1)) (br (decide (0 ≤ (j : Int)) && decide ((j : Int) < (nl : Int))) (br (Lg.inR no (l.I (0 + j) 1))
      (R (Sa nl no (wi (j + 1)) l (Lg.book l j o))) none) none) none) none) none) none) none) none) (K (.exit 0) (Sax no o))) (K : X → St → Option (List D)) :
    ∀ (m fu j : Nat) (o : Row), j + m = nl → m < fu → rounds lv lx f fu (Sa nl no j l o) K = K (.exit 0) (Sax no (Lg.books l m j o))
  | 0, fu + 1, j, o, h0, h1 => by
    rw [rnds1, hr, decide_eq_false (show ¬ (j : Int) < (nl : Int) by omega), br_false]
    rfl
  | m + 1, fu + 1, j, o, h0, h1 => by
    have hg := Lg.good_in (hb j (by omega))
    rw [rnds1, hr, show (decide (0 ≤ (j : Int)) && decide ((j : Int) < (nl : Int))) = true by simp only [Bool.and_eq_true, decide_eq_true_eq]; omega, decide_eq_true (show (j : Int) < (nl : Int) by omega), hg.1, hg.2, br_true, br_true, br_true, br_true, br_true, br_true, br_true, br_true, br_true,
      wiN (n := (j : Int) + 1) (by omega) (by omega), show (j : Int) + 1 = ((j + 1 : Nat) : Int) by omega]
    exact goa hn hb hr K m fu (j + 1) _ (by omega) (by omega)
set_option maxRecDepth 100000 in
theorem loopa : LoopOk Ca (la ina) := ⟨by kernel_rfl, fun q its k rr h => by
  show rounds [1, 5, 6] (some [4, 5]) (evCode Ca 19 true (inl Ca (q + 4)) (lbody Ca.P 19 3)) 18446744073709551616 (Go.Ev.bst (la ina).p its) k = some rr
  change Ga ina its k = some rr at h
  unfold Ga at h
  split at h
  · rename_i nl no l o
    rcases br_some h with ⟨h1, h2⟩ | ⟨_, h2⟩
    · unfold ina at h1
      simp only [Bool.and_eq_true, decide_eq_true_eq, Bool.not_eq_true'] at h1
      rw [← h2]
      exact goa h1.1 (fun i hi => anyF_false.1 h1.2 i (by omega) (by omega)) (fun j o R K => rounda ina R K q nl no j l o) k nl _ 0 o (by omega) (by omega)
    · cases h2
  · cases h⟩
theorem Ca_ok : CxOk Ca := mkCx_ok enter mixed (fun p h => by cases h) (fun l h => by
  simp only [List.mem_cons, List.not_mem_nil, or_false] at h
  rcases h with rfl
  exact loopa)
def cpR (b : Row) : Row := (winOf (Row.zeros 0) 0 0).app (winOf b 0 b.n)
def afR (b l : Row) : Row := winOf (Lg.books l l.n 0 (cpR b)) 0 (0 + b.n)
theorem tafter (cd : Nat → Nat → Row → Bool) (b l : Row) : evF (Cag cd) 6 19 [.slice ks1 b, .slice Lg.ks3 l] = br (decide (0 + b.n ≤ 10000000000)) (br (cd l.n (0 + b.n) l) (some [.slice ks1 (afR b l)]) none) none := by kernel_rfl
def Fafter : List D → Option (Bool × List D)
  | [.slice [.int .i64] b, .slice [.int .i64, .int .i64, .int .i64] l] => some (decide (b.n ≤ 1000) && ina l.n b.n l, [.slice ks1 (afR b l)])
  | _ => none
theorem den_after : Den Tryd.prog 19 Fafter := evF_den Ca_ok fun ds rs h => by
  unfold Fafter at h
  split at h
  · rename_i b l
    simp only [Option.some.injEq, Prod.mk.injEq, Bool.and_eq_true, decide_eq_true_eq] at h
    obtain ⟨⟨h0, h1⟩, rfl⟩ := h
    refine (tafter ina b l).trans ?_
    rw [Nat.zero_add, decide_eq_true (show b.n ≤ 10000000000 by omega), br_true, h1, br_true]
  · cases h
theorem l2_I2 {l : Row} {i t : Nat} {c : Int} (hit : i ≠ t) (h1 : -1000000000000000 ≤ l.I i 0 ∧ l.I i 0 ≤ 1000000000000000) (h2 : -1000000000000000 ≤ l.I t 0 ∧ l.I t 0 ≤ 1000000000000000) (hc : 0 ≤ c ∧ c ≤ 1000000000) (p : Nat) :
    (Se.l2U l i t c).I p 0 = l.I p 0 + dl ((i : Int), (t : Int), c) p := by
  unfold Se.l2U Se.l1U
  rw [Int.toNat_natCast, Int.toNat_natCast, Nat.zero_add, Nat.zero_add, sI_I, sI_I, sI_I, if_neg (show ¬ t = i from fun h => hit h.symm), wiN (n := l.I t 0 + c) (by omega) (by omega), wiN (n := l.I i 0 - c) (by omega) (by omega)]
  unfold dl
  dsimp only
  by_cases hpt : p = t
  · subst hpt
    rw [if_pos rfl, if_pos rfl, if_neg (show ¬ (i : Int) = (p : Int) by omega)]
    omega
  · rw [if_neg hpt, if_neg (show ¬ (t : Int) = (p : Int) by omega)]
    by_cases hpi : p = i
    · subst hpi
      rw [if_pos rfl, if_pos rfl]; omega
    · rw [if_neg hpi, if_neg (show ¬ (i : Int) = (p : Int) by omega)]; omega
theorem book_I2 {n : Nat} {r o : Row} {j : Nat} (h : okP n (ptAt r j)) (ho : ∀ p, p < n → -1000000000000000 ≤ o.I p 0 ∧ o.I p 0 ≤ 1000000000000000) (p : Nat) : (Lg.book r j o).I p 0 = o.I p 0 + dl (ptAt r j) p := by
  obtain ⟨⟨a1, a2⟩, ⟨a3, a4⟩, a5, a6, a7⟩ := h
  have e : Lg.book r j o = Se.l2U o (r.I (0 + j) 0) (r.I (0 + j) 1) (r.I (0 + j) 2) := rfl
  rw [e, Nat.zero_add]
  unfold ptAt at a1 a2 a3 a4 a5 a6 a7 ⊢
  dsimp only at a1 a2 a3 a4 a5 a6 a7
  generalize r.I j 0 = x at *
  generalize r.I j 1 = y at *
  generalize r.I j 2 = c at *
  obtain ⟨x, rfl⟩ := Int.eq_ofNat_of_zero_le a1
  obtain ⟨y, rfl⟩ := Int.eq_ofNat_of_zero_le a3
  exact l2_I2 (by omega) (ho x (by omega)) (ho y (by omega)) (by omega) p
theorem books_I2 {n : Nat} {r : Row} : ∀ (m j : Nat) (o : Row) (B : Int), (∀ i, j ≤ i → i < j + m → okP n (ptAt r i)) → B + m * 1000000000 ≤ 1000000000000000 → (∀ p, p < n → -B ≤ o.I p 0 ∧ o.I p 0 ≤ B) → ∀ p : Nat, (Lg.books r m j o).I p 0 = o.I p 0 + bl ((List.range' j m).map (ptAt r)) p
  | 0, j, o, B, _, _, _, p => by show o.I p 0 = o.I p 0 + 0; omega
  | m + 1, j, o, B, h, hB, ho, p => by
    have hj := h j (by omega) (by omega)
    have hb := book_I2 (o := o) hj (fun p hp => by have := ho p hp; omega)
    show (Lg.books r m (j + 1) (Lg.book r j o)).I p 0 = _
    rw [books_I2 m (j + 1) (Lg.book r j o) (B + 1000000000) (fun i a b => h i (by omega) (by omega)) (by omega) (fun p hp => by
      have := ho p hp
      have := dl_range hj p
      rw [hb p]; omega) p, hb p]
    show _ = o.I p 0 + (dl (ptAt r j) p + bl ((List.range' (j + 1) m).map (ptAt r)) p)
    omega
theorem af_I {b l : Row} (hf : Fit b) (hl : l.n ≤ 200) (hx : ∀ x, x ∈ pl l → okP b.n x) (p : Nat) : (afR b l).I p 0 = b.I p 0 + bl (pl l) p := by
  have := books_I2 (n := b.n) (r := l) l.n 0 (cpR b) 1000000000 (fun i _ hi => hx _ (List.mem_map.2 ⟨i, List.mem_range.2 (by omega), rfl⟩)) (by omega) (fun p hp => hf.2 p hp) p
  rw [← List.range_eq_range'] at this
  exact this
theorem zr_iff {r : Row} : zrB r = true ↔ ∀ p, p < r.n → r.I p 0 = 0 := by
  unfold zrB
  rw [Bool.not_eq_true', anyF_false]
  unfold nzB
  constructor
  · intro h p hp
    have := h p (by omega) (by omega)
    simpa using this
  · intro h p _ hp
    have := h p (by omega)
    simpa using this
end Go.Proofs.YtpblmkephkhlkaaDoor.Fw
namespace Go.Proofs.YtpblmkephkhlkaaDoor.Fw
open Go.Ev Mk
set_option linter.all false
noncomputable def C20 : Cx := mkCx Tryd.prog fns [(15, Falive), (17, Lg.F7), (11, Se.Fsettle), (18, Fzero), (16, Fck), (19, Fafter)] []
theorem C20_ok : CxW C20 Wt := mkCx_okW enter mixed (fun p h => by
    simp only [List.mem_cons, List.not_mem_nil, or_false] at h
    rcases h with rfl | rfl | rfl | rfl | rfl | rfl
    · exact den_alive
    · exact Lg.den8.at _
    · exact Se.den_settle
    · exact den_zero.at _
    · exact den_start.at _
    · exact den_after.at _) (fun l h => by cases h)
/-- The settlement, of balances as they are seen. -/
def sR (b : Row) : Row := winOf (Se.stR b) 0 (Se.stR b).n
def af (b l : Row) : Row := winOf (afR b l) 0 (0 + b.n)
theorem tfewest (b l : Row) : evF C20 6 4 [.slice ks1 b, .slice Lg.ks3 l] =
    br (ckE (winOf b 0 b.n) != 0) (some [.v (.bool true)]) (br (decide ((l.n : Int) > 200)) (some [.v (.bool true)]) (br (Se.stC (winOf b 0 b.n)) (br (ckE (winOf b 0 b.n) != 0) (some [.v (.bool false)])
      (br (Lg.chk b.n (sR (winOf b 0 b.n)) != 0) (some [.v (.bool false)]) (br (decide (b.n ≤ 1000) && ina (sR (winOf b 0 b.n)).n b.n (sR (winOf b 0 b.n))) (br (decide (0 + b.n ≤ 1000)) (br (!zrB (af (winOf b 0 b.n) (sR (winOf b 0 b.n)))) (some [.v (.bool false)]) (br (decide (((Se.stR (winOf b 0 b.n)).n : Int) ≥ b.n)) (some [.v (.bool false)])
        (br (Lg.chk b.n (winOf l 0 l.n) != 0) (some [.v (.bool true)]) (br (decide (b.n ≤ 1000) && ina l.n b.n (winOf l 0 l.n)) (br (decide (0 + b.n ≤ 1000)) (br (!zrB (af (winOf b 0 b.n) (winOf l 0 l.n))) (some [.v (.bool true)]) (some [.v (.bool (decide (((Se.stR (winOf b 0 b.n)).n : Int) ≤ l.n)))])) none) none)))) none) none))) none)) := by kernel_rfl
theorem Nz.sum {b : Row} (h : ckE b = 0) {rest : Nat} (hz : Nz b rest) : rest < 2 ^ b.n ∧ Sg b rest = 0 := by
  obtain ⟨hf, hn, ht⟩ := ck_fit h
  refine ⟨Nat.lt_pow_two_of_testBit rest fun i hi => by rw [hz, decide_eq_false (show ¬ i < b.n by omega)]; rfl, ?_⟩
  unfold Sg
  rw [sM_tot fun i hi hb => ?_]
  · exact ht
  · rw [hz, decide_eq_true hi, Bool.true_and] at hb
    exact Classical.not_not.1 (of_decide_eq_false hb)
theorem mN_pos {b : Row} (h : ckE b = 0) {rest : Nat} (hz : Nz b rest) : (rest = 0 ∧ mN b rest = 0) ∨ 1 ≤ mN b rest := by
  obtain ⟨hl, hs⟩ := Nz.sum h hz
  have hg := most_good (ck_fit h).1 hl
  by_cases h0 : rest = 0
  · exact .inl ⟨h0, hg.zero h0⟩
  · exact .inr (hg.pos h0 hs).1
theorem pc_zero {n : Nat} : pc 0 n = 0 := cntB_none fun q _ => Nat.zero_testBit q
theorem law_fewest' (b l : Row) (hbn : (winOf b 0 b.n).n = b.n) : evF C20 6 4 [.slice ks1 b, .slice Lg.ks3 l] = some [.v (.bool true)] := by
  refine (tfewest b l).trans ?_
  generalize winOf b 0 b.n = w at *
  rw [← hbn]
  by_cases hk : ckE w = 0
  · obtain ⟨hf, hn, _⟩ := ck_fit hk
    have hf1 := hf.1
    rw [show (ckE w != 0) = false by simpa using hk, br_false]
    by_cases hl : (l.n : Int) > 200
    · rw [decide_eq_true hl, br_true]
    · obtain ⟨s1, rest, s2, s3, s4, s5, s6⟩ := settle_ok hk
      have hm := mN_pos hk s2
      have hpc : pc rest w.n ≤ w.n := cntB_bound
      have hps : pl (sR w) = pl (Se.stR w) := rfl
      have hsn : (sR w).n = (Se.stR w).n := winOf_n
      have hlen : (Se.stR w).n < w.n ∧ (Se.stR w).n ≤ 200 := by
        rcases hm with ⟨h1, h2⟩ | h2
        · subst h1
          rw [pc_zero] at s5
          omega
        · omega
      have hc1 : Lg.chk w.n (sR w) = 0 := (chk_iff _ _).2 ⟨⟨by omega, by omega⟩, by rw [hsn]; omega, fun x hx => by rw [hps] at hx; exact s3 x hx⟩
      have hin : ∀ r : Row, Lg.chk w.n r = 0 → (decide (w.n ≤ 1000) && ina r.n w.n r) = true := fun r hr => by
        obtain ⟨_, _, h3, h4⟩ := Lg.chk_zero (n := (w.n : Int)) (r := r) (by rw [hr]; rfl)
        unfold ina
        rw [decide_eq_true (show w.n ≤ 1000 by omega), decide_eq_true (show r.n ≤ 1000 by omega), h4]
        rfl
      have haf : ∀ r : Row, Lg.chk w.n r = 0 → ∀ p, (af w r).I p 0 = w.I p 0 + bl (pl r) p := fun r hr p => by
        obtain ⟨_, h2, h3⟩ := (chk_iff _ _).1 hr
        exact af_I hf h2 h3 p
      have hafn : ∀ r, (af w r).n = w.n := fun r => by
        have : (af w r).n = 0 + w.n := winOf_n
        omega
      have hz1 : zrB (af w (sR w)) = true := zr_iff.2 fun p hp => by
        rw [hafn] at hp
        rw [haf _ hc1, hps]
        exact s4 p hp
      rw [decide_eq_false hl, br_false, s1, br_true, br_false, show (Lg.chk w.n (sR w) != 0) = false by rw [hc1]; rfl, br_false, hin _ hc1, br_true, Nat.zero_add, decide_eq_true (show w.n ≤ 1000 by omega), br_true, hz1,
        show (!true) = false from rfl, br_false, decide_eq_false (show ¬ ((Se.stR w).n : Int) ≥ (w.n : Int) by omega), br_false]
      by_cases hc : Lg.chk w.n (winOf l 0 l.n) = 0
      · have hi := hin _ hc
        rw [show (winOf l 0 l.n).n = l.n from winOf_n] at hi
        rw [show (Lg.chk w.n (winOf l 0 l.n) != 0) = false by rw [hc]; rfl, br_false]
        rw [decide_eq_true (show w.n ≤ 1000 by omega)] at hi
        rw [hi, br_true, br_true]
        cases hz : zrB (af w (winOf l 0 l.n))
        · rw [show (!false) = true from rfl, br_true]
        · have hz' := zr_iff.1 hz
          obtain ⟨_, h2, h3⟩ := (chk_iff _ _).1 hc
          have hfew := fewest hf s2 h3 (fun p hp => by
            rw [← haf _ hc]
            exact hz' p (by rw [hafn]; exact hp))
          have hll : (pl (winOf l 0 l.n)).length = l.n := by
            rw [pl_win, List.length_map, List.length_range]
          rw [hll] at hfew
          rw [show (!true) = false from rfl, br_false, decide_eq_true (show ((Se.stR w).n : Int) ≤ l.n by unfold pc at s5; omega)]
      · rw [show (Lg.chk w.n (winOf l 0 l.n) != 0) = true by simpa using hc, br_true]
  · rw [show (ckE w != 0) = true by simpa using hk, br_true]
theorem law_fewest (b l : Row) : evF C20 6 4 [.slice ks1 b, .slice Lg.ks3 l] = some [.v (.bool true)] := law_fewest' b l winOf_n
end Go.Proofs.YtpblmkephkhlkaaDoor.Fw

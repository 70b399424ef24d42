/- LedgerNames: ten balances in five pairs. No conditions. -/
import Derived.Test.YtpblmkephkhlkaaDoorE21
namespace Go.Proofs.YtpblmkephkhlkaaDoor.Nm
open Go.Ev Go.Proofs.YtpblmkephkhlkaaDoor.Mk
set_option linter.all false
theorem cntB_two {e e1 e2 : Nat → Bool} : ∀ {Q}, (∀ q, q < Q → (if e q = true then 1 else 0 : Nat) = (if e1 q = true then 1 else 0) + (if e2 q = true then 1 else 0)) → cntB e Q = cntB e1 Q + cntB e2 Q
  | 0, _ => rfl
  | Q + 1, h => by
    unfold cntB
    rw [cntB_two (Q := Q) (fun q hq => h q (by omega)), h Q (by omega)]
    omega
theorem pc_add {t h n : Nat} (hs : h &&& t = h) : pc t n = pc (t ^^^ h) n + pc h n := by
  unfold pc
  refine cntB_two fun q _ => ?_
  rw [Nat.testBit_xor]
  cases h1 : h.testBit q
  · cases h2 : t.testBit q <;> rfl
  · rw [sub_bit hs h1]; rfl
theorem pc_two {b : Row} (hf : Fit b) (hz : ∀ i, i < b.n → b.I i 0 ≠ 0) {t : Nat} (ht : t < 2 ^ b.n) (h0 : t ≠ 0) (h1 : Sg b t = 0) : 2 ≤ pc t b.n := by
  have hp : 2 ^ b.n ≤ 2 ^ 10 := Nat.pow_le_pow_right (by decide) hf.1
  obtain ⟨l1, l2, l3⟩ := low_bits h0 (by omega)
  have hl := Sg_low hf h0 ht
  have hb := bit_lt ht l1
  have hne : t &&& (t - 1) ≠ 0 := fun he => by
    have : Sg b 0 = 0 := by unfold Sg; exact sM_zero
    rw [he] at hl
    have := hz _ hb
    omega
  have hle : t &&& (t - 1) ≤ t := Nat.and_le_left
  have k1 : 1 ≤ pc (t &&& (t - 1)) b.n := by
    have := pc_xor (t := t &&& (t - 1)) (n := b.n) (by omega) (Nat.and_self _) hne
    omega
  have k2 : pc (t &&& (t - 1)) b.n + 1 ≤ pc t b.n := cntB_lt (q0 := ctzN t) (fun q _ hq => by
    rw [l3] at hq
    simp only [Bool.and_eq_true] at hq
    exact hq.1) hb (by rw [l3]; simp) l1
  omega
theorem mN_half {b : Row} (hf : Fit b) (hz : ∀ i, i < b.n → b.I i 0 ≠ 0) : ∀ N t, t ≤ N → t < 2 ^ b.n → 2 * mN b t ≤ (pc t b.n : Nat) := by
  intro N
  induction N with
  | zero =>
    intro t hN ht
    have := (most_good hf ht).zero (by omega)
    omega
  | succ N ih =>
    intro t hN ht
    have hg := most_good hf ht
    by_cases h0 : t = 0
    · have := hg.zero h0; omega
    · by_cases h1 : Sg b t = 0
      · have h2 := pc_two hf hz ht h0 h1
        rcases hg.att h0 h1 with h | ⟨h, a, c, d, e, f, k⟩
        · omega
        · have h3 := xor_lt c a
          have h4 := ih (t ^^^ h) (by omega) (by omega)
          have h5 := pc_add (t := t) (h := h) (n := b.n) c
          have h6 := pc_two hf hz (Nat.lt_of_le_of_lt (sub_le c) ht) a f
          omega
      · have := hg.neg h0 h1; omega
theorem bst_one {b : Row} (hf : Fit b) {rest r : Nat} (ht : rest < 2 ^ b.n) (h0 : rest ≠ 0) (hz : Sg b rest = 0)
    (hu : ∀ h, h < 2 ^ b.n → h ≠ 0 → h &&& rest = h → h &&& lowN rest ≠ 0 → Sg b h = 0 → mN b (rest ^^^ h) = mN b rest - 1 → h = r) :
    bst (mostR b) rest (lowN rest) (rest + 1) rest 0 = r ∧ mN b (rest ^^^ r) = mN b rest - 1 ∧ Sg b (rest ^^^ r) = 0 := by
  obtain ⟨k1, k2, k3⟩ := bst_cand (m := mostR b) (rest := rest) (low := lowN rest) (rest + 1) rest 0 (Nat.and_self _) (by omega) (.inl rfl)
  obtain ⟨h, hc⟩ := cand_ex hf ht h0 hz
  have hr := k1.resolve_left (k3 h hc (sub_le hc.2.1))
  generalize bst (mostR b) rest (lowN rest) (rest + 1) rest 0 = x at hr ⊢
  obtain ⟨r0, rs, rl, rm, rx⟩ := hr
  have hrl : x < 2 ^ b.n := Nat.lt_of_le_of_lt (sub_le rs) ht
  have hrz : Sg b x = 0 := Classical.not_not.1 fun hne => by
    have := (most_good hf hrl).neg r0 hne
    unfold mN at this
    omega
  have hx : mN b (rest ^^^ x) = mN b rest - 1 := by rw [wi_m hf ht] at rx; exact rx
  have he := hu x hrl r0 rs rl hrz hx
  subst he
  refine ⟨rfl, hx, ?_⟩
  have : Sg b (rest ^^^ x) = Sg b rest - Sg b x := sM_xor rs
  omega
theorem sM_congr {f g : Nat → Int} {s : Nat} : ∀ {n : Nat}, (∀ i, i < n → f i = g i) → sM f s n = sM g s n
  | 0, _ => rfl
  | n + 1, h => by
    unfold sM
    rw [sM_congr (n := n) (fun i hi => h i (by omega)), h n (by omega)]
/-- The ten balances. -/
def tenL (i : Nat) : Int := match i with | 0 => 1 | 1 => 2 | 2 => 3 | 3 => 4 | 4 => 5 | 5 => -5 | 6 => -4 | 7 => -3 | 8 => -2 | 9 => -1 | _ => 0
def tenG (i : Nat) : Int := match i with | 0 => 0 | 1 => 1 | 2 => 2 | 3 => 3 | 4 => 4 | 5 => 4 | 6 => 3 | 7 => 2 | 8 => 1 | 9 => 0 | _ => 0
structure Ten (b : Row) : Prop where
  n : b.n = 10
  v : ∀ i, i < 10 → b.I i 0 = tenL i
def stepB (rest k r h : Nat) : Bool := Nat.beq h 0 || !Nat.beq (h &&& rest) h || Nat.beq (h &&& lowN rest) 0 || sM tenL h 10 != 0 || !Nat.ble (2 * k) (pc (rest ^^^ h) 10) || Nat.beq h r
def allB (p : Nat → Bool) : Nat → Bool
  | 0 => true
  | n + 1 => p n && allB p n
theorem allB_spec {p : Nat → Bool} : ∀ {n}, allB p n = true → ∀ i, i < n → p i = true
  | 0, _, i, hi => by omega
  | n + 1, h, i, hi => by
    unfold allB at h
    rw [Bool.and_eq_true] at h
    by_cases hin : i = n
    · rw [hin]; exact h.1
    · exact allB_spec h.2 i (by omega)
theorem Ten.sg {b : Row} (h : Ten b) (s : Nat) : Sg b s = sM tenL s 10 := by
  unfold Sg
  rw [h.n]
  exact sM_congr fun i hi => h.v i hi
theorem Ten.fit {b : Row} (h : Ten b) : Fit b := ⟨by rw [h.n]; exact Nat.le_refl _, fun i hi => by
  rw [h.n] at hi
  rw [h.v i hi]
  have : i = 0 ∨ i = 1 ∨ i = 2 ∨ i = 3 ∨ i = 4 ∨ i = 5 ∨ i = 6 ∨ i = 7 ∨ i = 8 ∨ i = 9 := by omega
  rcases this with rfl | rfl | rfl | rfl | rfl | rfl | rfl | rfl | rfl | rfl <;> decide⟩
theorem Ten.nz {b : Row} (h : Ten b) (i : Nat) (hi : i < b.n) : b.I i 0 ≠ 0 := by
  rw [h.n] at hi
  rw [h.v i hi]
  have : i = 0 ∨ i = 1 ∨ i = 2 ∨ i = 3 ∨ i = 4 ∨ i = 5 ∨ i = 6 ∨ i = 7 ∨ i = 8 ∨ i = 9 := by omega
  rcases this with rfl | rfl | rfl | rfl | rfl | rfl | rfl | rfl | rfl | rfl <;> decide
theorem Ten.step {b : Row} (h : Ten b) {rest k r : Nat} (h0 : rest ≠ 0) (ht : rest < 1024) (hz : Sg b rest = 0) (hm : mN b rest = (k : Int) + 1) (hb : allB (stepB rest k r) 1024 = true) :
    bst (mostR b) rest (lowN rest) (rest + 1) rest 0 = r ∧ mN b (rest ^^^ r) = k ∧ Sg b (rest ^^^ r) = 0 := by
  have h2 : 2 ^ b.n = 1024 := by rw [h.n]
  obtain ⟨k1, k2, k3⟩ := bst_one (r := r) h.fit (by omega) h0 hz fun g g1 g2 g3 g4 g5 g6 => by
    have hs := allB_spec hb g (by omega)
    have hh := mN_half h.fit h.nz _ (rest ^^^ g) (Nat.le_refl _) (Nat.lt_of_le_of_lt (xor_le g3) (by omega))
    unfold stepB at hs
    rw [h.n] at hh
    have hle : 2 * k ≤ pc (rest ^^^ g) 10 := by omega
    have e1 : Nat.beq g 0 = false := by
      cases hx : Nat.beq g 0
      · rfl
      · exact absurd (Nat.eq_of_beq_eq_true hx) g2
    have e2 : Nat.beq (g &&& rest) g = true := by rw [g3]; exact Nat.beq_refl g
    have e3 : Nat.beq (g &&& lowN rest) 0 = false := by
      cases hx : Nat.beq (g &&& lowN rest) 0
      · rfl
      · exact absurd (Nat.eq_of_beq_eq_true hx) g4
    have e4 : (sM tenL g 10 != 0) = false := by rw [← h.sg, g5]; rfl
    rw [e1, e2, e3, e4, Nat.ble_eq_true_of_le hle] at hs
    exact Nat.eq_of_beq_eq_true (by simpa using hs)
  exact ⟨k1, by omega, k3⟩
theorem st1 : allB (stepB 1023 4 513) 1024 = true := by kernel_rfl
theorem st2 : allB (stepB 510 3 258) 1024 = true := by kernel_rfl
theorem st3 : allB (stepB 252 2 132) 1024 = true := by kernel_rfl
theorem st4 : allB (stepB 120 1 72) 1024 = true := by kernel_rfl
theorem st5 : allB (stepB 48 0 48) 1024 = true := by kernel_rfl
def tenC (i : Nat) : Nat := if i < 5 then i else 9 - i
theorem Ten.most {b : Row} (h : Ten b) : mN b 1023 = 5 := by
  have h2 : 2 ^ b.n = 1024 := by rw [h.n]
  have hh := mN_half h.fit h.nz _ 1023 (Nat.le_refl _) (by omega)
  have hl := (lab_le (b := b) h.fit (c := tenC) (fun i hi => by rw [h.n] at hi ⊢; unfold tenC; split <;> omega) 1023 1023 (Nat.le_refl _) (by omega) (fun q => by
    rw [h.sg, h.n]
    by_cases hq : q < 10
    · have : q = 0 ∨ q = 1 ∨ q = 2 ∨ q = 3 ∨ q = 4 ∨ q = 5 ∨ q = 6 ∨ q = 7 ∨ q = 8 ∨ q = 9 := by omega
      rcases this with rfl | rfl | rfl | rfl | rfl | rfl | rfl | rfl | rfl | rfl <;> decide
    · rw [show clM tenC 1023 q 10 = 0 from Nat.eq_of_testBit_eq fun i => by
        rw [clM_bit, Nat.zero_testBit]
        by_cases hi : i < 10
        · rw [decide_eq_false (show ¬ tenC i = q by unfold tenC; split <;> omega), Bool.and_false, Bool.and_false]
        · rw [decide_eq_false hi, Bool.false_and]]
      exact sM_zero)).2
  rw [h.n] at hh hl
  have e1 : pc 1023 10 = 10 := by decide
  have e2 : cntB (use tenC 1023 10) 10 = 5 := by decide
  rw [e1] at hh
  rw [e2] at hl
  omega
theorem grS_succ {m : Row} {n f rest : Nat} {g : Nat} {o : Row} {r rest' g' : Nat} (h0 : rest ≠ 0) (hr : bst m rest (lowN rest) (rest + 1) rest 0 = r) (hx : rest ^^^ r = rest') (hg : g + 1 = g') : grS m n (f + 1) rest g o = grS m n f rest' g' (asR r g n 0 o) := by
  subst hx
  subst hg
  rw [grS, if_neg h0]
  show grS m n f (rest ^^^ bst m rest (lowN rest) (rest + 1) rest 0) (g + 1) (asR (bst m rest (lowN rest) (rest + 1) rest 0) g n 0 o) = _
  rw [hr]
theorem Ten.groups {b : Row} (h : Ten b) : gpC b = true ∧ (gpR b).n = 10 ∧ ∀ i, i < 10 → (gpR b).I i 0 = tenG i := by
  have hn := h.n
  have hck : ckE b = 0 := by
    have hL : ∀ m j (s : Int), j + m = 10 → ckL b m j s = ckL (Row.mk 10 (fun i _ => tenL i) (fun _ _ => false) (fun _ _ => .empty) (fun _ _ => .nil)) m j s := by
      intro m
      induction m with
      | zero => intro j s _; rfl
      | succ m ih =>
        intro j s hj
        unfold ckL
        rw [h.v j (by omega), ih (j + 1) _ (by omega)]
        rfl
    unfold ckE ckB ckS
    rw [hn, if_neg (by omega), hL 10 0 0 rfl, if_neg (by decide)]
  obtain ⟨r1, r2, r3⟩ := rsR_I b b.n 0 (0, Row.zeros b.n)
  have hrest : (rsR b b.n 0 (0, Row.zeros b.n)).1 = 1023 := Nat.eq_of_testBit_eq fun i => by
    rw [r2, Nat.zero_testBit, Bool.false_or]
    by_cases hi : i < 10
    · rw [decide_eq_true (show 0 ≤ i ∧ i < 0 + b.n by omega), decide_eq_true (h.nz i (by omega))]
      have : i = 0 ∨ i = 1 ∨ i = 2 ∨ i = 3 ∨ i = 4 ∨ i = 5 ∨ i = 6 ∨ i = 7 ∨ i = 8 ∨ i = 9 := by omega
      rcases this with rfl | rfl | rfl | rfl | rfl | rfl | rfl | rfl | rfl | rfl <;> decide
    · rw [decide_eq_false (show ¬ (0 ≤ i ∧ i < 0 + b.n) by omega), Bool.false_and, Nat.testBit_lt_two_pow (Nat.lt_of_lt_of_le (show 1023 < 2 ^ 10 by decide) (Nat.pow_le_pow_right (by decide) (by omega)))]
  have hz : Sg b 1023 = 0 := by rw [h.sg]; decide
  obtain ⟨a1, a2, a3⟩ := h.step (k := 4) (by decide) (by decide) hz h.most st1
  obtain ⟨b1, b2, b3⟩ := h.step (rest := 510) (k := 3) (by decide) (by decide) a3 a2 st2
  obtain ⟨c1, c2, c3⟩ := h.step (rest := 252) (k := 2) (by decide) (by decide) b3 b2 st3
  obtain ⟨d1, d2, d3⟩ := h.step (rest := 120) (k := 1) (by decide) (by decide) c3 c2 st4
  obtain ⟨e1, e2, e3⟩ := h.step (rest := 48) (k := 0) (by decide) (by decide) d3 d2 st5
  have hgo : gpO b = some (asR 48 4 10 0 (asR 72 3 10 0 (asR 132 2 10 0 (asR 258 1 10 0 (asR 513 0 10 0 (rsR b b.n 0 (0, Row.zeros b.n)).2))))) := by
    unfold gpO
    rw [hrest, hn, grS_succ (f := 63) (rest' := 510) (g' := 1) (by decide) a1 (by decide) rfl, grS_succ (f := 62) (rest' := 252) (g' := 2) (by decide) b1 (by decide) rfl, grS_succ (f := 61) (rest' := 120) (g' := 3) (by decide) c1 (by decide) rfl, grS_succ (f := 60) (rest' := 48) (g' := 4) (by decide) d1 (by decide) rfl, grS_succ (f := 59) (rest' := 0) (g' := 5) (by decide) e1 (by decide) rfl]
    rw [grS, if_pos rfl]
    rfl
  have hgr : gpR b = winOf (asR 48 4 10 0 (asR 72 3 10 0 (asR 132 2 10 0 (asR 258 1 10 0 (asR 513 0 10 0 (rsR b b.n 0 (0, Row.zeros b.n)).2))))) 0 10 := by
    unfold gpR
    rw [if_neg (fun h => h hck), hgo, hn]
  refine ⟨by unfold gpC; rw [hgo]; simp, by rw [hgr]; rfl, fun i hi => ?_⟩
  rw [hgr]
  show Row.I (asR 48 4 10 0 _) i 0 = _
  rw [(asR_I 48 4 10 0 _).2, (asR_I 72 3 10 0 _).2, (asR_I 132 2 10 0 _).2, (asR_I 258 1 10 0 _).2, (asR_I 513 0 10 0 _).2]
  have : i = 0 ∨ i = 1 ∨ i = 2 ∨ i = 3 ∨ i = 4 ∨ i = 5 ∨ i = 6 ∨ i = 7 ∨ i = 8 ∨ i = 9 := by omega
  rcases this with rfl | rfl | rfl | rfl | rfl | rfl | rfl | rfl | rfl | rfl <;> simp (config := { decide := true }) only [if_true, if_false, ite_true, ite_false] <;> rfl
end Go.Proofs.YtpblmkephkhlkaaDoor.Nm

/- Division of 128 bits by 64: the two loops that mend a digit. No conditions. -/
import Derived.Test.YtofkkhdmjllcfaaR12
namespace Go.Proofs.Ytofkkhdmjllcfaa
open Go.Ev
set_option linter.all false
theorem q_mul (q a b : Int) : q * (a * 4294967296 + b) = q * a * 4294967296 + q * b := by rw [Int.mul_add, ← Int.mul_assoc]
/-- The guess q of a digit, and what it leaves. -/
def dvP (y a b u c q r : Int) : Prop := (0 ≤ b ∧ b < 4294967296) ∧ (2147483648 ≤ a ∧ a < 4294967296) ∧ y = a * 4294967296 + b ∧ (0 ≤ u ∧ u < y) ∧ (0 ≤ c ∧ c < 4294967296) ∧ q * a + r = u ∧ (0 ≤ r ∧ r < 4294967296) ∧ (u * 4294967296 + c) / y ≤ q ∧ q ≤ 4294967297
instance {y a b u c q r : Int} : Decidable (dvP y a b u c q r) := by unfold dvP; infer_instance
def dvB (y a b u c q r : Int) : Bool := decide (dvP y a b u c q r)
theorem qs_lt {y u c : Int} (h0 : 0 ≤ u) (h1 : u < y) (h2 : 0 ≤ c) (h3 : c < 4294967296) : 0 ≤ (u * 4294967296 + c) / y ∧ (u * 4294967296 + c) / y < 4294967296 := by
  constructor
  · exact Int.ediv_nonneg (by omega) (by omega)
  · rw [Int.ediv_lt_iff_lt_mul (by omega)]
    omega
theorem go_div {f : St → (X → St → Option (List D)) → Option (List D)} {lv : List Tmp} {lx : Option (List Tmp)} {S : Int → Int → St} {Sx : Int → St} {e : Nat} {y a b u c : Int}
    (hr : ∀ q r R K, f (S q r) (rnd lv lx R K) = br (decide (q ≥ 4294967296)) (br (decide (IntKind.u64.wrap (r + a) ≥ 4294967296)) (K (.exit e) (Sx (IntKind.u64.wrap (q - 1)))) (R (S (IntKind.u64.wrap (q - 1)) (IntKind.u64.wrap (r + a)))))
      (br (decide (IntKind.u64.wrap (q * b) > IntKind.u64.wrap (IntKind.u64.wrap (4294967296 * r) + c))) (br (decide (IntKind.u64.wrap (r + a) ≥ 4294967296)) (K (.exit e) (Sx (IntKind.u64.wrap (q - 1)))) (R (S (IntKind.u64.wrap (q - 1)) (IntKind.u64.wrap (r + a))))) (K (.exit e) (Sx q))))
    (K : X → St → Option (List D)) : ∀ (n : Nat) (q r : Int), dvP y a b u c q r → q < (u * 4294967296 + c) / y + n → rounds lv lx f n (S q r) K = K (.exit e) (Sx ((u * 4294967296 + c) / y))
  | 0, q, r, h, hn => by
    obtain ⟨_, _, _, _, _, _, _, h8, _⟩ := h
    omega
  | n + 1, q, r, h, hn => by
    obtain ⟨⟨b0, b1⟩, ⟨a0, a1⟩, hy, ⟨u0, u1⟩, ⟨c0, c1⟩, hq, ⟨r0, r1⟩, h8, h9⟩ := h
    obtain ⟨s0, s1⟩ := qs_lt u0 u1 c0 c1
    have hle : ∀ t, t ≤ (u * 4294967296 + c) / y ↔ t * y ≤ u * 4294967296 + c := fun t => Int.le_ediv_iff_mul_le (by omega)
    generalize hs : (u * 4294967296 + c) / y = qs at *
    have e1 := hle q
    have e2 := hle (q - 1)
    have m1 : q * y = q * a * 4294967296 + q * b := by rw [hy, q_mul]
    have m2 : (q - 1) * y = q * a * 4294967296 + q * b - y := by rw [Int.sub_mul, m1, Int.one_mul]
    have m3 : (q - 1) * a = q * a - a := by rw [Int.sub_mul, Int.one_mul]
    have m4 : (q - 1) * b = q * b - b := by rw [Int.sub_mul, Int.one_mul]
    have hdec : qs ≤ q - 1 → 1 ≤ q → rounds lv lx f (n + 1) (S q r) K = br (decide (IntKind.u64.wrap (r + a) ≥ 4294967296)) (K (.exit e) (Sx (IntKind.u64.wrap (q - 1)))) (rounds lv lx f n (S (IntKind.u64.wrap (q - 1)) (IntKind.u64.wrap (r + a))) K) → rounds lv lx f (n + 1) (S q r) K = K (.exit e) (Sx qs) := by
      intro k1 k2 k3
      rw [k3, wrapU_id (n := r + a) (by omega) (by omega), wrapU_id (n := q - 1) (by omega) (by omega)]
      by_cases h2 : r + a ≥ 4294967296
      · have k4 : (q - 1) * b ≤ 4294967296 * 4294967295 := Int.mul_le_mul (by omega) (by omega) b0 (by decide)
        have k5 : q - 1 ≤ qs := e2.mpr (by omega)
        rw [decide_eq_true h2, br_true, show q - 1 = qs by omega]
      · rw [decide_eq_false h2, br_false, ← hs]
        exact go_div hr K n (q - 1) (r + a) ⟨⟨b0, b1⟩, ⟨a0, a1⟩, hy, ⟨u0, u1⟩, ⟨c0, c1⟩, by omega, ⟨by omega, by omega⟩, by omega, by omega⟩ (by omega)
    by_cases h1 : q ≥ 4294967296
    · exact hdec (by omega) (by omega) (by rw [rnds1, hr, decide_eq_true h1, br_true])
    · have z0 : 0 ≤ q * b := Int.mul_nonneg (by omega) b0
      have z1 : q * b ≤ 4294967295 * 4294967295 := Int.mul_le_mul (by omega) (by omega) b0 (by decide)
      have w1 : IntKind.u64.wrap (q * b) = q * b := wrapU_id (by omega) (by omega)
      have w2 : IntKind.u64.wrap (IntKind.u64.wrap (4294967296 * r) + c) = 4294967296 * r + c := by rw [wrapU_id (n := 4294967296 * r) (by omega) (by omega), wrapU_id (by omega) (by omega)]
      by_cases h2 : q * b > 4294967296 * r + c
      · exact hdec (by omega) (by omega) (by rw [rnds1, hr, decide_eq_false h1, br_false, w1, w2, decide_eq_true h2, br_true])
      · rw [rnds1, hr, decide_eq_false h1, br_false, w1, w2, decide_eq_false h2, br_false, show q = qs by omega]
def S17 (y s a b u c d q r : Int) : St := ⟨us 2 ++ [.int .u64 y] ++ us 5 ++ [.int .u64 s, .int .u64 a, .int .u64 b, .int .u64 u] ++ us 1 ++ [.int .u64 c, .int .u64 d, .int .u64 q, .int .u64 r] ++ us 118, [[]], []⟩
def S17x (y s a b u c d q : Int) : St := ⟨us 2 ++ [.int .u64 y] ++ us 5 ++ [.int .u64 s, .int .u64 a, .int .u64 b, .int .u64 u] ++ us 1 ++ [.int .u64 c, .int .u64 d, .int .u64 q] ++ us 119, [[]], []⟩
def G17 (cd : Int → Int → Int → Int → Int → Int → Int → Bool) : List It → (X → St → Option (List D)) → Option (List D)
  | [.i y, .i s, .i a, .i b, .i u, .i c, .i d, .i q, .i r], k => br (cd y a b u c q r) (k (.exit 0) (S17x y s a b u c d ((u * 4294967296 + c) / y))) none
  | _, _ => none
def l17 (cd : Int → Int → Int → Int → Int → Int → Int → Bool) : LoopC where
  f := 34
  id := 17
  lv := [2, 8, 9, 10, 11, 13, 14, 15, 16]
  lx := [2, 6, 7, 8, 9, 10, 11, 13, 14, 15]
  p := { τ := pu 2 ++ [.v (.int .u64)] ++ pu 5 ++ [.v (.int .u64), .v (.int .u64), .v (.int .u64), .v (.int .u64)] ++ pu 1 ++ [.v (.int .u64), .v (.int .u64), .v (.int .u64), .v (.int .u64)] ++ pu 118, saved := [[]], mem := [] }
  G := G17 cd
def S24 (y s a b d q1 r u q : Int) : St := ⟨us 2 ++ [.int .u64 y] ++ us 5 ++ [.int .u64 s, .int .u64 a, .int .u64 b] ++ us 3 ++ [.int .u64 d, .int .u64 q1, .int .u64 r, .int .u64 u, .int .u64 q] ++ us 116, [[]], []⟩
def S24x (y s d q1 u q : Int) : St := ⟨us 2 ++ [.int .u64 y] ++ us 5 ++ [.int .u64 s] ++ us 5 ++ [.int .u64 d, .int .u64 q1] ++ us 1 ++ [.int .u64 u, .int .u64 q] ++ us 116, [[]], []⟩
def G24 (cd : Int → Int → Int → Int → Int → Int → Int → Bool) : List It → (X → St → Option (List D)) → Option (List D)
  | [.i y, .i s, .i a, .i b, .i d, .i q1, .i r, .i u, .i q], k => br (cd y a b u d q r) (k (.exit 2) (S24x y s d q1 u ((u * 4294967296 + d) / y))) none
  | _, _ => none
def l24 (cd : Int → Int → Int → Int → Int → Int → Int → Bool) : LoopC where
  f := 34
  id := 24
  lv := [2, 8, 9, 10, 14, 15, 16, 17, 18]
  lx := [2, 6, 7, 8, 14, 15, 17, 18]
  p := { τ := pu 2 ++ [.v (.int .u64)] ++ pu 5 ++ [.v (.int .u64), .v (.int .u64), .v (.int .u64)] ++ pu 3 ++ [.v (.int .u64), .v (.int .u64), .v (.int .u64), .v (.int .u64), .v (.int .u64)] ++ pu 116, saved := [[]], mem := [] }
  G := G24 cd
/-- The loops' conditions stay open here: else the kernel reckons with them. -/
noncomputable def C8g (cd : Int → Int → Int → Int → Int → Int → Int → Bool) : Cx := mkCx Try.prog fns [(45, Flz)] [l17 cd, l24 cd]
noncomputable def C8 : Cx := C8g dvB
theorem round17 (p : Nat) (R : St → Option (List D)) (K : X → St → Option (List D)) (y s a b u c d q r : Int) : evCode C8 34 true (inl C8 (p + 4)) (lbody C8.P 34 17) (S17 y s a b u c d q r) (rnd [2, 8, 9, 10, 11, 13, 14, 15, 16] (some [2, 6, 7, 8, 9, 10, 11, 13, 14, 15]) R K) =
    br (decide (q ≥ 4294967296)) (br (decide (IntKind.u64.wrap (r + a) ≥ 4294967296)) (K (.exit 0) (S17x y s a b u c d (IntKind.u64.wrap (q - 1)))) (R (S17 y s a b u c d (IntKind.u64.wrap (q - 1)) (IntKind.u64.wrap (r + a)))))
      (br (decide (IntKind.u64.wrap (q * b) > IntKind.u64.wrap (IntKind.u64.wrap (4294967296 * r) + c))) (br (decide (IntKind.u64.wrap (r + a) ≥ 4294967296)) (K (.exit 0) (S17x y s a b u c d (IntKind.u64.wrap (q - 1)))) (R (S17 y s a b u c d (IntKind.u64.wrap (q - 1)) (IntKind.u64.wrap (r + a))))) (K (.exit 0) (S17x y s a b u c d q))) := by kernel_rfl
theorem round24 (p : Nat) (R : St → Option (List D)) (K : X → St → Option (List D)) (y s a b d q1 r u q : Int) : evCode C8 34 true (inl C8 (p + 4)) (lbody C8.P 34 24) (S24 y s a b d q1 r u q) (rnd [2, 8, 9, 10, 14, 15, 16, 17, 18] (some [2, 6, 7, 8, 14, 15, 17, 18]) R K) =
    br (decide (q ≥ 4294967296)) (br (decide (IntKind.u64.wrap (r + a) ≥ 4294967296)) (K (.exit 2) (S24x y s d q1 u (IntKind.u64.wrap (q - 1)))) (R (S24 y s a b d q1 (IntKind.u64.wrap (r + a)) u (IntKind.u64.wrap (q - 1)))))
      (br (decide (IntKind.u64.wrap (q * b) > IntKind.u64.wrap (IntKind.u64.wrap (4294967296 * r) + d))) (br (decide (IntKind.u64.wrap (r + a) ≥ 4294967296)) (K (.exit 2) (S24x y s d q1 u (IntKind.u64.wrap (q - 1)))) (R (S24 y s a b d q1 (IntKind.u64.wrap (r + a)) u (IntKind.u64.wrap (q - 1))))) (K (.exit 2) (S24x y s d q1 u q))) := by kernel_rfl
set_option maxRecDepth 100000 in
theorem loop17 : LoopOk C8 (l17 dvB) := ⟨by kernel_rfl, fun q its k rr h => by
  show rounds [2, 8, 9, 10, 11, 13, 14, 15, 16] (some [2, 6, 7, 8, 9, 10, 11, 13, 14, 15]) (evCode C8 34 true (inl C8 (q + 4)) (lbody C8.P 34 17)) 18446744073709551616 (bst (l17 dvB).p its) k = some rr
  change G17 dvB its k = some rr at h
  unfold G17 at h
  split at h
  · rename_i y s a b u c d q0 r
    rcases br_some h with ⟨h1, h2⟩ | ⟨_, h2⟩
    · have h1 := of_decide_eq_true h1
      rw [← h2]
      have hs := (qs_lt h1.2.2.2.1.1 h1.2.2.2.1.2 h1.2.2.2.2.1.1 h1.2.2.2.2.1.2).1
      have hq := h1.2.2.2.2.2.2.2.2
      exact go_div (S := fun q r => S17 y s a b u c d q r) (Sx := fun q => S17x y s a b u c d q) (fun q' r' R K => round17 q R K y s a b u c d q' r') k 18446744073709551616 q0 r h1 (by omega)
    · cases h2
  · cases h⟩
set_option maxRecDepth 100000 in
theorem loop24 : LoopOk C8 (l24 dvB) := ⟨by kernel_rfl, fun q its k rr h => by
  show rounds [2, 8, 9, 10, 14, 15, 16, 17, 18] (some [2, 6, 7, 8, 14, 15, 17, 18]) (evCode C8 34 true (inl C8 (q + 4)) (lbody C8.P 34 24)) 18446744073709551616 (bst (l24 dvB).p its) k = some rr
  change G24 dvB its k = some rr at h
  unfold G24 at h
  split at h
  · rename_i y s a b d q1 r u q0
    rcases br_some h with ⟨h1, h2⟩ | ⟨_, h2⟩
    · have h1 := of_decide_eq_true h1
      rw [← h2]
      have hs := (qs_lt h1.2.2.2.1.1 h1.2.2.2.1.2 h1.2.2.2.2.1.1 h1.2.2.2.2.1.2).1
      have hq := h1.2.2.2.2.2.2.2.2
      exact go_div (S := fun q r => S24 y s a b d q1 r u q) (Sx := fun q => S24x y s d q1 u q) (fun q' r' R K => round24 q R K y s a b d q1 r' u q') k 18446744073709551616 q0 r h1 (by omega)
    · cases h2
  · cases h⟩
theorem C8_ok : CxOk C8 := mkCx_ok enter mixed (fun p h => by
  simp only [List.mem_cons, List.not_mem_nil, or_false] at h
  rcases h with rfl
  exact den_lz) (fun l h => by
  simp only [List.mem_cons, List.not_mem_nil, or_false] at h
  rcases h with rfl | rfl
  · exact loop17
  · exact loop24)
end Go.Proofs.Ytofkkhdmjllcfaa

/- Package ledger: the best grouping: contract. No conditions. -/
import Derived.Test.YtpblmkephkhlkaaDoorE6
namespace Go.Proofs.YtpblmkephkhlkaaDoor
open Go.Ev
set_option linter.all false
theorem sub_xor {r g : Nat} (h : g &&& r = g) : (r ^^^ g) &&& r = r ^^^ g := by
  apply Nat.eq_of_testBit_eq
  intro i
  have hi := congrArg (fun x => x.testBit i) h
  simp only [Nat.testBit_and, Nat.testBit_xor] at hi ⊢
  cases h1 : g.testBit i <;> cases h2 : r.testBit i <;> simp_all
theorem xor_le {r g : Nat} (h : g &&& r = g) : r ^^^ g ≤ r := by rw [← sub_xor h]; exact Nat.and_le_right
theorem sub_le {r g : Nat} (h : g &&& r = g) : g ≤ r := by rw [← h]; exact Nat.and_le_right
theorem bNegAnd (x : Nat) (hx : x < 9223372036854775808) : bAnd (x : Int) (wi (0 - (x : Int))) = ((x &&& (18446744073709551616 - x) : Nat) : Int) := by
  rw [wiN (by omega) (by omega), Int.zero_sub]
  by_cases h0 : x = 0
  · subst h0; rfl
  · have h1 : (BitVec.ofInt 64 (-(x : Int))).toNat = 18446744073709551616 - x := by
      rw [BitVec.toNat_ofInt]
      omega
    unfold bAnd
    have h : x &&& (18446744073709551616 - x) ≤ x := Nat.and_le_left
    rw [BitVec.toNat_and, ofI x (by omega), h1]
    exact wrap64 (by omega) (by omega)
theorem befN_eq (g h : Nat) (hg : g < 4611686018427387904) (hh : h < 4611686018427387904) : bef (g : Int) (h : Int) = befN g h := by
  unfold bef befN
  have hx : g ^^^ h < 2 ^ 62 := Nat.xor_lt_two_pow (by omega) (by omega)
  have hl : (g ^^^ h) &&& (18446744073709551616 - (g ^^^ h)) ≤ g ^^^ h := Nat.and_le_left
  rw [bXorN g h (by omega) (by omega), bNegAnd _ (by omega), bAndN _ g (by omega) (by omega)]
  generalize (g ^^^ h) &&& (18446744073709551616 - (g ^^^ h)) &&& g = x
  by_cases h0 : x = 0
  · subst h0; rfl
  · have hq : Nat.beq x 0 = false := by
      cases hx : Nat.beq x 0
      · rfl
      · exact absurd (Nat.eq_of_beq_eq_true hx) h0
    rw [hq]
    exact bne_iff_ne.mpr (by omega)
def in7 (_nb n n' : Nat) (m : Int) : Bool := decide (n = n' ∧ m = n ∧ n ≤ 60)
def in20 (nm : Nat) (rest low best g : Int) : Bool := decide (0 ≤ rest ∧ rest < nm ∧ nm ≤ 4611686018427387904 ∧ 0 ≤ low ∧ low < 4611686018427387904 ∧ best = 0 ∧ g = rest)
def in26 (no : Nat) (best c : Int) : Bool := decide (0 ≤ best ∧ best < 4611686018427387904 ∧ c = no ∧ no ≤ 60)
def gs15 (nb no nm : Nat) (rest : Int) (o m : Row) : Option Row := if 0 ≤ rest ∧ rest < nm ∧ nm ≤ 4611686018427387904 ∧ nb = no ∧ no ≤ 60 then grS m no 64 rest.toNat 0 o else none
noncomputable def C3 : Cx := C3g in7 in20 in26 gs15
theorem go7 {f : St → (X → St → Option (List D)) → Option (List D)} {lv : List Tmp} {lx : Option (List Tmp)} {nb n : Nat} {b : Row} (hn : n ≤ 60)
    (hr : ∀ (rest j : Int) (o : Row) R K, f (S7 nb n n n rest j b o) (rnd lv lx R K) = br (decide (j < (n : Int))) (br (decide (0 ≤ j) && decide (j < (n : Int))) (br (decide (0 ≤ j) && decide (j < (n : Int))) (br (b.I (0 + j.toNat) 0 != 0) (br (decide (j < 0)) none (R (S7 nb n n n (bOr rest (wi (1 * 2 ^ min j.toNat 64))) (wi (j + 1)) b (o.setI (0 + j.toNat) 0 (-1))))) (R (S7 nb n n n rest (wi (j + 1)) b (o.setI (0 + j.toNat) 0 (-1))))) none) none)
      (K (.exit 0) (S7x nb n rest b o))) (K : X → St → Option (List D)) :
    ∀ (m fu j rest : Nat) (o : Row), j + m = n → m < fu → rest < 2 ^ j → rounds lv lx f fu (S7 nb n n n rest j b o) K = K (.exit 0) (S7x nb n (rsR b m j (rest, o)).1 b (rsR b m j (rest, o)).2)
  | 0, fu + 1, j, rest, o, h0, h1, h2 => by
    rw [rnds1, hr, decide_eq_false (show ¬ (j : Int) < (n : Int) by omega), br_false]
    rfl
  | m + 1, fu + 1, j, rest, o, h0, h1, h2 => by
    have hp : 2 ^ j ≤ 2 ^ 60 := Nat.pow_le_pow_right (by decide) (by omega)
    have hp2 : 2 ^ (j + 1) = 2 * 2 ^ j := by rw [Nat.pow_succ, Nat.mul_comm]
    have hor : rest ||| 2 ^ j < 2 ^ (j + 1) := Nat.or_lt_two_pow (by omega) (by omega)
    have hj : (decide (0 ≤ (j : Int)) && decide ((j : Int) < (n : Int))) = true := by simp only [Bool.and_eq_true, decide_eq_true_eq]; omega
    have h2j : wi (1 * 2 ^ min j 64) = ((2 ^ j : Nat) : Int) := by
      rw [Nat.min_eq_left (by omega), Int.one_mul, show (2 : Int) ^ j = ((2 ^ j : Nat) : Int) by rw [Int.natCast_pow]; rfl]
      generalize 2 ^ j = x at hp ⊢
      exact wiN (by omega) (by omega)
    have hbo : bOr (rest : Int) ((2 ^ j : Nat) : Int) = ((rest ||| 2 ^ j : Nat) : Int) := bOrN _ _ (by omega) (by omega)
    rw [rnds1, hr, hj, decide_eq_true (show (j : Int) < (n : Int) by omega), br_true, br_true, br_true, Int.toNat_natCast, Nat.zero_add, wiN (n := (j : Int) + 1) (by omega) (by omega), show (j : Int) + 1 = ((j + 1 : Nat) : Int) by omega, h2j, hbo, decide_eq_false (show ¬ (j : Int) < 0 by omega), br_false]
    unfold rsR rsU
    by_cases hb : b.I j 0 = 0
    · rw [show (b.I j 0 != 0) = false by simpa using hb, br_false, if_neg (fun h => h hb)]
      exact go7 hn hr K m fu (j + 1) rest _ (by omega) (by omega) (by omega)
    · rw [show (b.I j 0 != 0) = true by simpa using hb, br_true, if_pos hb]
      exact go7 hn hr K m fu (j + 1) (rest ||| 2 ^ j) _ (by omega) (by omega) hor
theorem go20 {f : St → (X → St → Option (List D)) → Option (List D)} {lv : List Tmp} {lx : Option (List Tmp)} {nb no nm rest low : Nat} {group : Int} {b o m : Row} (hrest : rest < nm) (hnm : nm ≤ 4611686018427387904) (hlow : low < 4611686018427387904)
    (hr : ∀ (best g : Int) R K, f (S20 nb no nm rest group low best g b o m) (rnd lv lx R K) =
      br (decide (g > 0)) (br (bAnd g low == 0) (R (S20 nb no nm rest group low best (bAnd (wi (g - 1)) rest) b o m)) (br (decide (0 ≤ g) && decide (g < (nm : Int))) (br (decide (m.I (0 + g.toNat) 0 < 1)) (R (S20 nb no nm rest group low best (bAnd (wi (g - 1)) rest) b o m))
        (br (decide (0 ≤ bXor rest g) && decide (bXor rest g < (nm : Int))) (br (decide (0 ≤ (rest : Int)) && decide ((rest : Int) < (nm : Int))) (br (m.I (0 + (bXor rest g).toNat) 0 != wi (m.I (0 + (rest : Int).toNat) 0 - 1)) (R (S20 nb no nm rest group low best (bAnd (wi (g - 1)) rest) b o m))
          (br (best == 0) (R (S20 nb no nm rest group low g (bAnd (wi (g - 1)) rest) b o m)) (br (bef g best) (R (S20 nb no nm rest group low g (bAnd (wi (g - 1)) rest) b o m)) (R (S20 nb no nm rest group low best (bAnd (wi (g - 1)) rest) b o m))))) none) none)) none))
        (K (.exit 4) (S20x nb no nm rest group best b o m))) (K : X → St → Option (List D)) :
    ∀ (n fu g best : Nat), g &&& rest = g → best ≤ rest → g < n → n ≤ fu → rounds lv lx f fu (S20 nb no nm rest group low best g b o m) K = K (.exit 4) (S20x nb no nm rest group (bst m rest low n g best : Nat) b o m)
  | n + 1, fu + 1, g, best, h0, hbest, h1, h2 => by
    have hgs := sub_le h0
    have hxl := xor_le h0
    rw [rnds1, hr]
    unfold bst
    by_cases hg : g = 0
    · rw [if_pos hg, decide_eq_false (show ¬ (g : Int) > 0 by omega), br_false]
    · have hnext : bAnd (wi ((g : Int) - 1)) (rest : Int) = (((g - 1) &&& rest : Nat) : Int) := by
        rw [wiN (by omega) (by omega), show (g : Int) - 1 = ((g - 1 : Nat) : Int) by omega]
        exact bAndN _ _ (by omega) (by omega)
      have hle : (g - 1) &&& rest ≤ g - 1 := Nat.and_le_left
      have hsub : ((g - 1) &&& rest) &&& rest = (g - 1) &&& rest := by rw [Nat.and_assoc, Nat.and_self]
      have ih := fun best' hb' => go20 hrest hnm hlow hr K n fu ((g - 1) &&& rest) best' hsub hb' (by omega) (by omega)
      have hgl : g &&& low ≤ g := Nat.and_le_left
      have hrng : (decide (0 ≤ (rest : Int)) && decide ((rest : Int) < (nm : Int))) = true := by simp only [Bool.and_eq_true, decide_eq_true_eq]; omega
      rw [if_neg hg, decide_eq_true (show (g : Int) > 0 by omega), br_true, hnext, bAndN g low (by omega) (by omega), bXorN rest g (by omega) (by omega), Int.toNat_natCast, Int.toNat_natCast, Int.toNat_natCast, Nat.zero_add, Nat.zero_add, Nat.zero_add, hrng,
        show (decide (0 ≤ (g : Int)) && decide ((g : Int) < (nm : Int))) = true by simp only [Bool.and_eq_true, decide_eq_true_eq]; omega,
        show (decide (0 ≤ ((rest ^^^ g : Nat) : Int)) && decide (((rest ^^^ g : Nat) : Int) < (nm : Int))) = true by simp only [Bool.and_eq_true, decide_eq_true_eq]; omega, br_true, br_true, br_true, befN_eq g best (by omega) (by omega)]
      unfold bstU
      by_cases c1 : g &&& low = 0
      · rw [c1, show (((0 : Nat) : Int) == 0) = true from rfl, br_true, if_pos (.inl rfl)]
        exact ih best hbest
      · rw [show (((g &&& low : Nat) : Int) == 0) = false from beq_eq_false_iff_ne.mpr (by omega), br_false]
        by_cases c2 : m.I g 0 < 1
        · rw [decide_eq_true c2, br_true, if_pos (.inr (.inl c2))]
          exact ih best hbest
        · rw [decide_eq_false c2, br_false]
          by_cases c3 : m.I (rest ^^^ g) 0 = wi (m.I rest 0 - 1)
          · rw [show (m.I (rest ^^^ g) 0 != wi (m.I rest 0 - 1)) = false by simpa using c3, br_false, if_neg (by rintro (h | h | h); exact c1 h; exact c2 h; exact h c3)]
            by_cases c4 : best = 0
            · rw [show ((best : Int) == 0) = true from beq_iff_eq.mpr (by omega), br_true, if_pos (.inl c4)]
              exact ih g hgs
            · rw [show ((best : Int) == 0) = false from beq_eq_false_iff_ne.mpr (by omega), br_false]
              cases c5 : befN g best
              · rw [br_false, if_neg (by rintro (h | h); exact c4 h; exact absurd h (by decide))]
                exact ih best hbest
              · rw [br_true, if_pos (.inr rfl)]
                exact ih g hgs
          · rw [show (m.I (rest ^^^ g) 0 != wi (m.I rest 0 - 1)) = true by simpa using c3, br_true, if_pos (.inr (.inr c3))]
            exact ih best hbest
theorem go26 {f : St → (X → St → Option (List D)) → Option (List D)} {lv : List Tmp} {lx : Option (List Tmp)} {nb no nm best : Nat} {rest group : Int} {b m : Row} (hb : best < 4611686018427387904) (hn : no ≤ 60)
    (hr : ∀ (j : Int) (o : Row) R K, f (S26 nb no nm rest group best no j b o m) (rnd lv lx R K) = br (decide (j < (no : Int))) (br (decide (j < 0)) none (br (bAnd (bShr best j) 1 == 1) (br (decide (0 ≤ j) && decide (j < (no : Int))) (R (S26 nb no nm rest group best no (wi (j + 1)) b (o.setI (0 + j.toNat) 0 group) m)) none) (R (S26 nb no nm rest group best no (wi (j + 1)) b o m))))
      (K (.exit 6) (S20x nb no nm rest group best b o m))) (K : X → St → Option (List D)) :
    ∀ (k fu j : Nat) (o : Row), j + k = no → k < fu → rounds lv lx f fu (S26 nb no nm rest group best no j b o m) K = K (.exit 6) (S20x nb no nm rest group best b (asR best group k j o) m)
  | 0, fu + 1, j, o, h0, h1 => by
    rw [rnds1, hr, decide_eq_false (show ¬ (j : Int) < (no : Int) by omega), br_false]
    rfl
  | k + 1, fu + 1, j, o, h0, h1 => by
    rw [rnds1, hr, show (decide (0 ≤ (j : Int)) && decide ((j : Int) < (no : Int))) = true by simp only [Bool.and_eq_true, decide_eq_true_eq]; omega, decide_eq_true (show (j : Int) < (no : Int) by omega), br_true, decide_eq_false (show ¬ (j : Int) < 0 by omega), br_false, bit_iff best j (by omega) (by omega),
      br_true, Int.toNat_natCast, Nat.zero_add, wiN (n := (j : Int) + 1) (by omega) (by omega), show (j : Int) + 1 = ((j + 1 : Nat) : Int) by omega]
    unfold asR
    cases hbit : best.testBit j
    · rw [br_false, if_neg (by decide)]
      exact go26 hb hn hr K k fu (j + 1) o (by omega) (by omega)
    · rw [br_true, if_pos rfl]
      exact go26 hb hn hr K k fu (j + 1) _ (by omega) (by omega)
theorem bst_sub {m : Row} {rest low : Nat} : ∀ (n g best : Nat), g &&& rest = g → best &&& rest = best → bst m rest low n g best &&& rest = bst m rest low n g best
  | 0, g, best, _, h => h
  | n + 1, g, best, hg, hb => by
    unfold bst
    split
    · exact hb
    · refine bst_sub n _ _ (by rw [Nat.and_assoc, Nat.and_self]) ?_
      unfold bstU
      split
      · exact hb
      · split
        · exact hg
        · exact hb
theorem low_le (s : Nat) : lowN s ≤ s := Nat.and_le_left
theorem go15 {f : St → (X → St → Option (List D)) → Option (List D)} {lv : List Tmp} {lx : Option (List Tmp)} {nb no nm : Nat} {b m : Row} (hnm : nm ≤ 4611686018427387904) (hno : nb = no ∧ no ≤ 60)
    (hr : ∀ (rest group : Int) (o : Row) R K, f (S15 nb no nm rest group b o m) (rnd lv lx R K) =
      br (rest != 0) (br (in20 nm rest (bAnd rest (wi (0 - rest))) 0 rest)
        (br (in26 no (bst m rest.toNat (bAnd rest (wi (0 - rest))).toNat (rest.toNat + 1) rest.toNat 0 : Nat) nb)
          (R (S15 nb no nm (bXor rest (bst m rest.toNat (bAnd rest (wi (0 - rest))).toNat (rest.toNat + 1) rest.toNat 0 : Nat)) (wi (group + 1)) b (asR (bst m rest.toNat (bAnd rest (wi (0 - rest))).toNat (rest.toNat + 1) rest.toNat 0) group no 0 o) m)) none) none)
        (K (.exit 2) (S15x no o))) (K : X → St → Option (List D)) :
    ∀ (k fu rest group : Nat) (o o' : Row), grS m no k rest group o = some o' → k < fu → rest < nm → group + k ≤ 1000 → rounds lv lx f fu (S15 nb no nm rest group b o m) K = K (.exit 2) (S15x no o') := by
  intro k
  induction k with
  | zero =>
    intro fu rest group o o' h hk _ _
    obtain ⟨fu, rfl⟩ : ∃ fu', fu = fu' + 1 := ⟨fu - 1, by omega⟩
    unfold grS at h
    split at h
    · rename_i h0
      cases h
      rw [rnds1, hr, h0]
      rfl
    · cases h
  | succ k ih =>
    intro fu rest group o o' h hk hrest hgr
    obtain ⟨fu, rfl⟩ : ∃ fu', fu = fu' + 1 := ⟨fu - 1, by omega⟩
    unfold grS at h
    by_cases h0 : rest = 0
    · rw [if_pos h0] at h
      cases h
      rw [rnds1, hr, h0]
      rfl
    · rw [if_neg h0] at h
      have hs := bst_sub (m := m) (low := lowN rest) (rest + 1) rest 0 (Nat.and_self rest) (Nat.zero_and rest)
      have hl := low_le rest
      have hle := sub_le hs
      have hxl := xor_le hs
      rw [rnds1, hr, show ((rest : Int) != 0) = true from bne_iff_ne.mpr (by omega), br_true, bNegAnd rest (by omega), show rest &&& (18446744073709551616 - rest) = lowN rest from rfl, Int.toNat_natCast, Int.toNat_natCast,
        show in20 nm rest (lowN rest : Nat) 0 rest = true from decide_eq_true ⟨by omega, by omega, hnm, by omega, by omega, rfl, rfl⟩, br_true]
      generalize bst m rest (lowN rest) (rest + 1) rest 0 = best at *
      rw [show in26 no (best : Nat) nb = true from decide_eq_true ⟨by omega, by omega, by omega, hno.2⟩, br_true, bXorN rest best (by omega) (by omega), wiN (n := (group : Int) + 1) (by omega) (by omega), show (group : Int) + 1 = ((group + 1 : Nat) : Int) by omega]
      exact ih fu (rest ^^^ best) (group + 1) _ o' h (by omega) (by omega) (by omega)
set_option maxRecDepth 100000 in
theorem loop7 : LoopOk C3 (l7 in7) := ⟨by kernel_rfl, fun q its k rr h => by
  show rounds [0, 5, 6, 23, 24, 25] (some [0, 2, 3, 5, 6]) (evCode C3 9 true (inl C3 (q + 4)) (lbody C3.P 9 7)) 18446744073709551616 (Go.Ev.bst (l7 in7).p its) k = some rr
  change G7 in7 its k = some rr at h
  unfold G7 at h
  split at h
  · rename_i nb n n' m b o
    rcases br_some h with ⟨h1, h2⟩ | ⟨_, h2⟩
    · obtain ⟨k1, k2, k3⟩ := of_decide_eq_true h1
      subst k1
      subst k2
      rw [← h2]
      exact go7 (nb := nb) (b := b) k3 (fun rest j o R K => round7 in7 in20 in26 gs15 R K q nb n n n rest j b o) k n 18446744073709551616 0 0 o (by omega) (by omega) (by decide)
    · cases h2
  · cases h⟩
set_option maxRecDepth 100000 in
theorem loop20 : LoopOk C3 (l20 in20) := ⟨by kernel_rfl, fun q its k rr h => by
  show rounds [0, 5, 6, 9, 10, 11, 12, 13] (some [0, 2, 3, 5, 6, 9, 10, 12]) (evCode C3 9 true (inl C3 (q + 4)) (lbody C3.P 9 20)) 18446744073709551616 (Go.Ev.bst (l20 in20).p its) k = some rr
  change G20 in20 its k = some rr at h
  unfold G20 at h
  split at h
  · rename_i nb no rest nm group low best g b o m
    rcases br_some h with ⟨h1, h2⟩ | ⟨_, h2⟩
    · obtain ⟨k1, k2, k3, k4, k5, k6, k7⟩ := of_decide_eq_true h1
      obtain ⟨rest, rfl⟩ := Int.eq_ofNat_of_zero_le k1
      obtain ⟨low, rfl⟩ := Int.eq_ofNat_of_zero_le k4
      subst k6
      subst k7
      rw [← h2, Int.toNat_natCast, Int.toNat_natCast]
      exact go20 (nb := nb) (no := no) (group := group) (b := b) (o := o) (m := m) (by omega) k3 (by omega) (fun best g R K => round20 in7 in20 in26 gs15 R K q nb no nm rest group low best g b o m) k (rest + 1) 18446744073709551616 rest 0 (Nat.and_self rest) (by omega) (by omega) (by omega)
    · cases h2
  · cases h⟩
set_option maxRecDepth 100000 in
theorem loop26 : LoopOk C3 (l26 in26) := ⟨by kernel_rfl, fun q its k rr h => by
  show rounds [0, 5, 6, 9, 10, 12, 91, 92] (some [0, 2, 3, 5, 6, 9, 10, 12]) (evCode C3 9 true (inl C3 (q + 4)) (lbody C3.P 9 26)) 18446744073709551616 (Go.Ev.bst (l26 in26).p its) k = some rr
  change G26 in26 its k = some rr at h
  unfold G26 at h
  split at h
  · rename_i nb no rest nm group best c b o m
    rcases br_some h with ⟨h1, h2⟩ | ⟨_, h2⟩
    · obtain ⟨k1, k2, k3, k4⟩ := of_decide_eq_true h1
      obtain ⟨best, rfl⟩ := Int.eq_ofNat_of_zero_le k1
      subst k3
      rw [← h2, Int.toNat_natCast]
      exact go26 (nb := nb) (nm := nm) (rest := rest) (group := group) (b := b) (m := m) (by omega) k4 (fun j o R K => round26 in7 in20 in26 gs15 R K q nb no nm rest group best no j b o m) k no 18446744073709551616 0 o (by omega) (by omega)
    · cases h2
  · cases h⟩
set_option maxRecDepth 100000 in
theorem loop15 : LoopOk C3 (l15 gs15) := ⟨by kernel_rfl, fun q its k rr h => by
  show rounds [0, 5, 6, 9, 10] (some [2, 3, 5]) (evCode C3 9 true (inl C3 (q + 4)) (lbody C3.P 9 15)) 18446744073709551616 (Go.Ev.bst (l15 gs15).p its) k = some rr
  change G15 gs15 its k = some rr at h
  unfold G15 at h
  split at h
  · rename_i nb no rest nm b o m
    split at h
    · rename_i o' hgs
      unfold gs15 at hgs
      split at hgs
      · rename_i hc
        obtain ⟨k1, k2, k3, k4, k5⟩ := hc
        obtain ⟨rest, rfl⟩ := Int.eq_ofNat_of_zero_le k1
        rw [← h]
        exact go15 (b := b) (m := m) k3 ⟨k4, k5⟩ (fun rest group o R K => round15 in7 in20 in26 gs15 R K q nb no nm rest group b o m) k 64 18446744073709551616 rest 0 o o' (by rw [Int.toNat_natCast] at hgs; exact hgs) (by omega) (by omega) (by omega)
      · cases hgs
    · cases h
  · cases h⟩
theorem C3_ok : CxW C3 Wt := mkCx_okW enter mixed (fun p h => by
  simp only [List.mem_cons, List.not_mem_nil, or_false] at h
  rcases h with rfl | rfl
  · exact den_ck.at _
  · exact den_most) (fun l h => by
  simp only [List.mem_cons, List.not_mem_nil, or_false] at h
  rcases h with rfl | rfl | rfl | rfl
  · exact loop7
  · exact loop20
  · exact loop26
  · exact loop15)
theorem tgroups (c7 : Nat → Nat → Nat → Int → Bool) (c20 : Nat → Int → Int → Int → Int → Bool) (c26 : Nat → Int → Int → Bool) (gs : Nat → Nat → Nat → Int → Row → Row → Option Row) (b : Row) : evF (C3g c7 c20 c26 gs) 6 9 [.slice ks1 b] =
    br (ckE (winOf b 0 b.n) != 0) (some [.slice [.int .i64] Row.nil, .v (i64 (ckE (winOf b 0 b.n)))])
      (br (decide (0 ≤ (b.n : Int)) && decide ((b.n : Int) ≤ (b.n : Int)) && decide ((b.n : Int) ≤ 100000000000))
        (br (c7 b.n (b.n : Int).toNat b.n b.n)
          (br (decide ((winOf b 0 b.n).n ≤ 20))
            (match gs b.n (b.n : Int).toNat (mostR (winOf b 0 b.n)).n (rsR b (b.n : Int).toNat 0 (0, Row.zeros (b.n : Int).toNat)).1 (rsR b (b.n : Int).toNat 0 (0, Row.zeros (b.n : Int).toNat)).2 (mostR (winOf b 0 b.n)) with
              | some o' => some [.slice ks1 (winOf o' 0 (b.n : Int).toNat), .v (i64 0)]
              | none => none) none) none) none) := by kernel_rfl
end Go.Proofs.YtpblmkephkhlkaaDoor

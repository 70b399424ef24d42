/- Package script and its reference: lists of strings with a string twice. No conditions. -/
import Derived.Test.YtopdfmhlgkbaaaaS2
namespace Go.Proofs.Ytopdfmhlgkbaaaa
open Go.Ev
set_option linter.all false
def p25 : PSt := { τ := pu 3 ++ [.v (.c (.map (some 0)))] ++ pu 3 ++ [.v (.sl 1), .v (.int .i64), .v (.int .i64)] ++ pu 9, saved := [[]], mem := [.map (.bool), .row [.str] false] }
def p28 : PSt := { τ := [.v (.sl 0)] ++ pu 2 ++ [.v (.int .i64)] ++ pu 21, saved := [[]], mem := [.row [.str] false] }
def p28i : PSt := { τ := [.v (.sl 0)] ++ pu 2 ++ [.v (.int .i64), .v (.int .i64)] ++ pu 20, saved := [[]], mem := [.row [.str] false] }

def eqS (a b : ByteArray) : Bool := a.toList == b.toList
theorem eqS_iff {a b : ByteArray} : eqS a b = true ↔ a = b := bytesEq_iff a b
def dDif (its : List It) : Option (Nat × Int × Int × (ByteArray → Int) × (ByteArray → Bool) × Row) := match its with | [.n n, .i len, .i j, .mi I, .mb B, .r r] => some (n, len, j, I, B, r) | _ => none
def dNIR (its : List It) : Option (Nat × Int × Row) := match its with | [.n n, .i j, .r r] => some (n, j, r) | _ => none
def dNIIR (its : List It) : Option (Nat × Int × Int × Row) := match its with | [.n n, .i i, .i j, .r r] => some (n, i, j, r) | _ => none
def l25 : RunL (Nat × Int × Int × (ByteArray → Int) × (ByteArray → Bool) × Row) (ByteArray → Bool) where
  f := 25
  id := 3
  lv := [3, 7, 8, 9]
  lx := [2]
  p := p25
  dat := dDif
  S := fun (n, _, _, I, _, r) j B => [.n n, .i n, .i j, .mi I, .mb B, .r r]
  len := fun (n, _, _, _, _, _) => n
  cnd := fun (n, len, j, _, _, _) => z3 n len j
  ini := fun (_, _, _, _, B, _) => B
  stop := fun (_, _, _, _, _, r) j B => B (r.S j 0)
  nx := fun (_, _, _, _, _, r) j B => updB B (r.S j 0) true
  Kb := fun _ j B k => k .ret ⟨us 2 ++ [.bool (false)] ++ us 16, [[]], []⟩
  Ke := fun _ B k => k (.exit 0) ⟨us 19, [[]], []⟩
noncomputable def C25 : Cx := mkCx Try.prog fns [] [l25.C]
theorem r25 (R : St → Option (List D)) (K : X → St → Option (List D)) (q n : Nat) (len j : Int) (I : ByteArray → Int) (B : ByteArray → Bool) (r : Row) : bodyOf C25 25 3 q (Go.Ev.bst p25 [.n n, .i len, .i j, .mi I, .mb B, .r r]) (rnd [3, 7, 8, 9] (some [2]) R K) =
    br (decide (j < len)) (br (decide (0 ≤ j) && decide (j < (↑n : Int))) (br (B (r.S (0 + j.toNat) 0)) (K .ret ⟨us 2 ++ [.bool (false)] ++ us 16, [[]], []⟩) (R ⟨us 3 ++ [.map (some 0)] ++ us 3 ++ [.slice (some ⟨1, 0, some 0⟩) (n) (0), i64 (len), i64 (IntKind.i64.wrap (j + 1))] ++ us 9, [[]], [some (.map (.bool) (I) (updB B (r.S (0 + j.toNat) 0) true)), some (.row [.str] false (r))]⟩)) (none)) (K (.exit 0) ⟨us 19, [[]], []⟩) := by kernel_rfl
theorem t25 (r : Row) : evF C25 6 25 [.slice ksS r] =
    br (z3 r.n (↑r.n : Int) 0) (br ((runS (l25.stop (r.n, (↑r.n : Int), 0, fun x => 0, fun x => false, r)) (l25.nx (r.n, (↑r.n : Int), 0, fun x => 0, fun x => false, r)) (l25.len (r.n, (↑r.n : Int), 0, fun x => 0, fun x => false, r)) 0 (l25.ini (r.n, (↑r.n : Int), 0, fun x => 0, fun x => false, r))).1) (some [.v (.bool (false))]) (some [.v (.bool (true))])) (none) := by kernel_rfl
def z28 (n : Nat) (i j : Int) : Bool := decide (0 ≤ i ∧ i < n ∧ n ≤ 1000000 ∧ j = 0)
theorem z28_iff {n : Nat} {i j : Int} : z28 n i j = true ↔ 0 ≤ i ∧ i < n ∧ n ≤ 1000000 ∧ j = 0 := by unfold z28; rw [decide_eq_true_eq]
def l28i : ScanL (Nat × Int × Int × Row) where
  f := 28
  id := 5
  lv := [0, 3, 4]
  lx := [0, 2, 3]
  p := p28i
  dat := dNIIR
  S := fun (n, i, _, r) j => [.n n, .i i, .i j, .r r]
  len := fun (_, i, _, _) => i.toNat
  cnd := fun (n, i, j, _) => z28 n i j
  bad := fun (_, i, _, r) j => eqS (r.S j 0) (r.S i.toNat 0)
  Kb := fun (n, i, _, r) j k => k .ret ⟨[.slice (some ⟨0, 0, some 0⟩) (n) (0)] ++ us 1 ++ [.bool (true), i64 (i)] ++ us 21, [[]], [some (.row [.str] false (r))]⟩
  Ke := fun (n, i, _, r) k => k (.exit 2) ⟨[.slice (some ⟨0, 0, some 0⟩) (n) (0)] ++ us 2 ++ [i64 i] ++ us 21, [[]], [some (.row [.str] false (r))]⟩
def twi (r : Row) (i : Nat) : Bool := anyF (fun j => eqS (r.S j 0) (r.S i 0)) i 0
def l28 : ScanL (Nat × Int × Row) where
  f := 28
  id := 2
  lv := [0, 3]
  lx := [2]
  p := p28
  dat := dNIR
  S := fun (n, _, r) j => [.n n, .i j, .r r]
  len := fun (n, _, _) => n
  cnd := fun (n, j, _) => z2 n j
  bad := fun (_, _, r) => twi r
  Kb := fun _ j k => k .ret ⟨us 2 ++ [.bool (true)] ++ us 22, [[]], []⟩
  Ke := fun _ k => k (.exit 0) ⟨us 25, [[]], []⟩
noncomputable def C28 : Cx := mkCx Try.prog fns [] [l28.C, l28i.C]
theorem r28i (R : St → Option (List D)) (K : X → St → Option (List D)) (q n : Nat) (i j : Int) (r : Row) : bodyOf C28 28 5 q (Go.Ev.bst p28i [.n n, .i i, .i j, .r r]) (rnd [0, 3, 4] (some [0, 2, 3]) R K) =
    br (decide (j < i)) (br (decide (0 ≤ j) && decide (j < (↑n : Int))) (br (decide (0 ≤ i) && decide (i < (↑n : Int))) (br ((r.S (0 + j.toNat) 0).toList == (r.S (0 + i.toNat) 0).toList) (K .ret ⟨[.slice (some ⟨0, 0, some 0⟩) (n) (0)] ++ us 1 ++ [.bool (true), i64 (i)] ++ us 21, [[]], [some (.row [.str] false (r))]⟩) (R ⟨[.slice (some ⟨0, 0, some 0⟩) (n) (0)] ++ us 2 ++ [i64 (i), i64 (IntKind.i64.wrap (j + 1))] ++ us 20, [[]], [some (.row [.str] false (r))]⟩)) (none)) (none)) (K (.exit 2) ⟨[.slice (some ⟨0, 0, some 0⟩) (n) (0)] ++ us 2 ++ [i64 (i)] ++ us 21, [[]], [some (.row [.str] false (r))]⟩) := by kernel_rfl
theorem ok28i : LoopOk C28 l28i.C := l28i.ok (by kernel_rfl)
  (fun its x h hc => by
    replace h : dNIIR its = some x := h
    unfold dNIIR at h
    split at h
    · cases h
      obtain ⟨h1, h2, h3, h4⟩ := z28_iff.1 hc
      subst h4
      rfl
    · cases h)
  (fun ⟨n, i, j, r⟩ hc => by have := z28_iff.1 hc; show i.toNat < 18446744073709551616; omega)
  (fun q ⟨n, i, j, r⟩ m hc hi R K => by
    obtain ⟨h1, h2, h3, h4⟩ := z28_iff.1 hc
    replace hi : m < i.toNat := hi
    refine (r28i R K q n i m r).trans ?_
    rw [decide_eq_true (show (m : Int) < i by omega), gd m n (by omega), show (decide (0 ≤ i) && decide (i < (n : Int))) = true by simp only [Bool.and_eq_true, decide_eq_true_eq]; omega, wsn (by omega), Int.toNat_natCast, Nat.zero_add, Nat.zero_add]
    rfl)
  (fun q ⟨n, i, j, r⟩ hc R K => by
    obtain ⟨h1, h2, h3, h4⟩ := z28_iff.1 hc
    refine (r28i R K q n i i.toNat r).trans ?_
    rw [decide_eq_false (show ¬ ((i.toNat : Nat) : Int) < i by omega)]
    rfl)
theorem r28 (R : St → Option (List D)) (K : X → St → Option (List D)) (q n : Nat) (j : Int) (r : Row) : bodyOf C28 28 2 q (Go.Ev.bst p28 [.n n, .i j, .r r]) (rnd [0, 3] (some [2]) R K) =
    br (decide (j < (↑n : Int))) (br (z28 n j 0) (br (anyF
  (fun j_1 =>
    match (n, j, 0, r) with
    | (fst, i, fst_1, r) => eqS (r.S j_1 0) (r.S i.toNat 0))
  j.toNat 0) (K .ret ⟨us 2 ++ [.bool (true)] ++ us 22, [[]], []⟩) (R ⟨[.slice (some ⟨0, 0, some 0⟩) (n) (0)] ++ us 2 ++ [i64 (IntKind.i64.wrap (j + 1))] ++ us 21, [[]], [some (.row [.str] false (r))]⟩)) (none)) (K (.exit 0) ⟨us 25, [[]], []⟩) := by kernel_rfl
theorem t28 (r : Row) : evF C28 6 28 [.slice ksS r] =
    br (z2 r.n 0) (br (anyF (twi r) r.n 0) (some [.v (.bool (true))]) (some [.v (.bool (false))])) (none) := by kernel_rfl
theorem ok28 : LoopOk C28 l28.C := l28.ok (by kernel_rfl)
  (fun its x h hc => by
    replace h : dNIR its = some x := h
    unfold dNIR at h
    split at h
    · cases h
      obtain ⟨h1, h2⟩ := z2_iff.1 hc
      subst h1
      rfl
    · cases h)
  (fun ⟨n, j, r⟩ hc => by have := z2_iff.1 hc; show n < 18446744073709551616; omega)
  (fun q ⟨n, j, r⟩ i hc hi R K => by
    obtain ⟨h1, h2⟩ := z2_iff.1 hc
    replace hi : i < n := hi
    refine (r28 R K q n i r).trans ?_
    rw [ltd i n hi, z28_iff.2 ⟨by omega, by omega, by omega, rfl⟩, wsn (by omega), Int.toNat_natCast]
    rfl)
  (fun q ⟨n, j, r⟩ hc R K => by
    refine (r28 R K q n n r).trans ?_
    rw [ltn n]
    rfl)
theorem C28_ok : CxOk C28 := mkCx_ok enter mixed (fun p h => by cases h) (fun l h => by
  simp only [List.mem_cons, List.not_mem_nil, or_false] at h
  rcases h with rfl | rfl
  · exact ok28
  · exact ok28i)
/-- Whether a list has a string twice. -/
def twB (r : Row) : Bool := anyF (twi r) r.n 0
def Ftwice : List D → Option (Bool × List D)
  | [.slice [.str] r] => some (decide (r.n ≤ 1000000), [.v (.bool (twB r))])
  | _ => none
def Fdiff : List D → Option (Bool × List D)
  | [.slice [.str] r] => some (decide (r.n ≤ 1000000), [.v (.bool (!twB r))])
  | _ => none
theorem den_twice : Den Try.prog 28 Ftwice := evF_den C28_ok fun ds rs h => by
  unfold Ftwice at h
  split at h
  · rename_i r
    simp only [Option.some.injEq, Prod.mk.injEq] at h
    obtain ⟨h0, rfl⟩ := h
    refine (t28 r).trans ?_
    rw [z2_iff.2 ⟨rfl, of_decide_eq_true h0⟩, br_true]
    unfold twB
    cases anyF (twi r) r.n 0 <;> rfl
  · cases h
theorem ok25 : LoopOk C25 l25.C := l25.ok (fun _ _ _ => True) (by kernel_rfl)
  (fun its x h hc => by
    replace h : dDif its = some x := h
    unfold dDif at h
    split at h
    · cases h
      obtain ⟨h1, h2, h3⟩ := z3_iff.1 hc
      subst h1 h2
      rfl
    · cases h)
  (fun ⟨n, len, j, I, B, r⟩ hc => by have := (z3_iff.1 hc).2.2; show n < 18446744073709551616; omega) (fun _ _ => trivial) (fun _ _ _ _ _ _ _ => trivial)
  (fun q ⟨n, len, j, I, B0, r⟩ i B hc hi _ R K => by
    have h3 := (z3_iff.1 hc).2.2
    replace hi : i < n := hi
    refine (r25 R K q n n i I B r).trans ?_
    rw [gd i n hi, ltd i n hi, wsn (by omega), Int.toNat_natCast, Nat.zero_add]
    rfl)
  (fun q ⟨n, len, j, I, B0, r⟩ B hc _ R K => by
    refine (r25 R K q n n n I B r).trans ?_
    rw [ltn n]
    rfl)
theorem C25_ok : CxOk C25 := mkCx_ok enter mixed (fun p h => by cases h) (fun l h => by
  simp only [List.mem_cons, List.not_mem_nil, or_false] at h
  rcases h with rfl
  exact ok25)
theorem updB_iff {B : ByteArray → Bool} {s t : ByteArray} {b : Bool} : updB B s b t = if t = s then b else B t := by
  unfold updB
  by_cases h : t = s
  · rw [if_pos h, show (t.toList == s.toList) = true from (bytesEq_iff t s).2 h]; rfl
  · rw [if_neg h, show (t.toList == s.toList) = false from by
      cases hb : (t.toList == s.toList)
      · rfl
      · exact absurd ((bytesEq_iff t s).1 hb) h]
    rfl
theorem dif_run (r : Row) : ∀ (m j : Nat) (B : ByteArray → Bool), (∀ s, B s = true ↔ ∃ i, i < j ∧ r.S i 0 = s) → (runS (fun j (B : ByteArray → Bool) => B (r.S j 0)) (fun j B => updB B (r.S j 0) true) m j B).1 = anyF (twi r) m j
  | 0, j, B, h => rfl
  | m + 1, j, B, h => by
    have ht : twi r j = B (r.S j 0) := by
      rw [Bool.eq_iff_iff, h]
      unfold twi
      rw [anyF_iff]
      constructor
      · rintro ⟨i, _, h2, h3⟩
        exact ⟨i, by omega, eqS_iff.1 h3⟩
      · rintro ⟨i, h2, h3⟩
        exact ⟨i, by omega, by omega, eqS_iff.2 h3⟩
    unfold anyF
    rw [ht]
    cases hb : B (r.S j 0)
    · rw [runS_s hb, Bool.false_or]
      refine dif_run r m (j + 1) _ fun s => ?_
      rw [updB_iff]
      by_cases e : s = r.S j 0
      · rw [if_pos e]
        exact ⟨fun _ => ⟨j, by omega, e.symm⟩, fun _ => rfl⟩
      · rw [if_neg e, h]
        constructor
        · rintro ⟨i, h1, h2⟩; exact ⟨i, by omega, h2⟩
        · rintro ⟨i, h1, h2⟩
          by_cases e2 : i = j
          · subst e2; exact absurd h2.symm e
          · exact ⟨i, by omega, h2⟩
    · rw [runS_t hb]; rfl
theorem den_diff : Den Try.prog 25 Fdiff := evF_den C25_ok fun ds rs h => by
  unfold Fdiff at h
  split at h
  · rename_i r
    simp only [Option.some.injEq, Prod.mk.injEq] at h
    obtain ⟨h0, rfl⟩ := h
    refine (t25 r).trans ?_
    rw [z3_iff.2 ⟨rfl, rfl, of_decide_eq_true h0⟩, br_true]
    show br (runS (fun j (B : ByteArray → Bool) => B (r.S j 0)) (fun j B => updB B (r.S j 0) true) r.n 0 (fun _ => false)).1 _ _ = _
    rw [dif_run r r.n 0 _ (fun s => ⟨fun h => (by cases h), fun ⟨i, h, _⟩ => (by omega)⟩)]
    unfold twB
    cases anyF (twi r) r.n 0 <;> rfl
  · cases h
end Go.Proofs.Ytopdfmhlgkbaaaa

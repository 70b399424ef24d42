/- Package script and its reference: names, and lists of strings with a string twice. No conditions. -/
import Derived.Test.YtopdfmhlgkbaaaaS1
namespace Go.Proofs.Ytopdfmhlgkbaaaa
open Go.Ev
set_option linter.all false
def p16 : PSt := { τ := [.v (.str)] ++ pu 6 ++ [.v (.sl 0), .v (.int .i64), .v (.int .i64)] ++ pu 37, saved := [[]], mem := [.row [.int .u8] false] }
def p18 : PSt := { τ := [.v (.str)] ++ pu 2 ++ [.v (.int .i64)] ++ pu 52, saved := [[]], mem := [] }
/-- What a loop asks: its length is the slice's, and no great one; it begins with the first round. -/
def z3 (n : Nat) (len j : Int) : Bool := decide (len = n ∧ j = 0 ∧ n ≤ 1000000)
def z2 (n : Nat) (j : Int) : Bool := decide (j = 0 ∧ n ≤ 1000000)
theorem z3_iff {n : Nat} {len j : Int} : z3 n len j = true ↔ len = n ∧ j = 0 ∧ n ≤ 1000000 := by unfold z3; rw [decide_eq_true_eq]
theorem z2_iff {n : Nat} {j : Int} : z2 n j = true ↔ j = 0 ∧ n ≤ 1000000 := by unfold z2; rw [decide_eq_true_eq]
def dSNIIR (its : List It) : Option (ByteArray × Nat × Int × Int × Row) := match its with | [.s s, .n n, .i len, .i j, .r r] => some (s, n, len, j, r) | _ => none
def dSI (its : List It) : Option (ByteArray × Int) := match its with | [.s s, .i j] => some (s, j) | _ => none
def bad16 (r : Row) (j : Nat) : Bool := decide (¬ (97 ≤ r.I j 0 ∧ r.I j 0 ≤ 122) ∧ (j = 0 ∨ r.I j 0 ≠ 45 ∧ (r.I j 0 < 48 ∨ r.I j 0 > 57)))
def l16 : ScanL (ByteArray × Nat × Int × Int × Row) where
  f := 16
  id := 2
  lv := [0, 7, 8, 9]
  lx := [0, 2]
  p := p16
  dat := dSNIIR
  S := fun (s, n, _, _, r) j => [.s s, .n n, .i n, .i j, .r r]
  len := fun (_, n, _, _, _) => n
  cnd := fun (_, n, len, j, _) => z3 n len j
  bad := fun (_, _, _, _, r) => bad16 r
  Kb := fun (s, _, _, _, _) j k => k .ret ⟨[.string s] ++ us 1 ++ [.bool (false)] ++ us 44, [[]], []⟩
  Ke := fun (s, _, _, _, _) k => k (.exit 0) ⟨[.string s] ++ us 46, [[]], []⟩
noncomputable def C16 : Cx := mkCx Try.prog fns [] [l16.C]
theorem r16 (R : St → Option (List D)) (K : X → St → Option (List D)) (q : Nat) (s : ByteArray) (n : Nat) (len j : Int) (r : Row) : bodyOf C16 16 2 q (Go.Ev.bst p16 [.s s, .n n, .i len, .i j, .r r]) (rnd [0, 7, 8, 9] (some [0, 2]) R K) =
    br (decide (j < len)) (br (decide (0 ≤ j) && decide (j < (↑n : Int))) (br (decide (r.I (0 + j.toNat) 0 ≥ 97)) (br (!decide (r.I (0 + j.toNat) 0 ≤ 122)) (br (j == 0) (K .ret ⟨[.string (s)] ++ us 1 ++ [.bool (false)] ++ us 44, [[]], []⟩) (br (r.I (0 + j.toNat) 0 != 45) (br (decide (r.I (0 + j.toNat) 0 < 48)) (K .ret ⟨[.string (s)] ++ us 1 ++ [.bool (false)] ++ us 44, [[]], []⟩) (br (decide (r.I (0 + j.toNat) 0 > 57)) (K .ret ⟨[.string (s)] ++ us 1 ++ [.bool (false)] ++ us 44, [[]], []⟩) (R ⟨[.string (s)] ++ us 6 ++ [.slice (some ⟨0, 0, some 0⟩) (n) (0), i64 (len), i64 (IntKind.i64.wrap (j + 1))] ++ us 37, [[]], [some (.row [.int .u8] false (r))]⟩))) (R ⟨[.string (s)] ++ us 6 ++ [.slice (some ⟨0, 0, some 0⟩) (n) (0), i64 (len), i64 (IntKind.i64.wrap (j + 1))] ++ us 37, [[]], [some (.row [.int .u8] false (r))]⟩))) (R ⟨[.string (s)] ++ us 6 ++ [.slice (some ⟨0, 0, some 0⟩) (n) (0), i64 (len), i64 (IntKind.i64.wrap (j + 1))] ++ us 37, [[]], [some (.row [.int .u8] false (r))]⟩)) (br (j == 0) (K .ret ⟨[.string (s)] ++ us 1 ++ [.bool (false)] ++ us 44, [[]], []⟩) (br (r.I (0 + j.toNat) 0 != 45) (br (decide (r.I (0 + j.toNat) 0 < 48)) (K .ret ⟨[.string (s)] ++ us 1 ++ [.bool (false)] ++ us 44, [[]], []⟩) (br (decide (r.I (0 + j.toNat) 0 > 57)) (K .ret ⟨[.string (s)] ++ us 1 ++ [.bool (false)] ++ us 44, [[]], []⟩) (R ⟨[.string (s)] ++ us 6 ++ [.slice (some ⟨0, 0, some 0⟩) (n) (0), i64 (len), i64 (IntKind.i64.wrap (j + 1))] ++ us 37, [[]], [some (.row [.int .u8] false (r))]⟩))) (R ⟨[.string (s)] ++ us 6 ++ [.slice (some ⟨0, 0, some 0⟩) (n) (0), i64 (len), i64 (IntKind.i64.wrap (j + 1))] ++ us 37, [[]], [some (.row [.int .u8] false (r))]⟩)))) (none)) (K (.exit 0) ⟨[.string (s)] ++ us 46, [[]], []⟩) := by kernel_rfl
def bad18 (s : ByteArray) (j : Nat) : Bool := decide ((((s.data.getD j 0).toNat : Nat) : Int) ≠ 45 ∧ ¬ (97 ≤ (((s.data.getD j 0).toNat : Nat) : Int) ∧ (((s.data.getD j 0).toNat : Nat) : Int) ≤ 122) ∧ ¬ (48 ≤ (((s.data.getD j 0).toNat : Nat) : Int) ∧ (((s.data.getD j 0).toNat : Nat) : Int) ≤ 57))
def l18 : ScanL (ByteArray × Int) where
  f := 18
  id := 4
  lv := [0, 3]
  lx := [2]
  p := p18
  dat := dSI
  S := fun (s, _) j => [.s s, .i j]
  len := fun (s, _) => s.size
  cnd := fun (s, j) => z2 s.size j
  bad := fun (s, _) => bad18 s
  Kb := fun x j k => k .ret ⟨us 2 ++ [.bool (false)] ++ us 53, [[]], []⟩
  Ke := fun x k => k (.exit 0) ⟨us 56, [[]], []⟩
noncomputable def C18 : Cx := mkCx Try.prog fns [] [l18.C]
theorem r18 (R : St → Option (List D)) (K : X → St → Option (List D)) (q : Nat) (s : ByteArray) (j : Int) : bodyOf C18 18 4 q (Go.Ev.bst p18 [.s s, .i j]) (rnd [0, 3] (some [2]) R K) =
    br (decide (j < (↑s.size : Int))) (br (decide (0 ≤ j) && decide (j < (↑s.size : Int))) (br ((↑(s.data.getD j.toNat 0).toNat : Int) != 45) (br (decide (0 ≤ j) && decide (j < (↑s.size : Int))) (br (decide ((↑(s.data.getD j.toNat 0).toNat : Int) < 97)) (br (decide (0 ≤ j) && decide (j < (↑s.size : Int))) (br (decide ((↑(s.data.getD j.toNat 0).toNat : Int) < 48)) (K .ret ⟨us 2 ++ [.bool (false)] ++ us 53, [[]], []⟩) (br (decide (0 ≤ j) && decide (j < (↑s.size : Int))) (br (decide ((↑(s.data.getD j.toNat 0).toNat : Int) > 57)) (K .ret ⟨us 2 ++ [.bool (false)] ++ us 53, [[]], []⟩) (R ⟨[.string (s)] ++ us 2 ++ [i64 (IntKind.i64.wrap (j + 1))] ++ us 52, [[]], []⟩)) (none))) (none)) (br (decide (0 ≤ j) && decide (j < (↑s.size : Int))) (br (decide ((↑(s.data.getD j.toNat 0).toNat : Int) > 122)) (br (decide (0 ≤ j) && decide (j < (↑s.size : Int))) (br (decide ((↑(s.data.getD j.toNat 0).toNat : Int) < 48)) (K .ret ⟨us 2 ++ [.bool (false)] ++ us 53, [[]], []⟩) (br (decide (0 ≤ j) && decide (j < (↑s.size : Int))) (br (decide ((↑(s.data.getD j.toNat 0).toNat : Int) > 57)) (K .ret ⟨us 2 ++ [.bool (false)] ++ us 53, [[]], []⟩) (R ⟨[.string (s)] ++ us 2 ++ [i64 (IntKind.i64.wrap (j + 1))] ++ us 52, [[]], []⟩)) (none))) (none)) (R ⟨[.string (s)] ++ us 2 ++ [i64 (IntKind.i64.wrap (j + 1))] ++ us 52, [[]], []⟩)) (none))) (none)) (R ⟨[.string (s)] ++ us 2 ++ [i64 (IntKind.i64.wrap (j + 1))] ++ us 52, [[]], []⟩)) (none)) (K (.exit 0) ⟨us 56, [[]], []⟩) := by kernel_rfl
theorem t16 (s : ByteArray) : evF C16 6 16 [.v (.string s)] =
    br (z3 s.size (↑s.size : Int) 0) (br (anyF (bad16 (Ev.bytesRow s)) s.size 0) (some [.v (.bool (false))]) (br (decide ((↑s.size : Int) > 0)) (some [.v (.bool (decide ((↑s.size : Int) ≤ 40)))]) (some [.v (.bool (false))]))) (none) := by kernel_rfl
theorem t18 (s : ByteArray) : evF C18 6 18 [.v (.string s)] =
    br (decide ((↑s.size : Int) < 1)) (some [.v (.bool (false))]) (br (decide ((↑s.size : Int) > 40)) (some [.v (.bool (false))]) (br (decide (0 ≤ 0) && decide (0 < (↑s.size : Int))) (br (decide ((↑(s.data.getD (Int.toNat 0) 0).toNat : Int) < 97)) (some [.v (.bool (false))]) (br (decide (0 ≤ 0) && decide (0 < (↑s.size : Int))) (br (decide ((↑(s.data.getD (Int.toNat 0) 0).toNat : Int) > 122)) (some [.v (.bool (false))]) (br (z2 s.size 0) (br (anyF (bad18 s) s.size 0) (some [.v (.bool (false))]) (some [.v (.bool (true))])) (none))) (none))) (none))) := by kernel_rfl

theorem ok16 : LoopOk C16 l16.C := l16.ok (by kernel_rfl)
  (fun its x h hc => by
    replace h : dSNIIR its = some x := h
    unfold dSNIIR at h
    split at h
    · cases h
      obtain ⟨h1, h2, h3⟩ := z3_iff.1 hc
      subst h1 h2
      rfl
    · cases h)
  (fun ⟨s, n, len, j, r⟩ hc => by have := (z3_iff.1 hc).2.2; show n < 18446744073709551616; omega)
  (fun q ⟨s, n, len, j, r⟩ i hc hi R K => by
    have h3 := (z3_iff.1 hc).2.2
    replace hi : i < n := hi
    refine (r16 R K q s n n i r).trans ?_
    rw [gd i n hi, ltd i n hi, wsn (by omega), Int.toNat_natCast, Nat.zero_add]
    simp only [br_true]
    clear hc
    repeat' refine br_split (fun h => ?_) (fun h => ?_)
    all_goals (try simp only [Bool.not_eq_true, Bool.not_eq_true', Bool.and_eq_true, decide_eq_true_eq, decide_eq_false_iff_not, beq_iff_eq, bne_iff_ne, ne_eq, not_tr, Classical.not_not, beq_eq_false_iff_ne, bne_eq_false_iff_eq] at *)
    all_goals first
      | (rw [show l16.bad (s, n, len, j, r) i = true from decide_eq_true (by omega)]; rfl)
      | (rw [show l16.bad (s, n, len, j, r) i = false from decide_eq_false (by omega)]; rfl))
  (fun q ⟨s, n, len, j, r⟩ hc R K => by
    refine (r16 R K q s n n n r).trans ?_
    rw [ltn n]
    rfl)
theorem C16_ok : CxOk C16 := mkCx_ok enter mixed (fun p h => by cases h) (fun l h => by
  simp only [List.mem_cons, List.not_mem_nil, or_false] at h
  rcases h with rfl
  exact ok16)
theorem ok18 : LoopOk C18 l18.C := l18.ok (by kernel_rfl)
  (fun its x h hc => by
    replace h : dSI its = some x := h
    unfold dSI at h
    split at h
    · cases h
      obtain ⟨h2, h3⟩ := z2_iff.1 hc
      subst h2
      rfl
    · cases h)
  (fun ⟨s, j⟩ hc => by have := (z2_iff.1 hc).2; show s.size < 18446744073709551616; omega)
  (fun q ⟨s, j⟩ i hc hi R K => by
    have h3 := (z2_iff.1 hc).2
    replace hi : i < s.size := hi
    refine (r18 R K q s i).trans ?_
    rw [gd i s.size hi, ltd i s.size hi, wsn (by omega), Int.toNat_natCast]
    simp only [br_true]
    clear hc
    repeat' refine br_split (fun h => ?_) (fun h => ?_)
    all_goals (try simp only [Bool.not_eq_true, Bool.not_eq_true', Bool.and_eq_true, decide_eq_true_eq, decide_eq_false_iff_not, beq_iff_eq, bne_iff_ne, ne_eq, not_tr, Classical.not_not, beq_eq_false_iff_ne, bne_eq_false_iff_eq] at *)
    all_goals first
      | (rw [show l18.bad (s, j) i = true from decide_eq_true (by omega)]; rfl)
      | (rw [show l18.bad (s, j) i = false from decide_eq_false (by omega)]; rfl))
  (fun q ⟨s, j⟩ hc R K => by
    refine (r18 R K q s s.size).trans ?_
    rw [ltn s.size]
    rfl)
theorem C18_ok : CxOk C18 := mkCx_ok enter mixed (fun p h => by cases h) (fun l h => by
  simp only [List.mem_cons, List.not_mem_nil, or_false] at h
  rcases h with rfl
  exact ok18)
/-- Whether a string is a name. -/
def nmB (s : ByteArray) : Bool := decide (0 < s.size) && decide (s.size ≤ 40) && !anyF (bad16 (Go.Ev.bytesRow s)) s.size 0
def Fname : List D → Option (Bool × List D)
  | [.v (.string s)] => some (decide (s.size ≤ 1000000), [.v (.bool (nmB s))])
  | _ => none
theorem den_name : Den Try.prog 16 Fname := evF_den C16_ok fun ds rs h => by
  unfold Fname at h
  split at h
  · rename_i s
    simp only [Option.some.injEq, Prod.mk.injEq] at h
    obtain ⟨h0, rfl⟩ := h
    refine (t16 s).trans ?_
    rw [z3_iff.2 ⟨rfl, rfl, of_decide_eq_true h0⟩, br_true]
    unfold nmB
    cases anyF (bad16 (Go.Ev.bytesRow s)) s.size 0
    · by_cases h1 : 0 < s.size
      · rw [decide_eq_true (show (s.size : Int) > 0 by omega), decide_eq_true h1]
        by_cases h2 : s.size ≤ 40
        · rw [decide_eq_true (show (s.size : Int) ≤ 40 by omega), decide_eq_true h2]; rfl
        · rw [decide_eq_false (show ¬ (s.size : Int) ≤ 40 by omega), decide_eq_false h2]; rfl
      · rw [decide_eq_false (show ¬ (s.size : Int) > 0 by omega), decide_eq_false h1]; rfl
    · rw [Bool.not_true, Bool.and_false]; rfl
  · cases h
theorem nm_first (s : ByteArray) (h : 0 < s.size) (hl : s.size ≤ 40) : nmB s = (decide (97 ≤ (((s.data.getD 0 0).toNat : Nat) : Int)) && decide ((((s.data.getD 0 0).toNat : Nat) : Int) ≤ 122) && !anyF (bad18 s) s.size 0) := by
  unfold nmB
  rw [decide_eq_true h, decide_eq_true hl, Bool.true_and, Bool.true_and, Bool.eq_iff_iff]
  simp only [Bool.and_eq_true, decide_eq_true_eq, Bool.not_eq_true', anyF_false, Nat.zero_add, Nat.zero_le, forall_const, bad16, bad18, decide_eq_false_iff_not]
  constructor
  · intro h1
    have h0 := h1 0 h
    have e0 : (Go.Ev.bytesRow s).I 0 0 = (((s.data.getD 0 0).toNat : Nat) : Int) := rfl
    rw [e0] at h0
    refine ⟨by omega, fun i hi => ?_⟩
    have hi := h1 i hi
    have ei : (Go.Ev.bytesRow s).I i 0 = (((s.data.getD i 0).toNat : Nat) : Int) := rfl
    rw [ei] at hi
    omega
  · rintro ⟨⟨h1, h2⟩, h3⟩ i hi
    have hi := h3 i hi
    have ei : (Go.Ev.bytesRow s).I i 0 = (((s.data.getD i 0).toNat : Nat) : Int) := rfl
    rw [ei]
    by_cases e : i = 0
    · subst e; omega
    · omega
theorem den_Name : Den Try.prog 18 Fname := evF_den C18_ok fun ds rs h => by
  unfold Fname at h
  split at h
  · rename_i s
    simp only [Option.some.injEq, Prod.mk.injEq] at h
    obtain ⟨h0, rfl⟩ := h
    refine (t18 s).trans ?_
    rw [z2_iff.2 ⟨rfl, of_decide_eq_true h0⟩, br_true]
    by_cases h1 : 0 < s.size
    · by_cases h2 : s.size ≤ 40
      · rw [nm_first s h1 h2, decide_eq_false (show ¬ (s.size : Int) < 1 by omega), decide_eq_false (show ¬ (s.size : Int) > 40 by omega), decide_eq_true (show (0 : Int) < (s.size : Int) by omega)]
        show br (decide ((((s.data.getD 0 0).toNat : Nat) : Int) < 97)) _ (br (decide ((((s.data.getD 0 0).toNat : Nat) : Int) > 122)) _ _) = _
        generalize (((s.data.getD 0 0).toNat : Nat) : Int) = c
        by_cases a1 : c < 97
        · rw [decide_eq_true a1, decide_eq_false (show ¬ 97 ≤ c by omega)]; rfl
        · rw [decide_eq_false a1, decide_eq_true (show 97 ≤ c by omega)]
          by_cases a2 : c ≤ 122
          · rw [decide_eq_false (show ¬ c > 122 by omega), decide_eq_true a2]
            cases anyF (bad18 s) s.size 0 <;> rfl
          · rw [decide_eq_true (show c > 122 by omega), decide_eq_false a2]; rfl
      · rw [decide_eq_false (show ¬ (s.size : Int) < 1 by omega), decide_eq_true (show (s.size : Int) > 40 by omega)]
        unfold nmB
        rw [decide_eq_false h2, Bool.and_false]; rfl
    · rw [decide_eq_true (show (s.size : Int) < 1 by omega)]
      unfold nmB
      rw [decide_eq_false h1]; rfl
  · cases h
end Go.Proofs.Ytopdfmhlgkbaaaa

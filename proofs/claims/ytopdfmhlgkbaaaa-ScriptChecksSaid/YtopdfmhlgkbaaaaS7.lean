/- The reference: Great, SameNames, Same. No conditions. -/
import Derived.Test.YtopdfmhlgkbaaaaS6
namespace Go.Proofs.Ytopdfmhlgkbaaaa
open Go.Ev
set_option linter.all false
def zb (n : Nat) (j : Int) : Bool := decide (j = 0 ∧ n ≤ big)
theorem zb_iff {n : Nat} {j : Int} : zb n j = true ↔ j = 0 ∧ n ≤ big := by unfold zb; rw [decide_eq_true_eq]
theorem wsb {j : Nat} (h : j < big) : IntKind.i64.wrap ((j : Int) + 1) = ((j + 1 : Nat) : Int) := by
  have h : j < 9223372036854775807 := h
  rw [wrap64 (by omega) (by omega)]; omega
theorem ltbig {n : Nat} (h : n ≤ big) : n < 18446744073709551616 := by
  have h : n ≤ 9223372036854775807 := h
  omega
theorem ij (j : Int) (n : Nat) (h : 0 ≤ j ∧ j < n) : (decide (0 ≤ j) && decide (j < (n : Int))) = true := by simp only [Bool.and_eq_true, decide_eq_true_eq]; exact h
def p4 : PSt := { τ := [.v (.sl 0)] ++ pu 2 ++ [.v (.int .i64)] ++ pu 56, saved := [[]], mem := [.row [.int .u8, .slice [.str], .slice [.int .i64]] false] }
def p4i : PSt := { τ := [.v (.sl 0)] ++ pu 2 ++ [.v (.int .i64), .v (.int .i64)] ++ pu 55, saved := [[]], mem := [.row [.int .u8, .slice [.str], .slice [.int .i64]] false] }
def p12 : PSt := { τ := [.v (.sl 0), .v (.sl 1)] ++ pu 3 ++ [.v (.int .i64)] ++ pu 20, saved := [[]], mem := [.row [.str, .int .u8] false, .row [.str, .int .u8] false] }
def p13 : PSt := { τ := [.v (.sl 0), .v (.sl 1)] ++ pu 3 ++ [.v (.int .i64)] ++ pu 108, saved := [[]], mem := [.row [.int .u8, .slice [.str], .slice [.int .i64]] false, .row [.int .u8, .slice [.str], .slice [.int .i64]] false] }
def p13a : PSt := { τ := [.v (.sl 0), .v (.sl 1)] ++ pu 3 ++ [.v (.int .i64), .v (.int .i64)] ++ pu 107, saved := [[]], mem := [.row [.int .u8, .slice [.str], .slice [.int .i64]] false, .row [.int .u8, .slice [.str], .slice [.int .i64]] false] }
def p13b : PSt := { τ := [.v (.sl 0), .v (.sl 1)] ++ pu 3 ++ [.v (.int .i64)] ++ pu 1 ++ [.v (.int .i64)] ++ pu 106, saved := [[]], mem := [.row [.int .u8, .slice [.str], .slice [.int .i64]] false, .row [.int .u8, .slice [.str], .slice [.int .i64]] false] }
def d4 (its : List It) : Option (Nat × Int × Row) := match its with | [.n n, .i j, .r l] => some (n, j, l) | _ => none
def d4i (its : List It) : Option (Nat × Int × Int × Row) := match its with | [.n n, .i j, .i k, .r l] => some (n, j, k, l) | _ => none
def grS (l : Row) (j i : Nat) : Bool := decide ((((l.R j 1).S i 0).size : Int) > 100)
/-- A line that is great. -/
def grB (l : Row) (j : Nat) : Bool := decide (((l.R j 1).n : Int) > 20) || (decide (((l.R j 2).n : Int) > 100) || anyF (grS l j) (l.R j 1).n 0)
def l4i : ScanL (Nat × Int × Int × Row) where
  f := 4
  id := 7
  lv := [0, 3, 4]
  lx := [0, 2, 3]
  p := p4i
  dat := d4i
  S := fun (n, j, k, l) i => [.n n, .i j, .i i, .r l]
  len := fun (n, j, k, l) => (l.R j.toNat 1).n
  cnd := fun (n, j, k, l) => decide (0 ≤ j ∧ j < n) && zb (l.R j.toNat 1).n k
  bad := fun (n, j, k, l) => grS l j.toNat
  Kb := fun (n, j, k, l) i K => K .ret ⟨[.slice (some ⟨0, 0, some 0⟩) (n) (0)] ++ us 1 ++ [.bool (true), i64 j] ++ us 56, [[]], [some (.row [.int .u8, .slice [.str], .slice [.int .i64]] false (l))]⟩
  Ke := fun (n, j, k, l) K => K (.exit 2) ⟨[.slice (some ⟨0, 0, some 0⟩) (n) (0)] ++ us 2 ++ [i64 j] ++ us 56, [[]], [some (.row [.int .u8, .slice [.str], .slice [.int .i64]] false (l))]⟩
def l4 : ScanL (Nat × Int × Row) where
  f := 4
  id := 2
  lv := [0, 3]
  lx := [0, 2]
  p := p4
  dat := d4
  S := fun (n, j, l) i => [.n n, .i i, .r l]
  len := fun (n, j, l) => n
  cnd := fun (n, j, l) => zb n j
  bad := fun (n, j, l) => grB l
  Kb := fun (n, j, l) i K => K .ret ⟨[.slice (some ⟨0, 0, some 0⟩) (n) (0)] ++ us 1 ++ [.bool (true)] ++ us 57, [[]], [some (.row [.int .u8, .slice [.str], .slice [.int .i64]] false (l))]⟩
  Ke := fun (n, j, l) K => K (.exit 0) ⟨[.slice (some ⟨0, 0, some 0⟩) (n) (0)] ++ us 59, [[]], [some (.row [.int .u8, .slice [.str], .slice [.int .i64]] false (l))]⟩
def d12 (its : List It) : Option (Nat × Nat × Int × Row × Row) := match its with | [.n n, .n m, .i j, .r l, .r o] => some (n, m, j, l, o) | _ => none
def neK (l o : Row) (i : Nat) : Bool := !(l.S i 0 == o.S i 0 && (l.I i 1 == o.I i 1 && true))
def l12 : ScanL (Nat × Nat × Int × Row × Row) where
  f := 12
  id := 4
  lv := [0, 1, 5]
  lx := [4]
  p := p12
  dat := d12
  S := fun (n, m, j, l, o) i => [.n n, .n m, .i i, .r l, .r o]
  len := fun (n, m, j, l, o) => n
  cnd := fun (n, m, j, l, o) => zb n j && decide (n = m)
  bad := fun (n, m, j, l, o) => neK l o
  Kb := fun (n, m, j, l, o) i K => K .ret ⟨us 4 ++ [.bool (false)] ++ us 21, [[]], []⟩
  Ke := fun (n, m, j, l, o) K => K (.exit 0) ⟨us 26, [[]], []⟩
def d13i (its : List It) : Option (Nat × Nat × Int × Int × Row × Row) := match its with | [.n n, .n m, .i j, .i k, .r l, .r o] => some (n, m, j, k, l, o) | _ => none
def neS (l o : Row) (j i : Nat) : Bool := !((l.R j 1).S i 0).toList == ((o.R j 1).S i 0).toList
def neU (l o : Row) (j i : Nat) : Bool := (l.R j 2).I i 0 != (o.R j 2).I i 0
def neL (l o : Row) (j : Nat) : Bool := l.I j 0 != o.I j 0 || (((l.R j 1).n : Int) != ((o.R j 1).n : Int) || (((l.R j 2).n : Int) != ((o.R j 2).n : Int) || (anyF (neS l o j) (l.R j 1).n 0 || anyF (neU l o j) (l.R j 2).n 0)))
def c13 (x : Nat) : Nat × Nat × Int × Int × Row × Row → Bool := fun (n, m, j, k, l, o) => decide (0 ≤ j ∧ j < n ∧ n = m ∧ (l.R j.toNat x).n = (o.R j.toNat x).n) && zb (l.R j.toNat x).n k
def l13a : ScanL (Nat × Nat × Int × Int × Row × Row) where
  f := 13
  id := 9
  lv := [0, 1, 5, 6]
  lx := [0, 1, 4, 5]
  p := p13a
  dat := d13i
  S := fun (n, m, j, k, l, o) i => [.n n, .n m, .i j, .i i, .r l, .r o]
  len := fun (n, m, j, k, l, o) => (l.R j.toNat 1).n
  cnd := c13 1
  bad := fun (n, m, j, k, l, o) => neS l o j.toNat
  Kb := fun (n, m, j, k, l, o) i K => K .ret ⟨[.slice (some ⟨0, 0, some 0⟩) (n) (0), .slice (some ⟨1, 0, some 0⟩) (m) (0)] ++ us 2 ++ [.bool (false), i64 j] ++ us 108, [[]], [some (.row [.int .u8, .slice [.str], .slice [.int .i64]] false (l)), some (.row [.int .u8, .slice [.str], .slice [.int .i64]] false (o))]⟩
  Ke := fun (n, m, j, k, l, o) K => K (.exit 2) ⟨[.slice (some ⟨0, 0, some 0⟩) (n) (0), .slice (some ⟨1, 0, some 0⟩) (m) (0)] ++ us 3 ++ [i64 j] ++ us 108, [[]], [some (.row [.int .u8, .slice [.str], .slice [.int .i64]] false (l)), some (.row [.int .u8, .slice [.str], .slice [.int .i64]] false (o))]⟩
def l13b : ScanL (Nat × Nat × Int × Int × Row × Row) where
  f := 13
  id := 14
  lv := [0, 1, 5, 7]
  lx := [0, 1, 4, 5]
  p := p13b
  dat := d13i
  S := fun (n, m, j, k, l, o) i => [.n n, .n m, .i j, .i i, .r l, .r o]
  len := fun (n, m, j, k, l, o) => (l.R j.toNat 2).n
  cnd := c13 2
  bad := fun (n, m, j, k, l, o) => neU l o j.toNat
  Kb := fun (n, m, j, k, l, o) i K => K .ret ⟨[.slice (some ⟨0, 0, some 0⟩) (n) (0), .slice (some ⟨1, 0, some 0⟩) (m) (0)] ++ us 2 ++ [.bool (false), i64 j] ++ us 108, [[]], [some (.row [.int .u8, .slice [.str], .slice [.int .i64]] false (l)), some (.row [.int .u8, .slice [.str], .slice [.int .i64]] false (o))]⟩
  Ke := fun (n, m, j, k, l, o) K => K (.exit 4) ⟨[.slice (some ⟨0, 0, some 0⟩) (n) (0), .slice (some ⟨1, 0, some 0⟩) (m) (0)] ++ us 3 ++ [i64 j] ++ us 108, [[]], [some (.row [.int .u8, .slice [.str], .slice [.int .i64]] false (l)), some (.row [.int .u8, .slice [.str], .slice [.int .i64]] false (o))]⟩
/-- The slices in a list of lines are no greater than slices are. -/
def bgL (l : Row) : Bool := decide (l.n ≤ big) && !anyF (fun i => !(decide ((l.R i 1).n ≤ big) && decide ((l.R i 2).n ≤ big))) l.n 0
theorem bgL_iff {l : Row} : bgL l = true ↔ l.n ≤ big ∧ ∀ i, i < l.n → (l.R i 1).n ≤ big ∧ (l.R i 2).n ≤ big := by
  unfold bgL
  simp only [Bool.and_eq_true, decide_eq_true_eq, Bool.not_eq_true', anyF_false, Nat.zero_add, Nat.zero_le, forall_const, Bool.not_eq_false']
def l13 : ScanL (Nat × Nat × Int × Row × Row) where
  f := 13
  id := 4
  lv := [0, 1, 5]
  lx := [4]
  p := p13
  dat := d12
  S := fun (n, m, j, l, o) i => [.n n, .n m, .i i, .r l, .r o]
  len := fun (n, m, j, l, o) => n
  cnd := fun (n, m, j, l, o) => zb n j && (decide (n = m ∧ n = l.n) && bgL l)
  bad := fun (n, m, j, l, o) => neL l o
  Kb := fun (n, m, j, l, o) i K => K .ret ⟨us 4 ++ [.bool (false)] ++ us 109, [[]], []⟩
  Ke := fun (n, m, j, l, o) K => K (.exit 0) ⟨us 114, [[]], []⟩
noncomputable def C4 : Cx := mkCx Try.prog fns [] [l4.C, l4i.C, l12.C, l13.C, l13a.C, l13b.C]
theorem r4i (R : St → Option (List D)) (K : X → St → Option (List D)) (q n : Nat) (j k : Int) (l : Row) : bodyOf C4 4 7 q (Go.Ev.bst p4i [.n n, .i j, .i k, .r l]) (rnd [0, 3, 4] (some [0, 2, 3]) R K) =
    br (decide (0 ≤ j) && decide (j < (↑n : Int))) (br (decide (k < (↑(l.R (0 + j.toNat) 1).n : Int))) (br (decide (0 ≤ j) && decide (j < (↑n : Int))) (br (decide (0 ≤ k) && decide (k < (↑(l.R (0 + j.toNat) 1).n : Int))) (br (decide ((↑((l.R (0 + j.toNat) 1).S (0 + k.toNat) 0).size : Int) > 100)) (K .ret ⟨[.slice (some ⟨0, 0, some 0⟩) (n) (0)] ++ us 1 ++ [.bool (true), i64 (j)] ++ us 56, [[]], [some (.row [.int .u8, .slice [.str], .slice [.int .i64]] false (l))]⟩) (R ⟨[.slice (some ⟨0, 0, some 0⟩) (n) (0)] ++ us 2 ++ [i64 (j), i64 (IntKind.i64.wrap (k + 1))] ++ us 55, [[]], [some (.row [.int .u8, .slice [.str], .slice [.int .i64]] false (l))]⟩)) (none)) (none)) (K (.exit 2) ⟨[.slice (some ⟨0, 0, some 0⟩) (n) (0)] ++ us 2 ++ [i64 (j)] ++ us 56, [[]], [some (.row [.int .u8, .slice [.str], .slice [.int .i64]] false (l))]⟩)) (none) := by kernel_rfl
theorem r4 (R : St → Option (List D)) (K : X → St → Option (List D)) (q n : Nat) (j : Int) (l : Row) : bodyOf C4 4 2 q (Go.Ev.bst p4 [.n n, .i j, .r l]) (rnd [0, 3] (some [0, 2]) R K) =
    br (decide (j < (↑n : Int))) (br (decide (0 ≤ j) && decide (j < (↑n : Int))) (br (decide ((↑(l.R (0 + j.toNat) 1).n : Int) > 20)) (K .ret ⟨[.slice (some ⟨0, 0, some 0⟩) (n) (0)] ++ us 1 ++ [.bool (true)] ++ us 57, [[]], [some (.row [.int .u8, .slice [.str], .slice [.int .i64]] false (l))]⟩) (br (decide (0 ≤ j) && decide (j < (↑n : Int))) (br (decide ((↑(l.R (0 + j.toNat) 2).n : Int) > 100)) (K .ret ⟨[.slice (some ⟨0, 0, some 0⟩) (n) (0)] ++ us 1 ++ [.bool (true)] ++ us 57, [[]], [some (.row [.int .u8, .slice [.str], .slice [.int .i64]] false (l))]⟩) (br (decide (0 ≤ j ∧ j < (↑n : Int)) && zb (l.R j.toNat 1).n 0) (br (anyF (grS l j.toNat) (l.R j.toNat 1).n 0) (K .ret ⟨[.slice (some ⟨0, 0, some 0⟩) (n) (0)] ++ us 1 ++ [.bool (true)] ++ us 57, [[]], [some (.row [.int .u8, .slice [.str], .slice [.int .i64]] false (l))]⟩) (R ⟨[.slice (some ⟨0, 0, some 0⟩) (n) (0)] ++ us 2 ++ [i64 (IntKind.i64.wrap (j + 1))] ++ us 56, [[]], [some (.row [.int .u8, .slice [.str], .slice [.int .i64]] false (l))]⟩)) (none))) (none))) (none)) (K (.exit 0) ⟨[.slice (some ⟨0, 0, some 0⟩) (n) (0)] ++ us 59, [[]], [some (.row [.int .u8, .slice [.str], .slice [.int .i64]] false (l))]⟩) := by kernel_rfl
theorem r12 (R : St → Option (List D)) (K : X → St → Option (List D)) (q n m : Nat) (j : Int) (l o : Row) : bodyOf C4 12 4 q (Go.Ev.bst p12 [.n n, .n m, .i j, .r l, .r o]) (rnd [0, 1, 5] (some [4]) R K) =
    br (decide (j < (↑n : Int))) (br (decide (0 ≤ j) && decide (j < (↑n : Int))) (br (decide (0 ≤ j) && decide (j < (↑m : Int))) (br (!(l.S (0 + j.toNat) 0 == o.S (0 + j.toNat) 0 && (l.I (0 + j.toNat) 1 == o.I (0 + j.toNat) 1 && true))) (K .ret ⟨us 4 ++ [.bool (false)] ++ us 21, [[]], []⟩) (R ⟨[.slice (some ⟨0, 0, some 0⟩) (n) (0), .slice (some ⟨1, 0, some 0⟩) (m) (0)] ++ us 3 ++ [i64 (IntKind.i64.wrap (j + 1))] ++ us 20, [[]], [some (.row [.str, .int .u8] false (l)), some (.row [.str, .int .u8] false (o))]⟩)) (none)) (none)) (K (.exit 0) ⟨us 26, [[]], []⟩) := by kernel_rfl
theorem r13a (R : St → Option (List D)) (K : X → St → Option (List D)) (q n m : Nat) (j k : Int) (l o : Row) : bodyOf C4 13 9 q (Go.Ev.bst p13a [.n n, .n m, .i j, .i k, .r l, .r o]) (rnd [0, 1, 5, 6] (some [0, 1, 4, 5]) R K) =
    br (decide (0 ≤ j) && decide (j < (↑n : Int))) (br (decide (k < (↑(l.R (0 + j.toNat) 1).n : Int))) (br (decide (0 ≤ j) && decide (j < (↑n : Int))) (br (decide (0 ≤ k) && decide (k < (↑(l.R (0 + j.toNat) 1).n : Int))) (br (decide (0 ≤ j) && decide (j < (↑m : Int))) (br (decide (0 ≤ k) && decide (k < (↑(o.R (0 + j.toNat) 1).n : Int))) (br (!((l.R (0 + j.toNat) 1).S (0 + k.toNat) 0).toList == ((o.R (0 + j.toNat) 1).S (0 + k.toNat) 0).toList) (K .ret ⟨[.slice (some ⟨0, 0, some 0⟩) (n) (0), .slice (some ⟨1, 0, some 0⟩) (m) (0)] ++ us 2 ++ [.bool (false), i64 (j)] ++ us 108, [[]], [some (.row [.int .u8, .slice [.str], .slice [.int .i64]] false (l)), some (.row [.int .u8, .slice [.str], .slice [.int .i64]] false (o))]⟩) (R ⟨[.slice (some ⟨0, 0, some 0⟩) (n) (0), .slice (some ⟨1, 0, some 0⟩) (m) (0)] ++ us 3 ++ [i64 (j), i64 (IntKind.i64.wrap (k + 1))] ++ us 107, [[]], [some (.row [.int .u8, .slice [.str], .slice [.int .i64]] false (l)), some (.row [.int .u8, .slice [.str], .slice [.int .i64]] false (o))]⟩)) (none)) (none)) (none)) (none)) (K (.exit 2) ⟨[.slice (some ⟨0, 0, some 0⟩) (n) (0), .slice (some ⟨1, 0, some 0⟩) (m) (0)] ++ us 3 ++ [i64 (j)] ++ us 108, [[]], [some (.row [.int .u8, .slice [.str], .slice [.int .i64]] false (l)), some (.row [.int .u8, .slice [.str], .slice [.int .i64]] false (o))]⟩)) (none) := by kernel_rfl
theorem r13b (R : St → Option (List D)) (K : X → St → Option (List D)) (q n m : Nat) (j k : Int) (l o : Row) : bodyOf C4 13 14 q (Go.Ev.bst p13b [.n n, .n m, .i j, .i k, .r l, .r o]) (rnd [0, 1, 5, 7] (some [0, 1, 4, 5]) R K) =
    br (decide (0 ≤ j) && decide (j < (↑n : Int))) (br (decide (k < (↑(l.R (0 + j.toNat) 2).n : Int))) (br (decide (0 ≤ j) && decide (j < (↑n : Int))) (br (decide (0 ≤ k) && decide (k < (↑(l.R (0 + j.toNat) 2).n : Int))) (br (decide (0 ≤ j) && decide (j < (↑m : Int))) (br (decide (0 ≤ k) && decide (k < (↑(o.R (0 + j.toNat) 2).n : Int))) (br ((l.R (0 + j.toNat) 2).I (0 + k.toNat) 0 != (o.R (0 + j.toNat) 2).I (0 + k.toNat) 0) (K .ret ⟨[.slice (some ⟨0, 0, some 0⟩) (n) (0), .slice (some ⟨1, 0, some 0⟩) (m) (0)] ++ us 2 ++ [.bool (false), i64 (j)] ++ us 108, [[]], [some (.row [.int .u8, .slice [.str], .slice [.int .i64]] false (l)), some (.row [.int .u8, .slice [.str], .slice [.int .i64]] false (o))]⟩) (R ⟨[.slice (some ⟨0, 0, some 0⟩) (n) (0), .slice (some ⟨1, 0, some 0⟩) (m) (0)] ++ us 3 ++ [i64 (j)] ++ us 1 ++ [i64 (IntKind.i64.wrap (k + 1))] ++ us 106, [[]], [some (.row [.int .u8, .slice [.str], .slice [.int .i64]] false (l)), some (.row [.int .u8, .slice [.str], .slice [.int .i64]] false (o))]⟩)) (none)) (none)) (none)) (none)) (K (.exit 4) ⟨[.slice (some ⟨0, 0, some 0⟩) (n) (0), .slice (some ⟨1, 0, some 0⟩) (m) (0)] ++ us 3 ++ [i64 (j)] ++ us 108, [[]], [some (.row [.int .u8, .slice [.str], .slice [.int .i64]] false (l)), some (.row [.int .u8, .slice [.str], .slice [.int .i64]] false (o))]⟩)) (none) := by kernel_rfl
theorem r13 (R : St → Option (List D)) (K : X → St → Option (List D)) (q n m : Nat) (j : Int) (l o : Row) : bodyOf C4 13 4 q (Go.Ev.bst p13 [.n n, .n m, .i j, .r l, .r o]) (rnd [0, 1, 5] (some [4]) R K) =
    br (decide (j < (↑n : Int))) (br (decide (0 ≤ j) && decide (j < (↑n : Int))) (br (decide (0 ≤ j) && decide (j < (↑m : Int))) (br (l.I (0 + j.toNat) 0 != o.I (0 + j.toNat) 0) (K .ret ⟨us 4 ++ [.bool (false)] ++ us 109, [[]], []⟩) (br (decide (0 ≤ j) && decide (j < (↑n : Int))) (br (decide (0 ≤ j) && decide (j < (↑m : Int))) (br ((↑(l.R (0 + j.toNat) 1).n : Int) != (↑(o.R (0 + j.toNat) 1).n : Int)) (K .ret ⟨us 4 ++ [.bool (false)] ++ us 109, [[]], []⟩) (br (decide (0 ≤ j) && decide (j < (↑n : Int))) (br (decide (0 ≤ j) && decide (j < (↑m : Int))) (br ((↑(l.R (0 + j.toNat) 2).n : Int) != (↑(o.R (0 + j.toNat) 2).n : Int)) (K .ret ⟨us 4 ++ [.bool (false)] ++ us 109, [[]], []⟩) (br (c13 1 (n, m, j, 0, l, o)) (br (anyF (neS l o j.toNat) (l.R j.toNat 1).n 0) (K .ret ⟨us 4 ++ [.bool (false)] ++ us 109, [[]], []⟩) (br (c13 2 (n, m, j, 0, l, o)) (br (anyF (neU l o j.toNat) (l.R j.toNat 2).n 0) (K .ret ⟨us 4 ++ [.bool (false)] ++ us 109, [[]], []⟩) (R ⟨[.slice (some ⟨0, 0, some 0⟩) (n) (0), .slice (some ⟨1, 0, some 0⟩) (m) (0)] ++ us 3 ++ [i64 (IntKind.i64.wrap (j + 1))] ++ us 108, [[]], [some (.row [.int .u8, .slice [.str], .slice [.int .i64]] false (l)), some (.row [.int .u8, .slice [.str], .slice [.int .i64]] false (o))]⟩)) (none))) (none))) (none)) (none))) (none)) (none))) (none)) (none)) (K (.exit 0) ⟨us 114, [[]], []⟩) := by kernel_rfl
theorem t4 (l : Row) : evF C4 6 4 [.slice ksL l] =
    br (zb l.n 0) (br (anyF (grB l) l.n 0) (some [.v (.bool (true))]) (br (decide ((↑l.n : Int) > 40)) (br (decide ((↑l.n : Int) ≤ 200)) (some [.v (.bool (true))]) (some [.v (.bool (decide ((↑l.n : Int) > 210)))])) (some [.v (.bool (decide ((↑l.n : Int) > 210)))]))) (none) := by kernel_rfl
theorem t12 (l o : Row) : evF C4 6 12 [.slice ksN l, .slice ksN o] =
    br ((↑l.n : Int) != (↑o.n : Int)) (some [.v (.bool (false))]) (br (zb l.n 0 && decide (l.n = o.n)) (br (anyF (neK l o) l.n 0) (some [.v (.bool (false))]) (some [.v (.bool (true))])) (none)) := by kernel_rfl
theorem t13 (l o : Row) : evF C4 6 13 [.slice ksL l, .slice ksL o] =
    br ((↑l.n : Int) != (↑o.n : Int)) (some [.v (.bool (false))]) (br (zb l.n 0 && (decide (l.n = o.n ∧ l.n = l.n) && bgL l)) (br (anyF (neL l o) l.n 0) (some [.v (.bool (false))]) (some [.v (.bool (true))])) (none)) := by kernel_rfl
theorem ok4i : LoopOk C4 l4i.C := l4i.ok (by kernel_rfl)
  (fun its x h hc => by
    replace h : d4i its = some x := h
    unfold d4i at h
    split at h
    · cases h
      obtain ⟨h3, h4⟩ := zb_iff.1 (Bool.and_eq_true_iff.1 hc).2
      subst h3
      rfl
    · cases h)
  (fun ⟨n, j, k, l⟩ hc => ltbig (zb_iff.1 (Bool.and_eq_true_iff.1 hc).2).2)
  (fun q ⟨n, j, k, l⟩ i hc hi R K => by
    have h3 := of_decide_eq_true (Bool.and_eq_true_iff.1 hc).1
    obtain ⟨h4, h5⟩ := zb_iff.1 (Bool.and_eq_true_iff.1 hc).2
    replace hi : i < (l.R j.toNat 1).n := hi
    refine (r4i R K q n j i l).trans ?_
    rw [Nat.zero_add, Int.toNat_natCast, Nat.zero_add, gd i _ hi, ltd i _ hi, wsb (by omega), ij j n h3]
    rfl)
  (fun q ⟨n, j, k, l⟩ hc R K => by
    have h3 := of_decide_eq_true (Bool.and_eq_true_iff.1 hc).1
    refine (r4i R K q n j (l.R j.toNat 1).n l).trans ?_
    rw [Nat.zero_add, ij j n h3, ltn]
    rfl)
theorem ok4 : LoopOk C4 l4.C := l4.ok (by kernel_rfl)
  (fun its x h hc => by
    replace h : d4 its = some x := h
    unfold d4 at h
    split at h
    · cases h
      obtain ⟨h3, h4⟩ := zb_iff.1 hc
      subst h3
      rfl
    · cases h)
  (fun ⟨n, j, l⟩ hc => ltbig (zb_iff.1 hc).2)
  (fun q ⟨n, j, l⟩ i hc hi R K => by
    obtain ⟨h4, h5⟩ := zb_iff.1 hc
    replace hi : i < n := hi
    refine (r4 R K q n i l).trans ?_
    rw [Int.toNat_natCast, Nat.zero_add, gd i _ hi, ltd i _ hi, wsb (by omega), decide_eq_true (show 0 ≤ (i : Int) ∧ (i : Int) < (n : Int) by omega)]
    show _ = br (grB l i) _ _
    unfold grB
    by_cases h1 : ((l.R i 1).n : Int) > 20
    · rw [decide_eq_true h1]; rfl
    · rw [decide_eq_false h1, zb_iff.2 ⟨rfl, show (l.R i 1).n ≤ 9223372036854775807 by omega⟩]
      cases decide (((l.R i 2).n : Int) > 100) <;> rfl)
  (fun q ⟨n, j, l⟩ hc R K => by
    refine (r4 R K q n n l).trans ?_
    rw [ltn]
    rfl)
theorem ok12 : LoopOk C4 l12.C := l12.ok (by kernel_rfl)
  (fun its x h hc => by
    replace h : d12 its = some x := h
    unfold d12 at h
    split at h
    · cases h
      obtain ⟨h3, h4⟩ := zb_iff.1 (Bool.and_eq_true_iff.1 hc).1
      subst h3
      rfl
    · cases h)
  (fun ⟨n, m, j, l, o⟩ hc => ltbig (zb_iff.1 (Bool.and_eq_true_iff.1 hc).1).2)
  (fun q ⟨n, m, j, l, o⟩ i hc hi R K => by
    obtain ⟨h4, h5⟩ := zb_iff.1 (Bool.and_eq_true_iff.1 hc).1
    have h6 : n = m := of_decide_eq_true (Bool.and_eq_true_iff.1 hc).2
    replace hi : i < n := hi
    subst h6
    refine (r12 R K q n n i l o).trans ?_
    rw [Int.toNat_natCast, Nat.zero_add, gd i _ hi, ltd i _ hi, wsb (by omega)]
    rfl)
  (fun q ⟨n, m, j, l, o⟩ hc R K => by
    refine (r12 R K q n m n l o).trans ?_
    rw [ltn]
    rfl)
theorem c13_iff {x n m : Nat} {j k : Int} {l o : Row} : c13 x (n, m, j, k, l, o) = true ↔ (0 ≤ j ∧ j < n ∧ n = m ∧ (l.R j.toNat x).n = (o.R j.toNat x).n) ∧ k = 0 ∧ (l.R j.toNat x).n ≤ big := by
  unfold c13
  rw [Bool.and_eq_true_iff, decide_eq_true_eq, zb_iff]
theorem ok13a : LoopOk C4 l13a.C := l13a.ok (by kernel_rfl)
  (fun its x h hc => by
    replace h : d13i its = some x := h
    unfold d13i at h
    split at h
    · cases h
      obtain ⟨_, h3, h4⟩ := c13_iff.1 hc
      subst h3
      rfl
    · cases h)
  (fun ⟨n, m, j, k, l, o⟩ hc => ltbig (c13_iff.1 hc).2.2)
  (fun q ⟨n, m, j, k, l, o⟩ i hc hi R K => by
    obtain ⟨⟨h1, h2, h6, h7⟩, h4, h5⟩ := c13_iff.1 hc
    replace hi : i < (l.R j.toNat 1).n := hi
    subst h6
    refine (r13a R K q n n j i l o).trans ?_
    rw [Nat.zero_add, Int.toNat_natCast, Nat.zero_add, gd i _ hi, ltd i _ hi, wsb (by omega), ij j n ⟨h1, h2⟩, ← h7, gd i _ hi]
    rfl)
  (fun q ⟨n, m, j, k, l, o⟩ hc R K => by
    obtain ⟨⟨h1, h2, h6, h7⟩, h4, h5⟩ := c13_iff.1 hc
    refine (r13a R K q n m j (l.R j.toNat 1).n l o).trans ?_
    rw [Nat.zero_add, ij j n ⟨h1, h2⟩, ltn]
    rfl)
theorem ok13b : LoopOk C4 l13b.C := l13b.ok (by kernel_rfl)
  (fun its x h hc => by
    replace h : d13i its = some x := h
    unfold d13i at h
    split at h
    · cases h
      obtain ⟨_, h3, h4⟩ := c13_iff.1 hc
      subst h3
      rfl
    · cases h)
  (fun ⟨n, m, j, k, l, o⟩ hc => ltbig (c13_iff.1 hc).2.2)
  (fun q ⟨n, m, j, k, l, o⟩ i hc hi R K => by
    obtain ⟨⟨h1, h2, h6, h7⟩, h4, h5⟩ := c13_iff.1 hc
    replace hi : i < (l.R j.toNat 2).n := hi
    subst h6
    refine (r13b R K q n n j i l o).trans ?_
    rw [Nat.zero_add, Int.toNat_natCast, Nat.zero_add, gd i _ hi, ltd i _ hi, wsb (by omega), ij j n ⟨h1, h2⟩, ← h7, gd i _ hi]
    rfl)
  (fun q ⟨n, m, j, k, l, o⟩ hc R K => by
    obtain ⟨⟨h1, h2, h6, h7⟩, h4, h5⟩ := c13_iff.1 hc
    refine (r13b R K q n m j (l.R j.toNat 2).n l o).trans ?_
    rw [Nat.zero_add, ij j n ⟨h1, h2⟩, ltn]
    rfl)
set_option maxRecDepth 100000 in
theorem ok13 : LoopOk C4 l13.C := l13.ok (by kernel_rfl)
  (fun its x h hc => by
    replace h : d12 its = some x := h
    unfold d12 at h
    split at h
    · cases h
      obtain ⟨h3, h4⟩ := zb_iff.1 (Bool.and_eq_true_iff.1 hc).1
      subst h3
      rfl
    · cases h)
  (fun ⟨n, m, j, l, o⟩ hc => ltbig (zb_iff.1 (Bool.and_eq_true_iff.1 hc).1).2)
  (fun q ⟨n, m, j, l, o⟩ i hc hi R K => by
    obtain ⟨h4, h5⟩ := zb_iff.1 (Bool.and_eq_true_iff.1 hc).1
    obtain ⟨h6, h7⟩ : n = m ∧ n = l.n := of_decide_eq_true (Bool.and_eq_true_iff.1 (Bool.and_eq_true_iff.1 hc).2).1
    have h8 := (bgL_iff.1 (Bool.and_eq_true_iff.1 (Bool.and_eq_true_iff.1 hc).2).2).2
    replace hi : i < n := hi
    subst h6
    refine (r13 R K q n n i l o).trans ?_
    rw [Int.toNat_natCast, Nat.zero_add, gd i _ hi, ltd i _ hi, wsb (by omega)]
    show _ = br (neL l o i) _ _
    unfold neL
    cases l.I i 0 != o.I i 0
    · cases e1 : (((l.R i 1).n : Int) != ((o.R i 1).n : Int))
      · have e1 : (l.R i 1).n = (o.R i 1).n := by simp at e1; omega
        cases e2 : (((l.R i 2).n : Int) != ((o.R i 2).n : Int))
        · have e2 : (l.R i 2).n = (o.R i 2).n := by simp at e2; omega
          rw [show c13 1 (n, n, (i : Int), 0, l, o) = true from c13_iff.2 ⟨⟨by omega, by omega, rfl, e1⟩, rfl, (h8 i (by omega)).1⟩, show c13 2 (n, n, (i : Int), 0, l, o) = true from c13_iff.2 ⟨⟨by omega, by omega, rfl, e2⟩, rfl, (h8 i (by omega)).2⟩]
          cases anyF (neS l o i) (l.R i 1).n 0 <;> rfl
        · rfl
      · rfl
    · rfl)
  (fun q ⟨n, m, j, l, o⟩ hc R K => by
    refine (r13 R K q n m n l o).trans ?_
    rw [ltn]
    rfl)
theorem C4_ok : CxOk C4 := mkCx_ok enter mixed (fun p h => by cases h) (fun l h => by
  simp only [List.mem_cons, List.not_mem_nil, or_false] at h
  rcases h with rfl | rfl | rfl | rfl | rfl | rfl
  · exact ok4
  · exact ok4i
  · exact ok12
  · exact ok13
  · exact ok13a
  · exact ok13b)
/-- Whether lines are great. -/
def greB (l : Row) : Bool := anyF (grB l) l.n 0 || (decide (40 < l.n ∧ l.n ≤ 200) || decide (210 < l.n))
def saNB (l o : Row) : Bool := decide (l.n = o.n) && !anyF (neK l o) l.n 0
def saLB (l o : Row) : Bool := decide (l.n = o.n) && !anyF (neL l o) l.n 0
def Fgreat : List D → Option (Bool × List D)
  | [.slice [.int .u8, .slice [.str], .slice [.int .i64]] l] => some (decide (l.n ≤ big), [.v (.bool (greB l))])
  | _ => none
def FsameN : List D → Option (Bool × List D)
  | [.slice [.str, .int .u8] l, .slice [.str, .int .u8] o] => some (decide (l.n ≤ big), [.v (.bool (saNB l o))])
  | _ => none
def FsameL : List D → Option (Bool × List D)
  | [.slice [.int .u8, .slice [.str], .slice [.int .i64]] l, .slice [.int .u8, .slice [.str], .slice [.int .i64]] o] => some (bgL l, [.v (.bool (saLB l o))])
  | _ => none
theorem den_great : Den Try.prog 4 Fgreat := evF_den C4_ok fun ds rs h => by
  unfold Fgreat at h
  split at h
  · rename_i l
    simp only [Option.some.injEq, Prod.mk.injEq] at h
    obtain ⟨h0, rfl⟩ := h
    refine (t4 l).trans ?_
    rw [zb_iff.2 ⟨rfl, of_decide_eq_true h0⟩]
    unfold greB
    cases anyF (grB l) l.n 0
    · by_cases h1 : l.n > 40
      · by_cases h2 : l.n ≤ 200
        · rw [decide_eq_true (show (l.n : Int) > 40 by omega), decide_eq_true (show (l.n : Int) ≤ 200 by omega), decide_eq_true (show 40 < l.n ∧ l.n ≤ 200 by omega)]; rfl
        · rw [decide_eq_true (show (l.n : Int) > 40 by omega), decide_eq_false (show ¬ (l.n : Int) ≤ 200 by omega), decide_eq_false (show ¬ (40 < l.n ∧ l.n ≤ 200) by omega)]
          by_cases h3 : 210 < l.n
          · rw [decide_eq_true (show (l.n : Int) > 210 by omega), decide_eq_true h3]; rfl
          · rw [decide_eq_false (show ¬ (l.n : Int) > 210 by omega), decide_eq_false h3]; rfl
      · rw [decide_eq_false (show ¬ (l.n : Int) > 40 by omega), decide_eq_false (show ¬ (40 < l.n ∧ l.n ≤ 200) by omega), decide_eq_false (show ¬ (l.n : Int) > 210 by omega), decide_eq_false (show ¬ 210 < l.n by omega)]; rfl
    · rfl
  · cases h
theorem nen {a b : Nat} : ((a : Int) != (b : Int)) = !decide (a = b) := by
  by_cases h : a = b
  · subst h; simp
  · rw [decide_eq_false h]; simp; omega
theorem den_sameN : Den Try.prog 12 FsameN := evF_den C4_ok fun ds rs h => by
  unfold FsameN at h
  split at h
  · rename_i l o
    simp only [Option.some.injEq, Prod.mk.injEq] at h
    obtain ⟨h0, rfl⟩ := h
    refine (t12 l o).trans ?_
    rw [zb_iff.2 ⟨rfl, of_decide_eq_true h0⟩, nen]
    unfold saNB
    cases decide (l.n = o.n)
    · rfl
    · cases anyF (neK l o) l.n 0 <;> rfl
  · cases h
theorem den_sameL : Den Try.prog 13 FsameL := evF_den C4_ok fun ds rs h => by
  unfold FsameL at h
  split at h
  · rename_i l o
    simp only [Option.some.injEq, Prod.mk.injEq] at h
    obtain ⟨h0, rfl⟩ := h
    refine (t13 l o).trans ?_
    rw [zb_iff.2 ⟨rfl, (bgL_iff.1 h0).1⟩, nen, h0]
    unfold saLB
    by_cases h1 : l.n = o.n
    · rw [decide_eq_true h1, decide_eq_true (show l.n = o.n ∧ l.n = l.n from ⟨h1, rfl⟩)]
      cases anyF (neL l o) l.n 0 <;> rfl
    · rw [decide_eq_false h1]; rfl
  · cases h
/-- Two lines are the same. -/
def lnE (l o : Row) (i k : Nat) : Prop := l.I i 0 = o.I k 0 ∧ ((l.R i 1).n = (o.R k 1).n ∧ ∀ x, x < (l.R i 1).n → (l.R i 1).S x 0 = (o.R k 1).S x 0) ∧ ((l.R i 2).n = (o.R k 2).n ∧ ∀ x, x < (l.R i 2).n → (l.R i 2).I x 0 = (o.R k 2).I x 0)
def saL (l o : Row) : Prop := l.n = o.n ∧ ∀ i, i < l.n → lnE l o i i
theorem neL_iff {l o : Row} {i : Nat} : neL l o i = false ↔ lnE l o i i := by
  unfold neL lnE
  simp only [Bool.or_eq_false_iff, nen, Bool.not_eq_false', decide_eq_true_eq, anyF_false, Nat.zero_add, Nat.zero_le, forall_const, bne_eq_false_iff_eq, neS, neU, bytesEq_iff]
  constructor
  · rintro ⟨a, b, c, d, e⟩; exact ⟨a, ⟨b, d⟩, c, e⟩
  · rintro ⟨a, ⟨b, d⟩, c, e⟩; exact ⟨a, b, c, d, e⟩
theorem saLB_iff {l o : Row} : saLB l o = true ↔ saL l o := by
  unfold saLB saL
  simp only [Bool.and_eq_true, decide_eq_true_eq, Bool.not_eq_true', anyF_false, Nat.zero_add, Nat.zero_le, forall_const, neL_iff]
theorem lnE.rfl' {l : Row} {i : Nat} : lnE l l i i := ⟨rfl, ⟨rfl, fun _ _ => rfl⟩, rfl, fun _ _ => rfl⟩
theorem lnE.symm {l o : Row} {i k : Nat} (h : lnE l o i k) : lnE o l k i := ⟨h.1.symm, ⟨h.2.1.1.symm, fun x hx => (h.2.1.2 x (h.2.1.1 ▸ hx)).symm⟩, h.2.2.1.symm, fun x hx => (h.2.2.2 x (h.2.2.1 ▸ hx)).symm⟩
theorem lnE.trans {l o p : Row} {i k j : Nat} (h : lnE l o i k) (g : lnE o p k j) : lnE l p i j := ⟨h.1.trans g.1, ⟨h.2.1.1.trans g.2.1.1, fun x hx => (h.2.1.2 x hx).trans (g.2.1.2 x (h.2.1.1 ▸ hx))⟩, h.2.2.1.trans g.2.2.1, fun x hx => (h.2.2.2 x hx).trans (g.2.2.2 x (h.2.2.1 ▸ hx))⟩
theorem saL.symm {l o : Row} (h : saL l o) : saL o l := ⟨h.1.symm, fun i hi => (h.2 i (h.1 ▸ hi)).symm⟩
theorem saL.trans {l o p : Row} (h : saL l o) (g : saL o p) : saL l p := ⟨h.1.trans g.1, fun i hi => (h.2 i hi).trans (g.2 i (h.1 ▸ hi))⟩
theorem saL.rfl' {l : Row} : saL l l := ⟨rfl, fun _ _ => lnE.rfl'⟩
theorem gre_not {l : Row} (h : greB l = false) : (l.n ≤ 210 ∧ (l.n ≤ 40 ∨ 200 < l.n)) ∧ ∀ j, j < l.n → (l.R j 1).n ≤ 20 ∧ (l.R j 2).n ≤ 100 ∧ ∀ i, i < (l.R j 1).n → ((l.R j 1).S i 0).size ≤ 100 := by
  unfold greB at h
  simp only [Bool.or_eq_false_iff, decide_eq_false_iff_not, anyF_false, Nat.zero_add, Nat.zero_le, forall_const, grB, grS] at h
  obtain ⟨h1, h2, h3⟩ := h
  refine ⟨by omega, fun j hj => ?_⟩
  obtain ⟨a, b, c⟩ := h1 j hj
  exact ⟨by omega, by omega, fun i hi => by have := c i hi; omega⟩
theorem gre_ok {l : Row} (h : greB l = false) : okL l = true := by
  obtain ⟨h1, h2⟩ := gre_not h
  refine okL_iff.2 ⟨by omega, fun j hj => ?_⟩
  obtain ⟨a, b, c⟩ := h2 j hj
  unfold lnB
  rw [smN_iff.2 ⟨by omega, fun i hi => by have := c i hi; omega⟩, decide_eq_true (show (l.R j 2).n ≤ 1000000 by omega)]; rfl
theorem ok_big {l : Row} (h : okL l = true) : bgL l = true := by
  obtain ⟨h1, h2⟩ := okL_iff.1 h
  refine bgL_iff.2 ⟨show l.n ≤ 9223372036854775807 by omega, fun j hj => ?_⟩
  have := h2 j hj
  unfold lnB at this
  obtain ⟨a, b⟩ := Bool.and_eq_true_iff.1 this
  have a := (smN_iff.1 a).1
  have b := of_decide_eq_true b
  exact ⟨show (l.R j 1).n ≤ 9223372036854775807 by omega, show (l.R j 2).n ≤ 9223372036854775807 by omega⟩
end Go.Proofs.Ytopdfmhlgkbaaaa

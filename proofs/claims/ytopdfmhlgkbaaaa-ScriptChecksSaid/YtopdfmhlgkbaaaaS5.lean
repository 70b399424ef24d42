/- Package script and its reference: valid lines. No conditions. -/
import Derived.Test.YtopdfmhlgkbaaaaS4
namespace Go.Proofs.Ytopdfmhlgkbaaaa
open Go.Ev
set_option linter.all false
def p19a : PSt := { τ := pu 1 ++ [.v (.c (.pointer (some ⟨0, 0, some 0⟩)))] ++ pu 37 ++ [.v (.sl 1), .v (.int .i64), .v (.int .i64)] ++ pu 31, saved := [[]], mem := [.box [.v (.int .u8), .v (.sl 1), .v (.sl 2)], .row [.str] false, .row [.int .i64] false] }
def p19b : PSt := { τ := pu 1 ++ [.v (.c (.pointer (some ⟨0, 0, some 0⟩)))] ++ pu 48 ++ [.v (.sl 1), .v (.int .i64), .v (.int .i64)] ++ pu 20, saved := [[]], mem := [.box [.v (.int .u8), .v (.sl 2), .v (.sl 1)], .row [.int .i64] false, .row [.str] false] }
def p21a : PSt := { τ := pu 1 ++ [.v (.c (.pointer (some ⟨0, 0, some 0⟩)))] ++ pu 2 ++ [.v (.int .i64)] ++ pu 87, saved := [[]], mem := [.box [.v (.int .u8), .v (.sl 1), .v (.sl 2)], .row [.str] false, .row [.int .i64] false] }
def p21b : PSt := { τ := pu 1 ++ [.v (.c (.pointer (some ⟨0, 0, some 0⟩)))] ++ pu 3 ++ [.v (.int .i64)] ++ pu 86, saved := [[]], mem := [.box [.v (.int .u8), .v (.sl 1), .v (.sl 2)], .row [.str] false, .row [.int .i64] false] }

def z5 (n m : Nat) (len j : Int) : Bool := decide (len = n ∧ j = 0 ∧ n ≤ 1000000 ∧ n = m)
theorem z5_iff {n m : Nat} {len j : Int} : z5 n m len j = true ↔ len = n ∧ j = 0 ∧ n ≤ 1000000 ∧ n = m := by unfold z5; rw [decide_eq_true_eq]
/-- Strings that are no great ones. -/
def smN (r : Row) (n : Nat) : Bool := decide (n ≤ 1000000) && !anyF (fun i => decide (1000000 < (r.S i 0).size)) n 0
theorem smN_iff {r : Row} {n : Nat} : smN r n = true ↔ n ≤ 1000000 ∧ ∀ i, i < n → (r.S i 0).size ≤ 1000000 := by
  unfold smN
  simp only [Bool.and_eq_true, decide_eq_true_eq, Bool.not_eq_true', anyF_false, Nat.zero_add, Nat.zero_le, forall_const, decide_eq_false_iff_not, Nat.not_lt]
def badN (r : Row) (j : Nat) : Bool := !nmB (r.S j 0)
def badU (r : Row) (j : Nat) : Bool := decide (r.I j 0 < -1000000000) || decide (r.I j 0 > 1000000000)
def d19a (its : List It) : Option (Nat × Int × Int × Int × Nat × Nat × Row × Row) := match its with | [.n n, .i len, .i j, .i w, .n a, .n b, .r nm, .r nu] => some (n, len, j, w, a, b, nm, nu) | _ => none
def d19b (its : List It) : Option (Nat × Int × Int × Int × Nat × Nat × Row × Row) := match its with | [.n n, .i len, .i j, .i w, .n a, .n b, .r nu, .r nm] => some (n, len, j, w, a, b, nm, nu) | _ => none
def d21 (its : List It) : Option (Int × Int × Nat × Nat × Row × Row) := match its with | [.i j, .i w, .n a, .n b, .r nm, .r nu] => some (j, w, a, b, nm, nu) | _ => none
def l19a : ScanL (Nat × Int × Int × Int × Nat × Nat × Row × Row) where
  f := 19
  id := 7
  lv := [1, 39, 40, 41]
  lx := [1, 2]
  p := p19a
  dat := d19a
  S := fun (n, _, _, w, a, b, nm, nu) j => [.n n, .i n, .i j, .i w, .n a, .n b, .r nm, .r nu]
  len := fun (n, _, _, _, _, _, _, _) => n
  cnd := fun (n, len, j, _, _, _, nm, _) => z3 n len j && smN nm n
  bad := fun (_, _, _, _, _, _, nm, _) => badN nm
  Kb := fun (_, _, _, w, a, b, nm, nu) _ k => k .ret ⟨us 1 ++ [.pointer (some ⟨0, 0, some 0⟩), .bool (false)] ++ us 70, [[]], [some (.box [.int .u8 (w), .slice (some ⟨1, 0, some 0⟩) (a) (0), .slice (some ⟨2, 0, some 0⟩) (b) (0)]), some (.row [.str] false (nm)), some (.row [.int .i64] false (nu))]⟩
  Ke := fun (_, _, _, w, a, b, nm, nu) k => k (.exit 0) ⟨us 1 ++ [.pointer (some ⟨0, 0, some 0⟩)] ++ us 71, [[]], [some (.box [.int .u8 (w), .slice (some ⟨1, 0, some 0⟩) (a) (0), .slice (some ⟨2, 0, some 0⟩) (b) (0)]), some (.row [.str] false (nm)), some (.row [.int .i64] false (nu))]⟩
def l19b : ScanL (Nat × Int × Int × Int × Nat × Nat × Row × Row) where
  f := 19
  id := 13
  lv := [1, 50, 51, 52]
  lx := [1, 2]
  p := p19b
  dat := d19b
  S := fun (n, _, _, w, a, b, nm, nu) j => [.n n, .i n, .i j, .i w, .n a, .n b, .r nu, .r nm]
  len := fun (n, _, _, _, _, _, _, _) => n
  cnd := fun (n, len, j, _, _, _, _, _) => z3 n len j
  bad := fun (_, _, _, _, _, _, _, nu) => badU nu
  Kb := fun (_, _, _, w, a, b, nm, nu) _ k => k .ret ⟨us 1 ++ [.pointer (some ⟨0, 0, some 0⟩), .bool (false)] ++ us 70, [[]], [some (.box [.int .u8 (w), .slice (some ⟨1, 0, some 0⟩) (a) (0), .slice (some ⟨2, 0, some 0⟩) (b) (0)]), some (.row [.str] false (nm)), some (.row [.int .i64] false (nu))]⟩
  Ke := fun (_, _, _, w, a, b, nm, nu) k => k (.exit 2) ⟨us 1 ++ [.pointer (some ⟨0, 0, some 0⟩)] ++ us 71, [[]], [some (.box [.int .u8 (w), .slice (some ⟨1, 0, some 0⟩) (a) (0), .slice (some ⟨2, 0, some 0⟩) (b) (0)]), some (.row [.str] false (nm)), some (.row [.int .i64] false (nu))]⟩
def l21a : ScanL (Int × Int × Nat × Nat × Row × Row) where
  f := 21
  id := 5
  lv := [1, 4]
  lx := [1, 2]
  p := p21a
  dat := d21
  S := fun (_, w, a, b, nm, nu) j => [.i j, .i w, .n a, .n b, .r nm, .r nu]
  len := fun (_, w, a, b, nm, nu) => a
  cnd := fun (j, w, a, b, nm, nu) => z2 a j && smN nm a
  bad := fun (_, w, a, b, nm, nu) => badN nm
  Kb := fun (_, w, a, b, nm, nu) _ k => k .ret ⟨us 1 ++ [.pointer (some ⟨0, 0, some 0⟩), .bool (false)] ++ us 89, [[]], [some (.box [.int .u8 (w), .slice (some ⟨1, 0, some 0⟩) (a) (0), .slice (some ⟨2, 0, some 0⟩) (b) (0)]), some (.row [.str] false (nm)), some (.row [.int .i64] false (nu))]⟩
  Ke := fun (_, w, a, b, nm, nu) k => k (.exit 0) ⟨us 1 ++ [.pointer (some ⟨0, 0, some 0⟩)] ++ us 90, [[]], [some (.box [.int .u8 (w), .slice (some ⟨1, 0, some 0⟩) (a) (0), .slice (some ⟨2, 0, some 0⟩) (b) (0)]), some (.row [.str] false (nm)), some (.row [.int .i64] false (nu))]⟩
def l21b : ScanL (Int × Int × Nat × Nat × Row × Row) where
  f := 21
  id := 10
  lv := [1, 5]
  lx := [1, 2]
  p := p21b
  dat := d21
  S := fun (_, w, a, b, nm, nu) j => [.i j, .i w, .n a, .n b, .r nm, .r nu]
  len := fun (_, w, a, b, nm, nu) => b
  cnd := fun (j, w, a, b, nm, nu) => z2 b j
  bad := fun (_, w, a, b, nm, nu) => badU nu
  Kb := fun (_, w, a, b, nm, nu) _ k => k .ret ⟨us 1 ++ [.pointer (some ⟨0, 0, some 0⟩), .bool (false)] ++ us 89, [[]], [some (.box [.int .u8 (w), .slice (some ⟨1, 0, some 0⟩) (a) (0), .slice (some ⟨2, 0, some 0⟩) (b) (0)]), some (.row [.str] false (nm)), some (.row [.int .i64] false (nu))]⟩
  Ke := fun (_, w, a, b, nm, nu) k => k (.exit 2) ⟨us 1 ++ [.pointer (some ⟨0, 0, some 0⟩)] ++ us 90, [[]], [some (.box [.int .u8 (w), .slice (some ⟨1, 0, some 0⟩) (a) (0), .slice (some ⟨2, 0, some 0⟩) (b) (0)]), some (.row [.str] false (nm)), some (.row [.int .i64] false (nu))]⟩
noncomputable def C19 : Cx := mkCx Try.prog fns [(16, Fname), (20, Fwords), (25, Fdiff)] [l19a.C, l19b.C]
noncomputable def C21 : Cx := mkCx Try.prog fns [(18, Fname), (27, Fword), (26, Fhas), (28, Ftwice)] [l21a.C, l21b.C]
theorem r19a (R : St → Option (List D)) (K : X → St → Option (List D)) (q n : Nat) (len j w : Int) (a b : Nat) (nm nu : Row) : bodyOf C19 19 7 q (Go.Ev.bst p19a [.n n, .i len, .i j, .i w, .n a, .n b, .r nm, .r nu]) (rnd [1, 39, 40, 41] (some [1, 2]) R K) =
    br (decide (j < len)) (br (decide (0 ≤ j) && decide (j < (↑n : Int))) (br (decide ((nm.S (0 + j.toNat) 0).size ≤ 1000000)) (br (!nmB (nm.S (0 + j.toNat) 0)) (K .ret ⟨us 1 ++ [.pointer (some ⟨0, 0, some 0⟩), .bool (false)] ++ us 70, [[]], [some (.box [.int .u8 (w), .slice (some ⟨1, 0, some 0⟩) (a) (0), .slice (some ⟨2, 0, some 0⟩) (b) (0)]), some (.row [.str] false (nm)), some (.row [.int .i64] false (nu))]⟩) (R ⟨us 1 ++ [.pointer (some ⟨0, 0, some 0⟩)] ++ us 37 ++ [.slice (some ⟨1, 0, some 0⟩) (n) (0), i64 (len), i64 (IntKind.i64.wrap (j + 1))] ++ us 31, [[]], [some (.box [.int .u8 (w), .slice (some ⟨1, 0, some 0⟩) (a) (0), .slice (some ⟨2, 0, some 0⟩) (b) (0)]), some (.row [.str] false (nm)), some (.row [.int .i64] false (nu))]⟩)) (none)) (none)) (K (.exit 0) ⟨us 1 ++ [.pointer (some ⟨0, 0, some 0⟩)] ++ us 71, [[]], [some (.box [.int .u8 (w), .slice (some ⟨1, 0, some 0⟩) (a) (0), .slice (some ⟨2, 0, some 0⟩) (b) (0)]), some (.row [.str] false (nm)), some (.row [.int .i64] false (nu))]⟩) := by kernel_rfl
theorem r19b (R : St → Option (List D)) (K : X → St → Option (List D)) (q n : Nat) (len j w : Int) (a b : Nat) (nm nu : Row) : bodyOf C19 19 13 q (Go.Ev.bst p19b [.n n, .i len, .i j, .i w, .n a, .n b, .r nu, .r nm]) (rnd [1, 50, 51, 52] (some [1, 2]) R K) =
    br (decide (j < len)) (br (decide (0 ≤ j) && decide (j < (↑n : Int))) (br (decide (nu.I (0 + j.toNat) 0 < -1000000000)) (K .ret ⟨us 1 ++ [.pointer (some ⟨0, 0, some 0⟩), .bool (false)] ++ us 70, [[]], [some (.box [.int .u8 (w), .slice (some ⟨1, 0, some 0⟩) (a) (0), .slice (some ⟨2, 0, some 0⟩) (b) (0)]), some (.row [.str] false (nm)), some (.row [.int .i64] false (nu))]⟩) (br (decide (nu.I (0 + j.toNat) 0 > 1000000000)) (K .ret ⟨us 1 ++ [.pointer (some ⟨0, 0, some 0⟩), .bool (false)] ++ us 70, [[]], [some (.box [.int .u8 (w), .slice (some ⟨1, 0, some 0⟩) (a) (0), .slice (some ⟨2, 0, some 0⟩) (b) (0)]), some (.row [.str] false (nm)), some (.row [.int .i64] false (nu))]⟩) (R ⟨us 1 ++ [.pointer (some ⟨0, 0, some 0⟩)] ++ us 48 ++ [.slice (some ⟨1, 0, some 0⟩) (n) (0), i64 (len), i64 (IntKind.i64.wrap (j + 1))] ++ us 20, [[]], [some (.box [.int .u8 (w), .slice (some ⟨2, 0, some 0⟩) (a) (0), .slice (some ⟨1, 0, some 0⟩) (b) (0)]), some (.row [.int .i64] false (nu)), some (.row [.str] false (nm))]⟩))) (none)) (K (.exit 2) ⟨us 1 ++ [.pointer (some ⟨0, 0, some 0⟩)] ++ us 71, [[]], [some (.box [.int .u8 (w), .slice (some ⟨1, 0, some 0⟩) (a) (0), .slice (some ⟨2, 0, some 0⟩) (b) (0)]), some (.row [.str] false (nm)), some (.row [.int .i64] false (nu))]⟩) := by kernel_rfl
theorem r21a (R : St → Option (List D)) (K : X → St → Option (List D)) (q : Nat) (j w : Int) (a b : Nat) (nm nu : Row) : bodyOf C21 21 5 q (Go.Ev.bst p21a [.i j, .i w, .n a, .n b, .r nm, .r nu]) (rnd [1, 4] (some [1, 2]) R K) =
    br (decide (j < (↑a : Int))) (br (decide (0 ≤ j) && decide (j < (↑a : Int))) (br (decide ((nm.S (0 + j.toNat) 0).size ≤ 1000000)) (br (!nmB (nm.S (0 + j.toNat) 0)) (K .ret ⟨us 1 ++ [.pointer (some ⟨0, 0, some 0⟩), .bool (false)] ++ us 89, [[]], [some (.box [.int .u8 (w), .slice (some ⟨1, 0, some 0⟩) (a) (0), .slice (some ⟨2, 0, some 0⟩) (b) (0)]), some (.row [.str] false (nm)), some (.row [.int .i64] false (nu))]⟩) (R ⟨us 1 ++ [.pointer (some ⟨0, 0, some 0⟩)] ++ us 2 ++ [i64 (IntKind.i64.wrap (j + 1))] ++ us 87, [[]], [some (.box [.int .u8 (w), .slice (some ⟨1, 0, some 0⟩) (a) (0), .slice (some ⟨2, 0, some 0⟩) (b) (0)]), some (.row [.str] false (nm)), some (.row [.int .i64] false (nu))]⟩)) (none)) (none)) (K (.exit 0) ⟨us 1 ++ [.pointer (some ⟨0, 0, some 0⟩)] ++ us 90, [[]], [some (.box [.int .u8 (w), .slice (some ⟨1, 0, some 0⟩) (a) (0), .slice (some ⟨2, 0, some 0⟩) (b) (0)]), some (.row [.str] false (nm)), some (.row [.int .i64] false (nu))]⟩) := by kernel_rfl
theorem r21b (R : St → Option (List D)) (K : X → St → Option (List D)) (q : Nat) (j w : Int) (a b : Nat) (nm nu : Row) : bodyOf C21 21 10 q (Go.Ev.bst p21b [.i j, .i w, .n a, .n b, .r nm, .r nu]) (rnd [1, 5] (some [1, 2]) R K) =
    br (decide (j < (↑b : Int))) (br (decide (0 ≤ j) && decide (j < (↑b : Int))) (br (decide (nu.I (0 + j.toNat) 0 < -1000000000)) (K .ret ⟨us 1 ++ [.pointer (some ⟨0, 0, some 0⟩), .bool (false)] ++ us 89, [[]], [some (.box [.int .u8 (w), .slice (some ⟨1, 0, some 0⟩) (a) (0), .slice (some ⟨2, 0, some 0⟩) (b) (0)]), some (.row [.str] false (nm)), some (.row [.int .i64] false (nu))]⟩) (br (decide (0 ≤ j) && decide (j < (↑b : Int))) (br (decide (nu.I (0 + j.toNat) 0 > 1000000000)) (K .ret ⟨us 1 ++ [.pointer (some ⟨0, 0, some 0⟩), .bool (false)] ++ us 89, [[]], [some (.box [.int .u8 (w), .slice (some ⟨1, 0, some 0⟩) (a) (0), .slice (some ⟨2, 0, some 0⟩) (b) (0)]), some (.row [.str] false (nm)), some (.row [.int .i64] false (nu))]⟩) (R ⟨us 1 ++ [.pointer (some ⟨0, 0, some 0⟩)] ++ us 3 ++ [i64 (IntKind.i64.wrap (j + 1))] ++ us 86, [[]], [some (.box [.int .u8 (w), .slice (some ⟨1, 0, some 0⟩) (a) (0), .slice (some ⟨2, 0, some 0⟩) (b) (0)]), some (.row [.str] false (nm)), some (.row [.int .i64] false (nu))]⟩)) (none))) (none)) (K (.exit 2) ⟨us 1 ++ [.pointer (some ⟨0, 0, some 0⟩)] ++ us 90, [[]], [some (.box [.int .u8 (w), .slice (some ⟨1, 0, some 0⟩) (a) (0), .slice (some ⟨2, 0, some 0⟩) (b) (0)]), some (.row [.str] false (nm)), some (.row [.int .i64] false (nu))]⟩) := by kernel_rfl
theorem t19 (w : Int) (nm nu : Row) : evF C19 6 19 [.agg [.v (u8 w), .slice ksS nm, .slice ksI nu]] =
    br (decide (w < 1)) (some [.v (.bool (false))]) (br (decide (w > 10)) (some [.v (.bool (false))]) (br (decide (0 ≤ IntKind.u8.wrap (w - 1)) && decide (IntKind.u8.wrap (w - 1) < (↑Wt.n : Int))) (br (decide ((↑nm.n : Int) ≥ Wt.I (0 + (IntKind.u8.wrap (w - 1)).toNat) (0 + 1))) (br (!decide ((↑nm.n : Int) ≤ Wt.I (0 + (IntKind.u8.wrap (w - 1)).toNat) (0 + 1 + 1))) (some [.v (.bool (false))]) (br (decide ((↑nu.n : Int) ≥ Wt.I (0 + (IntKind.u8.wrap (w - 1)).toNat) (0 + 1 + 1 + 1))) (br (!decide ((↑nu.n : Int) ≤ Wt.I (0 + (IntKind.u8.wrap (w - 1)).toNat) (0 + 1 + 1 + 1 + 1))) (some [.v (.bool (false))]) (br (z3 nm.n (↑nm.n : Int) 0 && smN nm nm.n) (br (anyF (badN nm) nm.n 0) (some [.v (.bool (false))]) (br (z3 nu.n (↑nu.n : Int) 0) (br (anyF (badU nu) nu.n 0) (some [.v (.bool (false))]) (br (w == 4) (br (decide (0 ≤ (↑nm.n : Int)) && decide ((↑nm.n : Int) ≤ (↑nm.n : Int))) (br (decide (0 ≤ 1) && decide (1 ≤ (↑(↑nm.n : Int).toNat : Int))) (br (decide ((winOf nm (0 + Int.toNat 1) ((↑nm.n : Int).toNat - Int.toNat 1)).n ≤ 1000000)) (some [.v (.bool (!twB (winOf nm 1 ((↑nm.n : Int).toNat - 1))))]) (none)) (none)) (none)) (br (decide ((winOf nm 0 nm.n).n ≤ 1000000)) (some [.v (.bool (!twB (winOf nm 0 nm.n)))]) (none)))) (none))) (none))) (some [.v (.bool (false))]))) (some [.v (.bool (false))])) (none))) := by kernel_rfl
theorem t21 (w : Int) (nm nu : Row) : evF C21 6 21 [.agg [.v (u8 w), .slice ksS nm, .slice ksI nu]] =
    br ((wordS w).toList == { data := { toList := [] : Array UInt8 } : ByteArray }.toList) (some [.v (.bool (false))]) (br (decide ((↑nm.n : Int) < (hasS w).a)) (some [.v (.bool (false))]) (br (decide ((↑nm.n : Int) > (hasS w).b)) (some [.v (.bool (false))]) (br (decide ((↑nu.n : Int) < (hasS w).c)) (some [.v (.bool (false))]) (br (decide ((↑nu.n : Int) > (hasS w).d)) (some [.v (.bool (false))]) (br (z2 nm.n 0 && smN nm nm.n) (br (anyF (badN nm) nm.n 0) (some [.v (.bool (false))]) (br (z2 nu.n 0) (br (anyF (badU nu) nu.n 0) (some [.v (.bool (false))]) (br (w == 4) (br (decide (0 ≤ (↑nm.n : Int)) && decide ((↑nm.n : Int) ≤ (↑nm.n : Int))) (br (decide (0 ≤ 1) && decide (1 ≤ (↑(↑nm.n : Int).toNat : Int))) (br (decide ((winOf nm (0 + Int.toNat 1) ((↑nm.n : Int).toNat - Int.toNat 1)).n ≤ 1000000)) (some [.v (.bool (!twB (winOf nm 1 ((↑nm.n : Int).toNat - 1))))]) (none)) (none)) (none)) (br (decide ((winOf nm 0 nm.n).n ≤ 1000000)) (some [.v (.bool (!twB (winOf nm 0 nm.n)))]) (none)))) (none))) (none)))))) := by kernel_rfl
theorem sm_at {r : Row} {n i : Nat} (h : smN r n = true) (hi : i < n) : decide ((r.S i 0).size ≤ 1000000) = true := decide_eq_true ((smN_iff.1 h).2 i hi)
theorem ok19a : LoopOk C19 l19a.C := l19a.ok (by kernel_rfl)
  (fun its x h hc => by
    replace h : d19a its = some x := h
    unfold d19a at h
    split at h
    · cases h
      rename_i n len j w a b nm nu
      have hc : (z3 n len j && smN nm n) = true := hc
      simp only [Bool.and_eq_true] at hc
      obtain ⟨h1, h2, h3⟩ := z3_iff.1 hc.1
      subst h1 h2
      rfl
    · cases h)
  (fun ⟨n, len, j, w, a, b, nm, nu⟩ hc => by
    have hc : (z3 n len j && smN nm n) = true := hc
    simp only [Bool.and_eq_true] at hc
    have := (z3_iff.1 hc.1).2.2
    show n < 18446744073709551616; omega)
  (fun q ⟨n, len, j, w, a, b, nm, nu⟩ i hc hi R K => by
    have hc : (z3 n len j && smN nm n) = true := hc
    simp only [Bool.and_eq_true] at hc
    have h3 := (z3_iff.1 hc.1).2.2
    replace hi : i < n := hi
    refine (r19a R K q n n i w a b nm nu).trans ?_
    rw [gd i n hi, ltd i n hi, wsn (by omega), Int.toNat_natCast, Nat.zero_add, sm_at hc.2 hi]
    rfl)
  (fun q ⟨n, len, j, w, a, b, nm, nu⟩ hc R K => by
    refine (r19a R K q n n n w a b nm nu).trans ?_
    rw [ltn n]
    rfl)
theorem br_or {α : Type} (b c : Bool) (x y : Option α) : br (b || c) x y = br b x (br c x y) := by cases b <;> rfl
theorem ok19b : LoopOk C19 l19b.C := l19b.ok (by kernel_rfl)
  (fun its x h hc => by
    replace h : d19b its = some x := h
    unfold d19b at h
    split at h
    · cases h
      obtain ⟨h1, h2, h3⟩ := z3_iff.1 hc
      subst h1 h2
      rfl
    · cases h)
  (fun ⟨n, len, j, w, a, b, nm, nu⟩ hc => by have := (z3_iff.1 hc).2.2; show n < 18446744073709551616; omega)
  (fun q ⟨n, len, j, w, a, b, nm, nu⟩ i hc hi R K => by
    have h3 := (z3_iff.1 hc).2.2
    replace hi : i < n := hi
    refine (r19b R K q n n i w a b nm nu).trans ?_
    rw [gd i n hi, ltd i n hi, wsn (by omega), Int.toNat_natCast, Nat.zero_add]
    exact (br_or _ _ _ _).symm)
  (fun q ⟨n, len, j, w, a, b, nm, nu⟩ hc R K => by
    refine (r19b R K q n n n w a b nm nu).trans ?_
    rw [ltn n]
    rfl)
theorem ok21a : LoopOk C21 l21a.C := l21a.ok (by kernel_rfl)
  (fun its x h hc => by
    replace h : d21 its = some x := h
    unfold d21 at h
    split at h
    · cases h
      rename_i j w a b nm nu
      have hc : (z2 a j && smN nm a) = true := hc
      simp only [Bool.and_eq_true] at hc
      obtain ⟨h1, h2⟩ := z2_iff.1 hc.1
      subst h1
      rfl
    · cases h)
  (fun ⟨j, w, a, b, nm, nu⟩ hc => by
    have hc : (z2 a j && smN nm a) = true := hc
    simp only [Bool.and_eq_true] at hc
    have := (z2_iff.1 hc.1).2
    show a < 18446744073709551616; omega)
  (fun q ⟨j, w, a, b, nm, nu⟩ i hc hi R K => by
    have hc : (z2 a j && smN nm a) = true := hc
    simp only [Bool.and_eq_true] at hc
    have h3 := (z2_iff.1 hc.1).2
    replace hi : i < a := hi
    refine (r21a R K q i w a b nm nu).trans ?_
    rw [gd i a hi, ltd i a hi, wsn (by omega), Int.toNat_natCast, Nat.zero_add, sm_at hc.2 hi]
    rfl)
  (fun q ⟨j, w, a, b, nm, nu⟩ hc R K => by
    refine (r21a R K q a w a b nm nu).trans ?_
    rw [ltn a]
    rfl)
theorem ok21b : LoopOk C21 l21b.C := l21b.ok (by kernel_rfl)
  (fun its x h hc => by
    replace h : d21 its = some x := h
    unfold d21 at h
    split at h
    · cases h
      obtain ⟨h1, h2⟩ := z2_iff.1 hc
      subst h1
      rfl
    · cases h)
  (fun ⟨j, w, a, b, nm, nu⟩ hc => by have := (z2_iff.1 hc).2; show b < 18446744073709551616; omega)
  (fun q ⟨j, w, a, b, nm, nu⟩ i hc hi R K => by
    have h3 := (z2_iff.1 hc).2
    replace hi : i < b := hi
    refine (r21b R K q i w a b nm nu).trans ?_
    rw [gd i b hi, ltd i b hi, wsn (by omega), Int.toNat_natCast, Nat.zero_add]
    exact (br_or _ _ _ _).symm)
  (fun q ⟨j, w, a, b, nm, nu⟩ hc R K => by
    refine (r21b R K q b w a b nm nu).trans ?_
    rw [ltn b]
    rfl)
theorem C19_ok : CxOk C19 := mkCx_ok enter mixed (fun p h => by
  simp only [List.mem_cons, List.not_mem_nil, or_false] at h
  rcases h with rfl | rfl | rfl
  · exact den_name
  · exact den_words
  · exact den_diff) (fun l h => by
  simp only [List.mem_cons, List.not_mem_nil, or_false] at h
  rcases h with rfl | rfl
  · exact ok19a
  · exact ok19b)
theorem C21_ok : CxOk C21 := mkCx_ok enter mixed (fun p h => by
  simp only [List.mem_cons, List.not_mem_nil, or_false] at h
  rcases h with rfl | rfl | rfl | rfl
  · exact den_Name
  · exact den_word
  · exact den_has
  · exact den_twice) (fun l h => by
  simp only [List.mem_cons, List.not_mem_nil, or_false] at h
  rcases h with rfl | rfl
  · exact ok21a
  · exact ok21b)
/-- The names that must be different. -/
def difR (w : Int) (nm : Row) : Row := bif w == 4 then winOf nm 1 (nm.n - 1) else winOf nm 0 nm.n
def ranB (w : Int) (a b : Nat) : Bool := decide ((hasS w).a ≤ (a : Int) ∧ (a : Int) ≤ (hasS w).b ∧ (hasS w).c ≤ (b : Int) ∧ (b : Int) ≤ (hasS w).d)
theorem ranB_iff {w : Int} {a b : Nat} : ranB w a b = true ↔ (hasS w).a ≤ (a : Int) ∧ (a : Int) ≤ (hasS w).b ∧ (hasS w).c ≤ (b : Int) ∧ (b : Int) ≤ (hasS w).d := by unfold ranB; rw [decide_eq_true_eq]
/-- Whether a line is valid. -/
def vaB (w : Int) (nm nu : Row) : Bool := decide (1 ≤ w ∧ w ≤ 10) && (ranB w nm.n nu.n && (!anyF (badN nm) nm.n 0 && (!anyF (badU nu) nu.n 0 && !twB (difR w nm))))
def Fvalid : List D → Option (Bool × List D)
  | [.agg [.v (.int .u8 w), .slice [.str] nm, .slice [.int .i64] nu]] => some (smN nm nm.n && decide (nu.n ≤ 1000000), [.v (.bool (vaB w nm nu))])
  | _ => none
theorem twd {r : Row} (h : r.n ≤ 1000000) : decide (r.n ≤ 1000000) = true := decide_eq_true h
theorem va_tail {w : Int} {nm nu : Row} (hw : 1 ≤ w ∧ w ≤ 10) (hr : ranB w nm.n nu.n = true) (hn : nm.n ≤ 1000000) :
    br (anyF (badN nm) nm.n 0) (some [D.v (.bool (false))]) (br (anyF (badU nu) nu.n 0) (some [D.v (.bool (false))]) (br (w == 4) (br (decide (0 ≤ (nm.n : Int)) && decide ((nm.n : Int) ≤ (nm.n : Int))) (br (decide ((0 : Int) ≤ 1) && decide ((1 : Int) ≤ (((nm.n : Int).toNat : Nat) : Int))) (br (decide ((winOf nm (0 + Int.toNat 1) ((nm.n : Int).toNat - Int.toNat 1)).n ≤ 1000000)) (some [D.v (.bool (!twB (winOf nm 1 ((nm.n : Int).toNat - 1))))]) (none)) (none)) (none)) (br (decide ((winOf nm 0 nm.n).n ≤ 1000000)) (some [D.v (.bool (!twB (winOf nm 0 nm.n)))]) (none)))) = some [D.v (.bool (vaB w nm nu))] := by
  unfold vaB
  rw [decide_eq_true hw, hr]
  cases anyF (badN nm) nm.n 0
  · cases anyF (badU nu) nu.n 0
    · unfold difR
      cases h4 : w == 4
      · rw [twd (show (winOf nm 0 nm.n).n ≤ 1000000 from hn)]; rfl
      · have h4 : w = 4 := by simpa using h4
        subst h4
        have h1 := (ranB_iff.1 hr).1
        have h1 : (2 : Int) ≤ (nm.n : Int) := h1
        rw [twd (show (winOf nm (0 + Int.toNat 1) ((nm.n : Int).toNat - Int.toNat 1)).n ≤ 1000000 from (by show (nm.n : Int).toNat - 1 ≤ 1000000; omega)), decide_eq_true (show (1 : Int) ≤ (((nm.n : Int).toNat : Nat) : Int) by omega), decide_eq_true (show (0 : Int) ≤ (nm.n : Int) by omega), decide_eq_true (show (nm.n : Int) ≤ (nm.n : Int) by omega)]
        rfl
    · rfl
  · rfl
theorem den_valid : Den Try.prog 19 Fvalid := evF_den C19_ok fun ds rs h => by
  unfold Fvalid at h
  split at h
  · rename_i w nm nu
    simp only [Option.some.injEq, Prod.mk.injEq, Bool.and_eq_true, decide_eq_true_eq] at h
    obtain ⟨⟨hs, hn⟩, rfl⟩ := h
    have hm := (smN_iff.1 hs).1
    refine (t19 w nm nu).trans ?_
    by_cases hw : 1 ≤ w ∧ w ≤ 10
    · obtain ⟨w0, w1, w2, w3, w4, _⟩ := Wt_has hw.1 hw.2
      have ew : IntKind.u8.wrap (w - 1) = w - 1 := wrap_id (by simp [Lit.wf, IntKind.min, IntKind.max, IntKind.signed, IntKind.bits]; omega)
      rw [ew, decide_eq_false (show ¬ w < 1 by omega), decide_eq_false (show ¬ w > 10 by omega), decide_eq_true (show 0 ≤ w - 1 by omega), decide_eq_true (show w - 1 < (Wt.n : Int) by omega)]
      rw [show Wt.I (0 + (w - 1).toNat) (0 + 1) = (hasS w).a by rw [Nat.zero_add]; exact w1, show Wt.I (0 + (w - 1).toNat) (0 + 1 + 1) = (hasS w).b by rw [Nat.zero_add]; exact w2, show Wt.I (0 + (w - 1).toNat) (0 + 1 + 1 + 1) = (hasS w).c by rw [Nat.zero_add]; exact w3, show Wt.I (0 + (w - 1).toNat) (0 + 1 + 1 + 1 + 1) = (hasS w).d by rw [Nat.zero_add]; exact w4]
      rw [z3_iff.2 ⟨rfl, rfl, hm⟩, z3_iff.2 ⟨rfl, rfl, hn⟩, hs]
      have e0 : ranB w nm.n nu.n = false → vaB w nm nu = false := fun h => by unfold vaB; rw [h, Bool.false_and, Bool.and_false]
      by_cases a1 : (nm.n : Int) ≥ (hasS w).a
      · rw [decide_eq_true a1]
        by_cases a2 : (nm.n : Int) ≤ (hasS w).b
        · rw [decide_eq_true a2]
          by_cases a3 : (nu.n : Int) ≥ (hasS w).c
          · rw [decide_eq_true a3]
            by_cases a4 : (nu.n : Int) ≤ (hasS w).d
            · rw [decide_eq_true a4]
              exact va_tail hw (ranB_iff.2 ⟨a1, a2, a3, a4⟩) hm
            · rw [decide_eq_false a4, e0 (decide_eq_false (by omega))]; rfl
          · rw [decide_eq_false a3, e0 (decide_eq_false (by omega))]; rfl
        · rw [decide_eq_false a2, e0 (decide_eq_false (by omega))]; rfl
      · rw [decide_eq_false a1, e0 (decide_eq_false (by omega))]; rfl
    · have e0 : vaB w nm nu = false := by unfold vaB; rw [decide_eq_false hw, Bool.false_and]
      rw [e0]
      by_cases h1 : w < 1
      · rw [decide_eq_true h1]; rfl
      · rw [decide_eq_false h1, decide_eq_true (show w > 10 by omega)]; rfl
  · cases h
theorem den_Valid : Den Try.prog 21 Fvalid := evF_den C21_ok fun ds rs h => by
  unfold Fvalid at h
  split at h
  · rename_i w nm nu
    simp only [Option.some.injEq, Prod.mk.injEq, Bool.and_eq_true, decide_eq_true_eq] at h
    obtain ⟨⟨hs, hn⟩, rfl⟩ := h
    have hm := (smN_iff.1 hs).1
    refine (t21 w nm nu).trans ?_
    rw [wordS_nil]
    by_cases hw : 1 ≤ w ∧ w ≤ 10
    · rw [decide_eq_true hw, z2_iff.2 ⟨rfl, hm⟩, z2_iff.2 ⟨rfl, hn⟩, hs]
      have e0 : ranB w nm.n nu.n = false → vaB w nm nu = false := fun h => by unfold vaB; rw [h, Bool.false_and, Bool.and_false]
      by_cases a1 : (nm.n : Int) < (hasS w).a
      · rw [decide_eq_true a1, e0 (decide_eq_false (by omega))]; rfl
      · rw [decide_eq_false a1]
        by_cases a2 : (nm.n : Int) > (hasS w).b
        · rw [decide_eq_true a2, e0 (decide_eq_false (by omega))]; rfl
        · rw [decide_eq_false a2]
          by_cases a3 : (nu.n : Int) < (hasS w).c
          · rw [decide_eq_true a3, e0 (decide_eq_false (by omega))]; rfl
          · rw [decide_eq_false a3]
            by_cases a4 : (nu.n : Int) > (hasS w).d
            · rw [decide_eq_true a4, e0 (decide_eq_false (by omega))]; rfl
            · rw [decide_eq_false a4]
              exact va_tail hw (ranB_iff.2 ⟨by omega, by omega, by omega, by omega⟩) hm
    · have e0 : vaB w nm nu = false := by unfold vaB; rw [decide_eq_false hw, Bool.false_and]
      rw [e0, decide_eq_false hw]; rfl
  · cases h
end Go.Proofs.Ytopdfmhlgkbaaaa

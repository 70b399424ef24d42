/- ScriptRenames: the tree. No conditions. -/
import Derived.Test.YtopdfmhlgkbaaaaDoorMD
namespace Go.Proofs.YtopdfmhlgkbaaaaDoor
open Go.Ev Go.RowKit Go.Lib Go.Dec
set_option linter.all false
def Fgr3 (c b : Row → Bool) : List D → Option (Bool × List D)
  | [.slice [.int .u8, .slice [.str], .slice [.int .i64]] l] => some (c l, [.v (.bool (b l))])
  | _ => none
def Fcq3 (c : Row → Bool) (e : Row → Int) : List D → Option (Bool × List D)
  | [.slice [.int .u8, .slice [.str], .slice [.int .i64]] l] => some (c l, [.v (i64 (e l))])
  | _ => none
def Fnm (c : Row → ByteArray → Bool) (o : Row → ByteArray → ByteArray → Row) (e : Row → ByteArray → ByteArray → Int) : List D → Option (Bool × List D)
  | [.slice [.int .u8, .slice [.str], .slice [.int .i64]] l, .v (.string s), .v (.string t)] => some (c l t, [.slice ksL (o l s t), .v (i64 (e l s t))])
  | _ => none
def q7 : PSt := { τ := [.v (.sl 0), .v (.str), .v (.str)] ++ pu 4 ++ [.v (.bool), .v (.sl 1)] ++ pu 3 ++ [.v (.int .i64)] ++ pu 188, saved := [[]], mem := [.row ksL false, .deep ksL] }
def q7a : PSt := { τ := [.v (.sl 0), .v (.str), .v (.str)] ++ pu 4 ++ [.v (.bool), .v (.sl 1)] ++ pu 3 ++ [.v (.int .i64), .v (.int .i64)] ++ pu 187, saved := [[]], mem := [.row ksL false, .deep ksL] }
def q7b : PSt := { τ := [.v (.sl 0), .v (.str), .v (.str)] ++ pu 4 ++ [.v (.bool), .v (.sl 1)] ++ pu 3 ++ [.v (.int .i64)] ++ pu 2 ++ [.v (.int .i64)] ++ pu 185, saved := [[]], mem := [.row ksL false, .deep ksL] }
structure A7 where
  n : Nat
  s : ByteArray
  t : ByteArray
  b : Bool
  m : Nat
  i : Int
  k : Int
  l : Row
  a : Row
def d7a (its : List It) : Option A7 := match its with | [.n n, .s s, .s t, .b b, .n m, .i i, .i k, .r l, .r a] => some ⟨n, s, t, b, m, i, k, l, a⟩ | _ => none
def d7 (its : List It) : Option A7 := match its with | [.n n, .s s, .s t, .b b, .n m, .i i, .r l, .r a] => some ⟨n, s, t, b, m, i, 0, l, a⟩ | _ => none
/-- A name is renamed well. -/
def gdN (s t : ByteArray) (x y : ByteArray) : Bool := bif eqS x s then eqS y t else eqS y x
def gdA (s t : ByteArray) (l a : Row) (i : Nat) : Bool := !anyF (fun k => !gdN s t ((l.R i 1).S k 0) ((a.R i 1).S k 0)) (l.R i 1).n 0
def gdB (l a : Row) (i : Nat) : Bool := !anyF (fun k => (a.R i 2).I k 0 != (l.R i 2).I k 0) (l.R i 2).n 0
def gdC (l a : Row) (i : Nat) : Bool := decide (a.I i 0 = l.I i 0 ∧ (a.R i 1).n = (l.R i 1).n ∧ (a.R i 2).n = (l.R i 2).n ∧ (l.R i 1).n ≤ 1000000 ∧ (l.R i 2).n ≤ 1000000)
def gdL (s t : ByteArray) (l a : Row) (i : Nat) : Bool := gdC l a i && (gdA s t l a i && gdB l a i)
def c7a (x : A7) : Bool := decide (0 ≤ x.i ∧ x.i < x.n ∧ x.i < x.m ∧ x.k = 0) && gdL x.s x.t x.l x.a x.i.toNat
def c7 (x : A7) : Bool := decide (x.i = 0 ∧ x.m = x.n ∧ x.n ≤ 1000000) && !anyF (fun i => !gdL x.s x.t x.l x.a i) x.n 0
def l7a : FoldL A7 Unit where
  f := 7
  id := 16
  lv := [0, 1, 2, 7, 8, 12, 13]
  lx := [0, 1, 2, 6, 7, 8, 12]
  p := q7a
  dat := d7a
  S := fun x k _ => [.n x.n, .s x.s, .s x.t, .b x.b, .n x.m, .i x.i, .i k, .r x.l, .r x.a]
  len := fun x => (x.l.R x.i.toNat 1).n
  cnd := c7a
  ini := fun _ => ()
  nx := fun _ _ _ => ()
  Ke := fun x _ K => K (.exit 2) ⟨[.slice (some ⟨0, 0, some 0⟩) (x.n) (0), .string (x.s), .string (x.t)] ++ us 4 ++ [.bool (x.b), .slice (some ⟨1, 0, some 0⟩) (x.m) (0)] ++ us 3 ++ [i64 (x.i)] ++ us 188, [[]], [some (.row ksL false (x.l)), some (.deep ksL (x.a) none)]⟩
def l7b : FoldL A7 Unit where
  f := 7
  id := 22
  lv := [0, 1, 2, 7, 8, 12, 15]
  lx := [0, 1, 2, 6, 7, 8, 12]
  p := q7b
  dat := d7a
  S := fun x k _ => [.n x.n, .s x.s, .s x.t, .b x.b, .n x.m, .i x.i, .i k, .r x.l, .r x.a]
  len := fun x => (x.l.R x.i.toNat 2).n
  cnd := c7a
  ini := fun _ => ()
  nx := fun _ _ _ => ()
  Ke := fun x _ K => K (.exit 4) ⟨[.slice (some ⟨0, 0, some 0⟩) (x.n) (0), .string (x.s), .string (x.t)] ++ us 4 ++ [.bool (x.b), .slice (some ⟨1, 0, some 0⟩) (x.m) (0)] ++ us 3 ++ [i64 (x.i)] ++ us 188, [[]], [some (.row ksL false (x.l)), some (.deep ksL (x.a) none)]⟩
def l7 : FoldL A7 Unit where
  f := 7
  id := 11
  lv := [0, 1, 2, 7, 8, 12]
  lx := [6, 7]
  p := q7
  dat := d7
  S := fun x i _ => [.n x.n, .s x.s, .s x.t, .b x.b, .n x.m, .i i, .r x.l, .r x.a]
  len := fun x => x.n
  cnd := c7
  ini := fun _ => ()
  nx := fun _ _ _ => ()
  Ke := fun x _ K => K (.exit 0) ⟨us 7 ++ [.bool (x.b)] ++ us 193, [[]], []⟩
noncomputable def CN (gc gB : Row → Bool) (rc : Row → ByteArray → Bool) (rO : Row → ByteArray → ByteArray → Row) (rE : Row → ByteArray → ByteArray → Int) (sc sB : Row → Row → Bool) (cc : Row → Bool) (cE : Row → Int) : Cx := mkCx Tryd.prog fns [(14, Falive), (8, Fgr3 gc gB), (22, Fnm rc rO rE), (13, Fsq sc sB), (15, Fcq3 cc cE)] [l7.C, l7a.C, l7b.C]
theorem r7a (gc gB : Row → Bool) (rc : Row → ByteArray → Bool) (rO : Row → ByteArray → ByteArray → Row) (rE : Row → ByteArray → ByteArray → Int) (sc sB : Row → Row → Bool) (cc : Row → Bool) (cE : Row → Int) (R : St → Option (List D)) (K : X → St → Option (List D)) (q n m : Nat) (b : Bool) (s t : ByteArray) (i k : Int) (l a : Row) : bodyOf (CN gc gB rc rO rE sc sB cc cE) 7 16 q (Go.Ev.bst q7a [.n n, .s s, .s t, .b b, .n m, .i i, .i k, .r l, .r a]) (rnd [0, 1, 2, 7, 8, 12, 13] (some [0, 1, 2, 6, 7, 8, 12]) R K) =
    br (decide (0 ≤ i) && decide (i < (↑m : Int))) (br (decide (k < (↑(a.R (0 + i.toNat) 1).n : Int))) (br (decide (0 ≤ i) && decide (i < (↑n : Int))) (br (decide (0 ≤ k) && decide (k < (↑(l.R (0 + i.toNat) 1).n : Int))) (br (((l.R (0 + i.toNat) 1).S (0 + k.toNat) 0).toList == s.toList) (br (decide (0 ≤ i) && decide (i < (↑m : Int))) (br (decide (0 ≤ k) && decide (k < (↑(a.R (0 + i.toNat) 1).n : Int))) (br (!((a.R (0 + i.toNat) 1).S (0 + k.toNat) 0).toList == t.toList) (K .ret ⟨[.slice (some ⟨0, 0, some 0⟩) (n) (0), .string (s), .string (t)] ++ us 3 ++ [.bool (false), .bool (b), .slice (some ⟨1, 0, some 0⟩) (m) (0)] ++ us 3 ++ [i64 (i)] ++ us 188, [[]], [some (.row [.int .u8, .slice [.str], .slice [.int .i64]] false (l)), some (.deep [.int .u8, .slice [.str], .slice [.int .i64]] (a) none)]⟩) (br (!((l.R (0 + i.toNat) 1).S (0 + k.toNat) 0).toList == s.toList) (br (decide (0 ≤ i) && decide (i < (↑m : Int))) (br (decide (0 ≤ k) && decide (k < (↑(a.R (0 + i.toNat) 1).n : Int))) (br (!((a.R (0 + i.toNat) 1).S (0 + k.toNat) 0).toList == ((l.R (0 + i.toNat) 1).S (0 + k.toNat) 0).toList) (K .ret ⟨[.slice (some ⟨0, 0, some 0⟩) (n) (0), .string (s), .string (t)] ++ us 3 ++ [.bool (false), .bool (b), .slice (some ⟨1, 0, some 0⟩) (m) (0)] ++ us 3 ++ [i64 (i)] ++ us 188, [[]], [some (.row [.int .u8, .slice [.str], .slice [.int .i64]] false (l)), some (.deep [.int .u8, .slice [.str], .slice [.int .i64]] (a) none)]⟩) (R ⟨[.slice (some ⟨0, 0, some 0⟩) (n) (0), .string (s), .string (t)] ++ us 4 ++ [.bool (b), .slice (some ⟨1, 0, some 0⟩) (m) (0)] ++ us 3 ++ [i64 (i), i64 (IntKind.i64.wrap (k + 1))] ++ us 187, [[]], [some (.row [.int .u8, .slice [.str], .slice [.int .i64]] false (l)), some (.deep [.int .u8, .slice [.str], .slice [.int .i64]] (a) none)]⟩)) (none)) (none)) (R ⟨[.slice (some ⟨0, 0, some 0⟩) (n) (0), .string (s), .string (t)] ++ us 4 ++ [.bool (b), .slice (some ⟨1, 0, some 0⟩) (m) (0)] ++ us 3 ++ [i64 (i), i64 (IntKind.i64.wrap (k + 1))] ++ us 187, [[]], [some (.row [.int .u8, .slice [.str], .slice [.int .i64]] false (l)), some (.deep [.int .u8, .slice [.str], .slice [.int .i64]] (a) none)]⟩))) (none)) (none)) (br (!((l.R (0 + i.toNat) 1).S (0 + k.toNat) 0).toList == s.toList) (br (decide (0 ≤ i) && decide (i < (↑m : Int))) (br (decide (0 ≤ k) && decide (k < (↑(a.R (0 + i.toNat) 1).n : Int))) (br (!((a.R (0 + i.toNat) 1).S (0 + k.toNat) 0).toList == ((l.R (0 + i.toNat) 1).S (0 + k.toNat) 0).toList) (K .ret ⟨[.slice (some ⟨0, 0, some 0⟩) (n) (0), .string (s), .string (t)] ++ us 3 ++ [.bool (false), .bool (b), .slice (some ⟨1, 0, some 0⟩) (m) (0)] ++ us 3 ++ [i64 (i)] ++ us 188, [[]], [some (.row [.int .u8, .slice [.str], .slice [.int .i64]] false (l)), some (.deep [.int .u8, .slice [.str], .slice [.int .i64]] (a) none)]⟩) (R ⟨[.slice (some ⟨0, 0, some 0⟩) (n) (0), .string (s), .string (t)] ++ us 4 ++ [.bool (b), .slice (some ⟨1, 0, some 0⟩) (m) (0)] ++ us 3 ++ [i64 (i), i64 (IntKind.i64.wrap (k + 1))] ++ us 187, [[]], [some (.row [.int .u8, .slice [.str], .slice [.int .i64]] false (l)), some (.deep [.int .u8, .slice [.str], .slice [.int .i64]] (a) none)]⟩)) (none)) (none)) (R ⟨[.slice (some ⟨0, 0, some 0⟩) (n) (0), .string (s), .string (t)] ++ us 4 ++ [.bool (b), .slice (some ⟨1, 0, some 0⟩) (m) (0)] ++ us 3 ++ [i64 (i), i64 (IntKind.i64.wrap (k + 1))] ++ us 187, [[]], [some (.row [.int .u8, .slice [.str], .slice [.int .i64]] false (l)), some (.deep [.int .u8, .slice [.str], .slice [.int .i64]] (a) none)]⟩))) (none)) (none)) (K (.exit 2) ⟨[.slice (some ⟨0, 0, some 0⟩) (n) (0), .string (s), .string (t)] ++ us 4 ++ [.bool (b), .slice (some ⟨1, 0, some 0⟩) (m) (0)] ++ us 3 ++ [i64 (i)] ++ us 188, [[]], [some (.row [.int .u8, .slice [.str], .slice [.int .i64]] false (l)), some (.deep [.int .u8, .slice [.str], .slice [.int .i64]] (a) none)]⟩)) (none) := by kernel_rfl
theorem r7b (gc gB : Row → Bool) (rc : Row → ByteArray → Bool) (rO : Row → ByteArray → ByteArray → Row) (rE : Row → ByteArray → ByteArray → Int) (sc sB : Row → Row → Bool) (cc : Row → Bool) (cE : Row → Int) (R : St → Option (List D)) (K : X → St → Option (List D)) (q n m : Nat) (b : Bool) (s t : ByteArray) (i k : Int) (l a : Row) : bodyOf (CN gc gB rc rO rE sc sB cc cE) 7 22 q (Go.Ev.bst q7b [.n n, .s s, .s t, .b b, .n m, .i i, .i k, .r l, .r a]) (rnd [0, 1, 2, 7, 8, 12, 15] (some [0, 1, 2, 6, 7, 8, 12]) R K) =
    br (decide (0 ≤ i) && decide (i < (↑m : Int))) (br (decide (k < (↑(a.R (0 + i.toNat) 2).n : Int))) (br (decide (0 ≤ i) && decide (i < (↑m : Int))) (br (decide (0 ≤ k) && decide (k < (↑(a.R (0 + i.toNat) 2).n : Int))) (br (decide (0 ≤ i) && decide (i < (↑n : Int))) (br (decide (0 ≤ k) && decide (k < (↑(l.R (0 + i.toNat) 2).n : Int))) (br ((a.R (0 + i.toNat) 2).I (0 + k.toNat) 0 != (l.R (0 + i.toNat) 2).I (0 + k.toNat) 0) (K .ret ⟨[.slice (some ⟨0, 0, some 0⟩) (n) (0), .string (s), .string (t)] ++ us 3 ++ [.bool (false), .bool (b), .slice (some ⟨1, 0, some 0⟩) (m) (0)] ++ us 3 ++ [i64 (i)] ++ us 188, [[]], [some (.row [.int .u8, .slice [.str], .slice [.int .i64]] false (l)), some (.deep [.int .u8, .slice [.str], .slice [.int .i64]] (a) none)]⟩) (R ⟨[.slice (some ⟨0, 0, some 0⟩) (n) (0), .string (s), .string (t)] ++ us 4 ++ [.bool (b), .slice (some ⟨1, 0, some 0⟩) (m) (0)] ++ us 3 ++ [i64 (i)] ++ us 2 ++ [i64 (IntKind.i64.wrap (k + 1))] ++ us 185, [[]], [some (.row [.int .u8, .slice [.str], .slice [.int .i64]] false (l)), some (.deep [.int .u8, .slice [.str], .slice [.int .i64]] (a) none)]⟩)) (none)) (none)) (none)) (none)) (K (.exit 4) ⟨[.slice (some ⟨0, 0, some 0⟩) (n) (0), .string (s), .string (t)] ++ us 4 ++ [.bool (b), .slice (some ⟨1, 0, some 0⟩) (m) (0)] ++ us 3 ++ [i64 (i)] ++ us 188, [[]], [some (.row [.int .u8, .slice [.str], .slice [.int .i64]] false (l)), some (.deep [.int .u8, .slice [.str], .slice [.int .i64]] (a) none)]⟩)) (none) := by kernel_rfl
theorem r7 (gc gB : Row → Bool) (rc : Row → ByteArray → Bool) (rO : Row → ByteArray → ByteArray → Row) (rE : Row → ByteArray → ByteArray → Int) (sc sB : Row → Row → Bool) (cc : Row → Bool) (cE : Row → Int) (R : St → Option (List D)) (K : X → St → Option (List D)) (q n m : Nat) (b : Bool) (s t : ByteArray) (i : Int) (l a : Row) : bodyOf (CN gc gB rc rO rE sc sB cc cE) 7 11 q (Go.Ev.bst q7 [.n n, .s s, .s t, .b b, .n m, .i i, .r l, .r a]) (rnd [0, 1, 2, 7, 8, 12] (some [6, 7]) R K) =
    br (decide (i < (↑m : Int))) (br (decide (0 ≤ i) && decide (i < (↑m : Int))) (br (decide (0 ≤ i) && decide (i < (↑n : Int))) (br (a.I (0 + i.toNat) 0 != l.I (0 + i.toNat) 0) (K .ret ⟨us 6 ++ [.bool (false), .bool (b)] ++ us 193, [[]], []⟩) (br (decide (0 ≤ i) && decide (i < (↑m : Int))) (br (decide (0 ≤ i) && decide (i < (↑n : Int))) (br ((↑(a.R (0 + i.toNat) 1).n : Int) != (↑(l.R (0 + i.toNat) 1).n : Int)) (K .ret ⟨us 6 ++ [.bool (false), .bool (b)] ++ us 193, [[]], []⟩) (br (decide (0 ≤ i) && decide (i < (↑m : Int))) (br (decide (0 ≤ i) && decide (i < (↑n : Int))) (br ((↑(a.R (0 + i.toNat) 2).n : Int) != (↑(l.R (0 + i.toNat) 2).n : Int)) (K .ret ⟨us 6 ++ [.bool (false), .bool (b)] ++ us 193, [[]], []⟩) (br (c7a { n := n, s := s, t := t, b := b, m := m, i := i, k := 0, l := l, a := a : A7 }) (br (c7a { n := n, s := s, t := t, b := b, m := m, i := i, k := 0, l := l, a := a : A7 }) (R ⟨[.slice (some ⟨0, 0, some 0⟩) (n) (0), .string (s), .string (t)] ++ us 4 ++ [.bool (b), .slice (some ⟨1, 0, some 0⟩) (m) (0)] ++ us 3 ++ [i64 (IntKind.i64.wrap (i + 1))] ++ us 188, [[]], [some (.row [.int .u8, .slice [.str], .slice [.int .i64]] false (l)), some (.deep [.int .u8, .slice [.str], .slice [.int .i64]] (a) none)]⟩) (none)) (none))) (none)) (none))) (none)) (none))) (none)) (none)) (K (.exit 0) ⟨us 7 ++ [.bool (b)] ++ us 193, [[]], []⟩) := by kernel_rfl
def hT : Option (List D) := some [.v (.bool true)]
theorem eN (gc gB : Row → Bool) (rc : Row → ByteArray → Bool) (rO : Row → ByteArray → ByteArray → Row) (rE : Row → ByteArray → ByteArray → Int) (sc sB : Row → Row → Bool) (cc : Row → Bool) (cE : Row → Int) (l : Row) (s t : ByteArray) : evF (CN gc gB rc rO rE sc sB cc cE) 6 7 [.slice ksL l, .v (.string s), .v (.string t)] =
    br (gc (wiR l)) (br (gB (wiR l)) hT (br (decide ((s.size : Int) > 100)) hT (br (decide ((t.size : Int) > 100)) hT (br (rc (wiR l) t) (br (rE (wiR l) s t != 0) (some [.v (.bool (((rO (wiR l) s t).n : Int) == 0))]) (br (rc (wiR (rO (wiR l) s t)) s) (br (rE (wiR (rO (wiR l) s t)) t s != 0) fF (br (sc (wiR (rO (wiR (rO (wiR l) s t)) t s)) (wiR l)) (br (!sB (wiR (rO (wiR (rO (wiR l) s t)) t s)) (wiR l)) fF (br (cc (wiR (rO (wiR l) s t))) (br (cE (wiR (rO (wiR l) s t)) != 0) fF (br (((rO (wiR l) s t).n : Int) != (l.n : Int)) fF
      (br (c7 ⟨l.n, s, t, true, (rO (wiR l) s t).n, 0, 0, l, rO (wiR l) s t⟩) hT none))) none)) none)) none)) none)))) none := by kernel_rfl
end Go.Proofs.YtopdfmhlgkbaaaaDoor

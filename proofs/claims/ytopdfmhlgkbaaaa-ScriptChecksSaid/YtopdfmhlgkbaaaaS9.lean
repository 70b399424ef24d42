/- Rename of both sides. No conditions. -/
import Derived.Test.YtopdfmhlgkbaaaaS8
namespace Go.Proofs.Ytopdfmhlgkbaaaa
open Go.Ev
set_option linter.all false
def p8a : PSt := { τ := [.v (.sl 0), .v (.str), .v (.str)] ++ pu 7 ++ [.v (.bool), .v (.bool)] ++ pu 15 ++ [.v (.sl 1), .v (.int .i64), .v (.int .i64)] ++ pu 75, saved := [[]], mem := [.row [.int .u8, .slice [.str], .slice [.int .i64]] false, .row [.str, .int .u8] true] }
def p8b : PSt := { τ := pu 1 ++ [.v (.str), .v (.str)] ++ pu 11 ++ [.v (.sl 0)] ++ pu 47 ++ [.v (.sl 1), .v (.int .i64), .v (.int .i64)] ++ pu 40, saved := [[]], mem := [.deep [.int .u8, .slice [.str], .slice [.int .i64]], .row [.int .u8, .slice [.str], .slice [.int .i64]] false] }
def p8c : PSt := { τ := pu 1 ++ [.v (.str), .v (.str)] ++ pu 11 ++ [.v (.sl 0), .v (.int .i64)] ++ pu 46 ++ [.v (.sl 1), .v (.int .i64), .v (.int .i64)] ++ pu 15 ++ [.v (.sl 2), .v (.int .i64), .v (.int .i64)] ++ pu 22, saved := [[]], mem := [.deep [.int .u8, .slice [.str], .slice [.int .i64]], .row [.int .u8, .slice [.str], .slice [.int .i64]] false, .row [.str] false] }
def p9a : PSt := { τ := pu 1 ++ [.v (.str), .v (.str)] ++ pu 7 ++ [.v (.sl 0), .v (.int .i64)] ++ pu 62, saved := [[]], mem := [.deep [.int .u8, .slice [.str], .slice [.int .i64]]] }
def p9b : PSt := { τ := pu 1 ++ [.v (.str), .v (.str)] ++ pu 7 ++ [.v (.sl 0), .v (.int .i64), .v (.int .i64)] ++ pu 61, saved := [[]], mem := [.deep [.int .u8, .slice [.str], .slice [.int .i64]]] }
/-- A name, with s renamed. -/
def subS (s t x : ByteArray) : ByteArray := bif eqS x s then t else x
def psN (r : Row) (x : ByteArray) : Row := winOf ((winOf r 0 r.n).app (winOf ((Row.zeros 1).setS 0 0 x) 0 1)) 0 (r.n + 1)
theorem psN_n (r : Row) (x : ByteArray) : (psN r x).n = r.n + 1 := rfl
theorem psN_lo (r : Row) (x : ByteArray) {i : Nat} (h : i < r.n) : (psN r x).S i 0 = r.S i 0 := congrFun (app_at (winOf r 0 r.n) (winOf ((Row.zeros 1).setS 0 0 x) 0 1) (i := i) h).1.2 0
theorem psN_hi (r : Row) (x : ByteArray) : (psN r x).S r.n 0 = x := by
  refine (congrFun (app_nx (winOf r 0 r.n) (winOf ((Row.zeros 1).setS 0 0 x) 0 1) (i := r.n) (Nat.lt_irrefl _)).1.2 0).trans ?_
  rw [show r.n - (winOf r 0 r.n).n = 0 from Nat.sub_self _]
  rfl
structure A8 where
  n : Nat
  s : ByteArray
  t : ByteArray
  old : Bool
  tk : Bool
  m : Nat
  len : Int
  j : Int
  l : Row
  o : Row
def d8a (its : List It) : Option A8 := match its with | [.n n, .s s, .s t, .b old, .b tk, .n m, .i len, .i j, .r l, .r o] => some ⟨n, s, t, old, tk, m, len, j, l, o⟩ | _ => none
def nx8 (o : Row) (s t : ByteArray) (i : Nat) (a : Bool × Bool) : Bool × Bool := (a.1 || eqS (o.S i 0) s, a.2 || (eqS (o.S i 0) t && !eqS s t))
def l8a : FoldL A8 (Bool × Bool) where
  f := 8
  id := 6
  lv := [0, 1, 2, 10, 11, 27, 28, 29]
  lx := [0, 1, 2, 6, 7, 10, 11]
  p := p8a
  dat := d8a
  S := fun x i a => [.n x.n, .s x.s, .s x.t, .b a.1, .b a.2, .n x.m, .i x.m, .i i, .r x.l, .r x.o]
  len := fun x => x.m
  cnd := fun x => z3 x.m x.len x.j
  ini := fun x => (x.old, x.tk)
  nx := fun x => nx8 x.o x.s x.t
  Ke := fun x a K => K (.exit 0) ⟨[.slice (some ⟨0, 0, some 0⟩) (x.n) (0), .string (x.s), .string (x.t)] ++ us 7 ++ [.bool (a.1), .bool (a.2)] ++ us 93, [[]], [some (.row [.int .u8, .slice [.str], .slice [.int .i64]] false (x.l))]⟩
structure C8 where
  s : ByteArray
  t : ByteArray
  n : Nat
  i : Int
  m : Nat
  len : Int
  j : Int
  a : Nat
  la : Int
  k : Int
  o : Row
  l : Row
  nm : Row
def d8c (its : List It) : Option C8 := match its with | [.s s, .s t, .n n, .i i, .n m, .i len, .i j, .n a, .i la, .i k, .r o, .r l, .r nm] => some ⟨s, t, n, i, m, len, j, a, la, k, o, l, nm⟩ | _ => none
def nx8c (s t : ByteArray) (nm : Row) (i : Nat) (k : Nat) (o : Row) : Row := o.setR i 1 (psN (o.R i 1) (subS s t (nm.S k 0)))
def c8c (n : Nat) (i : Int) (a : Nat) (la k : Int) (o : Row) : Bool := decide (0 ≤ i ∧ i < n ∧ (o.R i.toNat 1).n ≤ 1000000) && z3 a la k
theorem c8c_iff {n : Nat} {i : Int} {a : Nat} {la k : Int} {o : Row} : c8c n i a la k o = true ↔ (0 ≤ i ∧ i < n ∧ (o.R i.toNat 1).n ≤ 1000000) ∧ la = a ∧ k = 0 ∧ a ≤ 1000000 := by unfold c8c; rw [Bool.and_eq_true_iff, decide_eq_true_eq, z3_iff]
def l8c : FoldL C8 Row where
  f := 8
  id := 23
  lv := [1, 2, 14, 15, 62, 63, 64, 80, 81, 82]
  lx := [1, 2, 6, 7, 14, 62, 63, 64]
  p := p8c
  dat := d8c
  S := fun x k a => [.s x.s, .s x.t, .n x.n, .i x.i, .n x.m, .i x.len, .i x.j, .n x.a, .i x.a, .i k, .r a, .r x.l, .r x.nm]
  len := fun x => x.a
  cnd := fun x => c8c x.n x.i x.a x.la x.k x.o
  ini := fun x => x.o
  nx := fun x => nx8c x.s x.t x.nm x.i.toNat
  Ke := fun x a K => K (.exit 4) ⟨us 1 ++ [.string (x.s), .string (x.t)] ++ us 11 ++ [.slice (some ⟨0, 0, some 0⟩) (x.n) (0)] ++ us 47 ++ [.slice (some ⟨1, 0, some 0⟩) (x.m) (0), i64 (x.len), i64 (x.j)] ++ us 40, [[]], [some (.deep [.int .u8, .slice [.str], .slice [.int .i64]] (a) none), some (.row [.int .u8, .slice [.str], .slice [.int .i64]] false (x.l))]⟩
def rn0 (l : Row) (i : Nat) (o : Row) : Row := ((o.setI i 0 (l.I i 0)).setR i 1 Row.nil).setR i 2 (cpR (l.R i 2))
def nx8b (s t : ByteArray) (l : Row) (i : Nat) (o : Row) : Row := fldN (nx8c s t (l.R i 1) i) (l.R i 1).n 0 (rn0 l i o)
structure B8 where
  s : ByteArray
  t : ByteArray
  n : Nat
  m : Nat
  len : Int
  j : Int
  o : Row
  l : Row
def d8b (its : List It) : Option B8 := match its with | [.s s, .s t, .n n, .n m, .i len, .i j, .r o, .r l] => some ⟨s, t, n, m, len, j, o, l⟩ | _ => none
def c8b (n m : Nat) (len j : Int) (o l : Row) : Bool := decide (n = l.n ∧ m = l.n ∧ o.n = l.n) && (z3 m len j && okL l)
theorem c8b_iff {n m : Nat} {len j : Int} {o l : Row} : c8b n m len j o l = true ↔ (n = l.n ∧ m = l.n ∧ o.n = l.n) ∧ (len = m ∧ j = 0 ∧ m ≤ 1000000) ∧ okL l = true := by unfold c8b; rw [Bool.and_eq_true_iff, Bool.and_eq_true_iff, decide_eq_true_eq, z3_iff]
def l8b : FoldL B8 Row where
  f := 8
  id := 19
  lv := [1, 2, 14, 62, 63, 64]
  lx := [6, 7, 14]
  p := p8b
  dat := d8b
  S := fun x i a => [.s x.s, .s x.t, .n x.l.n, .n x.l.n, .i x.l.n, .i i, .r a, .r x.l]
  len := fun x => x.l.n
  cnd := fun x => c8b x.n x.m x.len x.j x.o x.l
  ini := fun x => x.o
  nx := fun x => nx8b x.s x.t x.l
  Ke := fun x a K => K (.exit 2) ⟨us 14 ++ [.slice (some ⟨0, 0, some 0⟩) (x.l.n) (0)] ++ us 90, [[]], [some (.deep [.int .u8, .slice [.str], .slice [.int .i64]] (a) none)]⟩
noncomputable def C8x : Cx := mkCx Try.prog fns [(14, Fknown), (16, Fname)] [l8a.C, l8b.C, l8c.C]
theorem r8a (R : St → Option (List D)) (K : X → St → Option (List D)) (q n m : Nat) (s t : ByteArray) (old taken : Bool) (len j : Int) (l o : Row) : bodyOf C8x 8 6 q (Go.Ev.bst p8a [.n n, .s s, .s t, .b old, .b taken, .n m, .i len, .i j, .r l, .r o]) (rnd [0, 1, 2, 10, 11, 27, 28, 29] (some [0, 1, 2, 6, 7, 10, 11]) R K) =
    br (decide (j < len)) (br (decide (0 ≤ j) && decide (j < (↑m : Int))) (br (old) (br (taken) (R ⟨[.slice (some ⟨0, 0, some 0⟩) (n) (0), .string (s), .string (t)] ++ us 7 ++ [.bool (true), .bool (true)] ++ us 15 ++ [.slice (some ⟨1, 0, some 0⟩) (m) (0), i64 (len), i64 (IntKind.i64.wrap (j + 1))] ++ us 75, [[]], [some (.row [.int .u8, .slice [.str], .slice [.int .i64]] false (l)), some (.row [.str, .int .u8] true (o))]⟩) (br ((o.S (0 + j.toNat) 0).toList == t.toList) (R ⟨[.slice (some ⟨0, 0, some 0⟩) (n) (0), .string (s), .string (t)] ++ us 7 ++ [.bool (true), .bool (!s.toList == t.toList)] ++ us 15 ++ [.slice (some ⟨1, 0, some 0⟩) (m) (0), i64 (len), i64 (IntKind.i64.wrap (j + 1))] ++ us 75, [[]], [some (.row [.int .u8, .slice [.str], .slice [.int .i64]] false (l)), some (.row [.str, .int .u8] true (o))]⟩) (R ⟨[.slice (some ⟨0, 0, some 0⟩) (n) (0), .string (s), .string (t)] ++ us 7 ++ [.bool (true), .bool (false)] ++ us 15 ++ [.slice (some ⟨1, 0, some 0⟩) (m) (0), i64 (len), i64 (IntKind.i64.wrap (j + 1))] ++ us 75, [[]], [some (.row [.int .u8, .slice [.str], .slice [.int .i64]] false (l)), some (.row [.str, .int .u8] true (o))]⟩))) (br (taken) (R ⟨[.slice (some ⟨0, 0, some 0⟩) (n) (0), .string (s), .string (t)] ++ us 7 ++ [.bool ((o.S (0 + j.toNat) 0).toList == s.toList), .bool (true)] ++ us 15 ++ [.slice (some ⟨1, 0, some 0⟩) (m) (0), i64 (len), i64 (IntKind.i64.wrap (j + 1))] ++ us 75, [[]], [some (.row [.int .u8, .slice [.str], .slice [.int .i64]] false (l)), some (.row [.str, .int .u8] true (o))]⟩) (br ((o.S (0 + j.toNat) 0).toList == t.toList) (R ⟨[.slice (some ⟨0, 0, some 0⟩) (n) (0), .string (s), .string (t)] ++ us 7 ++ [.bool ((o.S (0 + j.toNat) 0).toList == s.toList), .bool (!s.toList == t.toList)] ++ us 15 ++ [.slice (some ⟨1, 0, some 0⟩) (m) (0), i64 (len), i64 (IntKind.i64.wrap (j + 1))] ++ us 75, [[]], [some (.row [.int .u8, .slice [.str], .slice [.int .i64]] false (l)), some (.row [.str, .int .u8] true (o))]⟩) (R ⟨[.slice (some ⟨0, 0, some 0⟩) (n) (0), .string (s), .string (t)] ++ us 7 ++ [.bool ((o.S (0 + j.toNat) 0).toList == s.toList), .bool (false)] ++ us 15 ++ [.slice (some ⟨1, 0, some 0⟩) (m) (0), i64 (len), i64 (IntKind.i64.wrap (j + 1))] ++ us 75, [[]], [some (.row [.int .u8, .slice [.str], .slice [.int .i64]] false (l)), some (.row [.str, .int .u8] true (o))]⟩)))) (none)) (K (.exit 0) ⟨[.slice (some ⟨0, 0, some 0⟩) (n) (0), .string (s), .string (t)] ++ us 7 ++ [.bool (old), .bool (taken)] ++ us 93, [[]], [some (.row [.int .u8, .slice [.str], .slice [.int .i64]] false (l))]⟩) := by kernel_rfl
theorem r8b (R : St → Option (List D)) (K : X → St → Option (List D)) (q n m : Nat) (s t : ByteArray) (len j : Int) (l o : Row) : bodyOf C8x 8 19 q (Go.Ev.bst p8b [.s s, .s t, .n n, .n m, .i len, .i j, .r o, .r l]) (rnd [1, 2, 14, 62, 63, 64] (some [6, 7, 14]) R K) =
    br (decide (j < len)) (br (decide (0 ≤ j) && decide (j < (↑m : Int))) (br (decide (0 + (winOf (l.R (0 + j.toNat) (0 + 1 + 1)) 0 (l.R (0 + j.toNat) (0 + 1 + 1)).n).n ≤ 10000000000)) (br (decide (0 ≤ j) && decide (j < (↑n : Int))) (br (c8c n j (l.R (0 + j.toNat) 1).n (↑(l.R (0 + j.toNat) 1).n : Int) 0 (((o.setI (0 + j.toNat) 0 (l.I (0 + j.toNat) 0)).setR (0 + j.toNat) 1 Row.nil).setR (0 + j.toNat) 2 (winOf (Row.nil.app (winOf (l.R (0 + j.toNat) 2) 0 (l.R (0 + j.toNat) 2).n)) 0 (0 + (winOf (l.R (0 + j.toNat) 2) 0 (l.R (0 + j.toNat) 2).n).n)))) (R ⟨us 1 ++ [.string (s), .string (t)] ++ us 11 ++ [.slice (some ⟨0, 0, some 0⟩) (n) (0)] ++ us 47 ++ [.slice (some ⟨1, 0, some 0⟩) (m) (0), i64 (len), i64 (IntKind.i64.wrap (j + 1))] ++ us 40, [[]], [some (.deep [.int .u8, .slice [.str], .slice [.int .i64]] (fldN (nx8c s t (l.R (0 + j.toNat) 1) j.toNat) (l.R (0 + j.toNat) 1).n 0 (((o.setI (0 + j.toNat) 0 (l.I (0 + j.toNat) 0)).setR (0 + j.toNat) 1 Row.nil).setR (0 + j.toNat) 2 (winOf (Row.nil.app (winOf (l.R (0 + j.toNat) 2) 0 (l.R (0 + j.toNat) 2).n)) 0 (0 + (winOf (l.R (0 + j.toNat) 2) 0 (l.R (0 + j.toNat) 2).n).n)))) none), some (.row [.int .u8, .slice [.str], .slice [.int .i64]] false (l))]⟩) (none)) (none)) (none)) (none)) (K (.exit 2) ⟨us 14 ++ [.slice (some ⟨0, 0, some 0⟩) (n) (0)] ++ us 90, [[]], [some (.deep [.int .u8, .slice [.str], .slice [.int .i64]] (o) none)]⟩) := by kernel_rfl
theorem r8c (R : St → Option (List D)) (K : X → St → Option (List D)) (q n m a : Nat) (s t : ByteArray) (i len j la k : Int) (l o nm : Row) : bodyOf C8x 8 23 q (Go.Ev.bst p8c [.s s, .s t, .n n, .i i, .n m, .i len, .i j, .n a, .i la, .i k, .r o, .r l, .r nm]) (rnd [1, 2, 14, 15, 62, 63, 64, 80, 81, 82] (some [1, 2, 6, 7, 14, 62, 63, 64]) R K) =
    br (decide (k < la)) (br (decide (0 ≤ k) && decide (k < (↑a : Int))) (br ((nm.S (0 + k.toNat) 0).toList == s.toList) (br (decide (0 ≤ i) && decide (i < (↑n : Int))) (br (decide ((o.R (0 + i.toNat) 1).n + (winOf ((Row.zeros 1).setS 0 0 t) 0 1).n ≤ 10000000000)) (br (decide (0 ≤ i) && decide (i < (↑n : Int))) (br (decide (0 + i.toNat = 0 + i.toNat)) (R ⟨us 1 ++ [.string (s), .string (t)] ++ us 11 ++ [.slice (some ⟨0, 0, some 0⟩) (n) (0), i64 (i)] ++ us 46 ++ [.slice (some ⟨1, 0, some 0⟩) (m) (0), i64 (len), i64 (j)] ++ us 15 ++ [.slice (some ⟨2, 0, some 0⟩) (a) (0), i64 (la), i64 (IntKind.i64.wrap (k + 1))] ++ us 22, [[]], [some (.deep [.int .u8, .slice [.str], .slice [.int .i64]] (o.setR (0 + i.toNat) 1 (winOf ((winOf (o.R (0 + i.toNat) 1) 0 (o.R (0 + i.toNat) 1).n).app (winOf ((Row.zeros 1).setS 0 0 t) 0 1)) 0 ((o.R (0 + i.toNat) 1).n + 1))) none), some (.row [.int .u8, .slice [.str], .slice [.int .i64]] false (l)), some (.row [.str] false (nm))]⟩) (none)) (none)) (none)) (none)) (br (decide (0 ≤ i) && decide (i < (↑n : Int))) (br (decide ((o.R (0 + i.toNat) 1).n + (winOf ((Row.zeros 1).setS 0 0 (nm.S (0 + k.toNat) 0)) 0 1).n ≤ 10000000000)) (br (decide (0 ≤ i) && decide (i < (↑n : Int))) (br (decide (0 + i.toNat = 0 + i.toNat)) (R ⟨us 1 ++ [.string (s), .string (t)] ++ us 11 ++ [.slice (some ⟨0, 0, some 0⟩) (n) (0), i64 (i)] ++ us 46 ++ [.slice (some ⟨1, 0, some 0⟩) (m) (0), i64 (len), i64 (j)] ++ us 15 ++ [.slice (some ⟨2, 0, some 0⟩) (a) (0), i64 (la), i64 (IntKind.i64.wrap (k + 1))] ++ us 22, [[]], [some (.deep [.int .u8, .slice [.str], .slice [.int .i64]] (o.setR (0 + i.toNat) 1 (winOf ((winOf (o.R (0 + i.toNat) 1) 0 (o.R (0 + i.toNat) 1).n).app (winOf ((Row.zeros 1).setS 0 0 (nm.S (0 + k.toNat) 0)) 0 1)) 0 ((o.R (0 + i.toNat) 1).n + 1))) none), some (.row [.int .u8, .slice [.str], .slice [.int .i64]] false (l)), some (.row [.str] false (nm))]⟩) (none)) (none)) (none)) (none))) (none)) (K (.exit 4) ⟨us 1 ++ [.string (s), .string (t)] ++ us 11 ++ [.slice (some ⟨0, 0, some 0⟩) (n) (0)] ++ us 47 ++ [.slice (some ⟨1, 0, some 0⟩) (m) (0), i64 (len), i64 (j)] ++ us 40, [[]], [some (.deep [.int .u8, .slice [.str], .slice [.int .i64]] (o) none), some (.row [.int .u8, .slice [.str], .slice [.int .i64]] false (l))]⟩) := by kernel_rfl
theorem t8 (l : Row) (s t : ByteArray) : evF C8x 6 8 [.slice ksL l, .v (.string s), .v (.string t)] =
    br (decide ((winOf l 0 l.n).n > 200) || okL (winOf l 0 l.n)) (br (naE (winOf l 0 l.n) != 0) (some [.slice [.int .u8, .slice [.str], .slice [.int .i64]] (Row.nil), .v (i64 (naE (winOf l 0 l.n)))]) (br (z3 (naO (winOf l 0 l.n)).n (↑(naO (winOf l 0 l.n)).n : Int) 0) (br (!(fldN (l8a.nx { n := l.n, s := s, t := t, old := false, tk := false, m := (naO (winOf l 0 l.n)).n, len := (↑(naO (winOf l 0 l.n)).n : Int), j := 0, l := l, o := naO (winOf l 0 l.n) : A8 }) (l8a.len { n := l.n, s := s, t := t, old := false, tk := false, m := (naO (winOf l 0 l.n)).n, len := (↑(naO (winOf l 0 l.n)).n : Int), j := 0, l := l, o := naO (winOf l 0 l.n) : A8 }) 0 (l8a.ini { n := l.n, s := s, t := t, old := false, tk := false, m := (naO (winOf l 0 l.n)).n, len := (↑(naO (winOf l 0 l.n)).n : Int), j := 0, l := l, o := naO (winOf l 0 l.n) : A8 })).1) (some [.slice [.int .u8, .slice [.str], .slice [.int .i64]] (Row.nil), .v (i64 (6))]) (br (decide ({ n := l.n, s := s, t := t, old := false, tk := false, m := (naO (winOf l 0 l.n)).n, len := (↑(naO (winOf l 0 l.n)).n : Int), j := 0, l := l, o := naO (winOf l 0 l.n) : A8 }.t.size ≤ 1000000)) (br (!nmB t) (some [.slice [.int .u8, .slice [.str], .slice [.int .i64]] (Row.nil), .v (i64 (8))]) (br ((fldN (l8a.nx { n := l.n, s := s, t := t, old := false, tk := false, m := (naO (winOf l 0 l.n)).n, len := (↑(naO (winOf l 0 l.n)).n : Int), j := 0, l := l, o := naO (winOf l 0 l.n) : A8 }) (l8a.len { n := l.n, s := s, t := t, old := false, tk := false, m := (naO (winOf l 0 l.n)).n, len := (↑(naO (winOf l 0 l.n)).n : Int), j := 0, l := l, o := naO (winOf l 0 l.n) : A8 }) 0 (l8a.ini { n := l.n, s := s, t := t, old := false, tk := false, m := (naO (winOf l 0 l.n)).n, len := (↑(naO (winOf l 0 l.n)).n : Int), j := 0, l := l, o := naO (winOf l 0 l.n) : A8 })).2) (some [.slice [.int .u8, .slice [.str], .slice [.int .i64]] (Row.nil), .v (i64 (14))]) (br (decide (0 ≤ (↑{ n := l.n, s := s, t := t, old := false, tk := false, m := (naO (winOf l 0 l.n)).n, len := (↑(naO (winOf l 0 l.n)).n : Int), j := 0, l := l, o := naO (winOf l 0 l.n) : A8 }.n : Int)) && decide ((↑{ n := l.n, s := s, t := t, old := false, tk := false, m := (naO (winOf l 0 l.n)).n, len := (↑(naO (winOf l 0 l.n)).n : Int), j := 0, l := l, o := naO (winOf l 0 l.n) : A8 }.n : Int) ≤ (↑{ n := l.n, s := s, t := t, old := false, tk := false, m := (naO (winOf l 0 l.n)).n, len := (↑(naO (winOf l 0 l.n)).n : Int), j := 0, l := l, o := naO (winOf l 0 l.n) : A8 }.n : Int)) && decide ((↑{ n := l.n, s := s, t := t, old := false, tk := false, m := (naO (winOf l 0 l.n)).n, len := (↑(naO (winOf l 0 l.n)).n : Int), j := 0, l := l, o := naO (winOf l 0 l.n) : A8 }.n : Int) ≤ 100000000000)) (br (c8b (↑l.n : Int).toNat l.n (↑l.n : Int) 0 (Row.zeros (↑l.n : Int).toNat) l) (some [.slice [.int .u8, .slice [.str], .slice [.int .i64]] (winOf (fldN (nx8b s t l) l.n 0 (Row.zeros (↑l.n : Int).toNat)) 0 l.n), .v (i64 (0))]) (none)) (none)))) (none))) (none))) (none) := by kernel_rfl
def nx9b (s t : ByteArray) (i k : Nat) (r : Row) : Row := bif eqS ((r.R i 1).S k 0) s then r.setR i 1 ((r.R i 1).setS k 0 t) else r
def d9b (its : List It) : Option (ByteArray × ByteArray × Nat × Int × Int × Row) := match its with | [.s s, .s t, .n n, .i j, .i k, .r o] => some (s, t, n, j, k, o) | _ => none
def c9b (n : Nat) (j k : Int) (o : Row) : Bool := decide (0 ≤ j ∧ j < n) && zb (o.R j.toNat 1).n k
theorem c9b_iff {n : Nat} {j k : Int} {o : Row} : c9b n j k o = true ↔ (0 ≤ j ∧ j < n) ∧ k = 0 ∧ (o.R j.toNat 1).n ≤ big := by unfold c9b; rw [Bool.and_eq_true_iff, decide_eq_true_eq, zb_iff]
def l9b : FoldL (ByteArray × ByteArray × Nat × Int × Int × Row) Row where
  f := 9
  id := 15
  lv := [1, 2, 10, 11, 12]
  lx := [1, 2, 6, 7, 10, 11]
  p := p9b
  dat := d9b
  S := fun (s, t, n, j, k, o) i a => [.s s, .s t, .n n, .i j, .i i, .r a]
  len := fun (s, t, n, j, k, o) => (o.R j.toNat 1).n
  cnd := fun (s, t, n, j, k, o) => c9b n j k o
  ini := fun (s, t, n, j, k, o) => o
  nx := fun (s, t, n, j, k, o) => nx9b s t j.toNat
  Ke := fun (s, t, n, j, k, o) a K => K (.exit 2) ⟨us 1 ++ [.string (s), .string (t)] ++ us 7 ++ [.slice (some ⟨0, 0, some 0⟩) (n) (0), i64 (j)] ++ us 62, [[]], [some (.deep [.int .u8, .slice [.str], .slice [.int .i64]] (a) none)]⟩
def nx9a (s t : ByteArray) (i : Nat) (r : Row) : Row := fldN (nx9b s t i) (r.R i 1).n 0 r
def d9a (its : List It) : Option (ByteArray × ByteArray × Nat × Int × Row) := match its with | [.s s, .s t, .n n, .i j, .r o] => some (s, t, n, j, o) | _ => none
def c9a (n : Nat) (j : Int) (o : Row) : Bool := zb n j && (decide (n = o.n) && bgL o)
theorem c9a_iff {n : Nat} {j : Int} {o : Row} : c9a n j o = true ↔ (j = 0 ∧ n ≤ big) ∧ n = o.n ∧ bgL o = true := by unfold c9a; rw [Bool.and_eq_true_iff, Bool.and_eq_true_iff, decide_eq_true_eq, zb_iff]
def l9a : FoldL (ByteArray × ByteArray × Nat × Int × Row) Row where
  f := 9
  id := 12
  lv := [1, 2, 10, 11]
  lx := [6, 7, 10]
  p := p9a
  dat := d9a
  S := fun (s, t, n, j, o) i a => [.s s, .s t, .n n, .i i, .r a]
  len := fun (s, t, n, j, o) => n
  cnd := fun (s, t, n, j, o) => c9a n j o
  ini := fun (s, t, n, j, o) => o
  nx := fun (s, t, n, j, o) => nx9a s t
  Ke := fun (s, t, n, j, o) a K => K (.exit 0) ⟨us 10 ++ [.slice (some ⟨0, 0, some 0⟩) (n) (0)] ++ us 63, [[]], [some (.deep [.int .u8, .slice [.str], .slice [.int .i64]] (a) none)]⟩
noncomputable def C9 : Cx := mkCx Try.prog fns [(7, FNames), (18, Fname), (17, Ffind), (5, Ftwin)] [l9a.C, l9b.C]
theorem r9a (R : St → Option (List D)) (K : X → St → Option (List D)) (q n : Nat) (s t : ByteArray) (j : Int) (o : Row) : bodyOf C9 9 12 q (Go.Ev.bst p9a [.s s, .s t, .n n, .i j, .r o]) (rnd [1, 2, 10, 11] (some [6, 7, 10]) R K) =
    br (decide (j < (↑n : Int))) (br (c9b n j 0 o) (R ⟨us 1 ++ [.string (s), .string (t)] ++ us 7 ++ [.slice (some ⟨0, 0, some 0⟩) (n) (0), i64 (IntKind.i64.wrap (j + 1))] ++ us 62, [[]], [some (.deep [.int .u8, .slice [.str], .slice [.int .i64]] (fldN (nx9b s t j.toNat) (o.R j.toNat 1).n 0 o) none)]⟩) (none)) (K (.exit 0) ⟨us 10 ++ [.slice (some ⟨0, 0, some 0⟩) (n) (0)] ++ us 63, [[]], [some (.deep [.int .u8, .slice [.str], .slice [.int .i64]] (o) none)]⟩) := by kernel_rfl
theorem r9b (R : St → Option (List D)) (K : X → St → Option (List D)) (q n : Nat) (s t : ByteArray) (j k : Int) (o : Row) : bodyOf C9 9 15 q (Go.Ev.bst p9b [.s s, .s t, .n n, .i j, .i k, .r o]) (rnd [1, 2, 10, 11, 12] (some [1, 2, 6, 7, 10, 11]) R K) =
    br (decide (0 ≤ j) && decide (j < (↑n : Int))) (br (decide (k < (↑(o.R (0 + j.toNat) 1).n : Int))) (br (decide (0 ≤ j) && decide (j < (↑n : Int))) (br (decide (0 ≤ k) && decide (k < (↑(o.R (0 + j.toNat) 1).n : Int))) (br (((o.R (0 + j.toNat) 1).S (0 + k.toNat) 0).toList == s.toList) (br (decide (0 ≤ j) && decide (j < (↑n : Int))) (br (decide (0 ≤ k) && decide (k < (↑(o.R (0 + j.toNat) 1).n : Int))) (R ⟨us 1 ++ [.string (s), .string (t)] ++ us 7 ++ [.slice (some ⟨0, 0, some 0⟩) (n) (0), i64 (j), i64 (IntKind.i64.wrap (k + 1))] ++ us 61, [[]], [some (.deep [.int .u8, .slice [.str], .slice [.int .i64]] (o.setR (0 + j.toNat) 1 ((o.R (0 + j.toNat) 1).setS (0 + k.toNat) 0 t)) none)]⟩) (none)) (none)) (R ⟨us 1 ++ [.string (s), .string (t)] ++ us 7 ++ [.slice (some ⟨0, 0, some 0⟩) (n) (0), i64 (j), i64 (IntKind.i64.wrap (k + 1))] ++ us 61, [[]], [some (.deep [.int .u8, .slice [.str], .slice [.int .i64]] (o) none)]⟩)) (none)) (none)) (K (.exit 2) ⟨us 1 ++ [.string (s), .string (t)] ++ us 7 ++ [.slice (some ⟨0, 0, some 0⟩) (n) (0), i64 (j)] ++ us 62, [[]], [some (.deep [.int .u8, .slice [.str], .slice [.int .i64]] (o) none)]⟩)) (none) := by kernel_rfl
theorem t9 (l : Row) (s t : ByteArray) : evF C9 6 9 [.slice ksL l, .v (.string s), .v (.string t)] =
    br (decide ((winOf l 0 l.n).n > 200) || okL (winOf l 0 l.n)) (br (naE (winOf l 0 l.n) != 0) (some [.slice [.int .u8, .slice [.str], .slice [.int .i64]] (Row.nil), .v (i64 (naE (winOf l 0 l.n)))]) (br (decide ((winOf (nqO (winOf l 0 l.n)) 0 (nqO (winOf l 0 l.n)).n).n ≤ 1000000)) (br (decide (fdI (winOf (nqO (winOf l 0 l.n)) 0 (nqO (winOf l 0 l.n)).n) s < 0)) (some [.slice [.int .u8, .slice [.str], .slice [.int .i64]] (Row.nil), .v (i64 (6))]) (br (decide (t.size ≤ 1000000)) (br (!nmB t) (some [.slice [.int .u8, .slice [.str], .slice [.int .i64]] (Row.nil), .v (i64 (8))]) (br (!s.toList == t.toList) (br (decide ((winOf (nqO (winOf l 0 l.n)) 0 (nqO (winOf l 0 l.n)).n).n ≤ 1000000)) (br (decide (fdI (winOf (nqO (winOf l 0 l.n)) 0 (nqO (winOf l 0 l.n)).n) t ≥ 0)) (some [.slice [.int .u8, .slice [.str], .slice [.int .i64]] (Row.nil), .v (i64 (14))]) (br (okL (winOf l 0 l.n)) (br (c9a (twR (winOf l 0 l.n)).n 0 (twR (winOf l 0 l.n))) (some [.slice [.int .u8, .slice [.str], .slice [.int .i64]] (winOf (fldN (nx9a s t) (twR (winOf l 0 l.n)).n 0 (twR (winOf l 0 l.n))) 0 (twR (winOf l 0 l.n)).n), .v (i64 (0))]) (none)) (none))) (none)) (br (okL (winOf l 0 l.n)) (br (c9a (twR (winOf l 0 l.n)).n 0 (twR (winOf l 0 l.n))) (some [.slice [.int .u8, .slice [.str], .slice [.int .i64]] (winOf (fldN (nx9a s t) (twR (winOf l 0 l.n)).n 0 (twR (winOf l 0 l.n))) 0 (twR (winOf l 0 l.n)).n), .v (i64 (0))]) (none)) (none)))) (none))) (none))) (none) := by kernel_rfl
theorem t8' (l : Row) (s t : ByteArray) : evF C8x 6 8 [.slice ksL l, .v (.string s), .v (.string t)] =
    br (decide (l.n > 200) || okL l) (br (naE l != 0) (some [D.slice [.int .u8, .slice [.str], .slice [.int .i64]] .nil, D.v (i64 (naE l))]) (br (z3 (naO l).n (naO l).n 0) (br (!(fldN (nx8 (naO l) s t) (naO l).n 0 (false, false)).1) (some [D.slice [.int .u8, .slice [.str], .slice [.int .i64]] .nil, D.v (i64 6)]) (br (decide (t.size ≤ 1000000)) (br (!nmB t) (some [D.slice [.int .u8, .slice [.str], .slice [.int .i64]] .nil, D.v (i64 8)]) (br (fldN (nx8 (naO l) s t) (naO l).n 0 (false, false)).2 (some [D.slice [.int .u8, .slice [.str], .slice [.int .i64]] .nil, D.v (i64 14)]) (br (decide ((0 : Int) ≤ (l.n : Int)) && decide ((l.n : Int) ≤ (l.n : Int)) && decide ((l.n : Int) ≤ 100000000000)) (br (c8b l.n l.n (l.n : Int) 0 (Row.zeros l.n) l) (some [D.slice [.int .u8, .slice [.str], .slice [.int .i64]] (winOf (fldN (nx8b s t l) l.n 0 (Row.zeros l.n)) 0 l.n), D.v (i64 0)]) none) none))) none)) none)) none := by kernel_rfl
theorem t9' (l : Row) (s t : ByteArray) : evF C9 6 9 [.slice ksL l, .v (.string s), .v (.string t)] =
    br (decide (l.n > 200) || okL l) (br (naE l != 0) (some [D.slice [.int .u8, .slice [.str], .slice [.int .i64]] .nil, D.v (i64 (naE l))]) (br (decide ((nqO l).n ≤ 1000000)) (br (decide (fdI (nqO l) s < 0)) (some [D.slice [.int .u8, .slice [.str], .slice [.int .i64]] .nil, D.v (i64 6)]) (br (decide (t.size ≤ 1000000)) (br (!nmB t) (some [D.slice [.int .u8, .slice [.str], .slice [.int .i64]] .nil, D.v (i64 8)]) (br (!eqS s t) (br (decide ((nqO l).n ≤ 1000000)) (br (decide (fdI (nqO l) t ≥ 0)) (some [D.slice [.int .u8, .slice [.str], .slice [.int .i64]] .nil, D.v (i64 14)]) (br (okL l) (br (c9a (twR l).n 0 (twR l)) (some [D.slice [.int .u8, .slice [.str], .slice [.int .i64]] (winOf (fldN (nx9a s t) (twR l).n 0 (twR l)) 0 (twR l).n), D.v (i64 0)]) none) none)) none) (br (okL l) (br (c9a (twR l).n 0 (twR l)) (some [D.slice [.int .u8, .slice [.str], .slice [.int .i64]] (winOf (fldN (nx9a s t) (twR l).n 0 (twR l)) 0 (twR l).n), D.v (i64 0)]) none) none))) none)) none)) none := by kernel_rfl
set_option maxRecDepth 100000 in
theorem ok8a : LoopOk C8x l8a.C := l8a.ok (fun _ _ _ => True) (by kernel_rfl)
  (fun its x h hc => by
    replace h : d8a its = some x := h
    unfold d8a at h
    split at h
    · cases h
      obtain ⟨h1, h2, h3⟩ := z3_iff.1 hc
      dsimp only at h1 h2 h3
      subst h1 h2
      rfl
    · cases h)
  (fun x hc => by have := (z3_iff.1 hc).2.2; show x.m < 18446744073709551616; omega)
  (fun _ _ => trivial) (fun _ _ _ _ _ _ => trivial)
  (fun q ⟨n, s, t, old, tk, m, len, j, l, o⟩ i ⟨a, b⟩ hc hi _ R K => by
    have h3 := (z3_iff.1 hc).2.2
    replace hi : i < m := hi
    dsimp only at h3
    refine (r8a R K q n m s t a b m i l o).trans ?_
    rw [Int.toNat_natCast, Nat.zero_add i, gd i m hi, ltd i m hi, wsn (by omega)]
    show br true (br true (br a (br b _ (br (eqS (o.S i 0) t) _ _)) (br b _ (br (eqS (o.S i 0) t) _ _))) _) _ = R (Go.Ev.bst p8a (l8a.S ⟨n, s, t, old, tk, m, len, j, l, o⟩ (i + 1) (a || eqS (o.S i 0) s, b || (eqS (o.S i 0) t && !eqS s t))))
    cases a <;> cases b <;> cases eqS (o.S i 0) t <;> rfl)
  (fun q ⟨n, s, t, old, tk, m, len, j, l, o⟩ ⟨a, b⟩ hc _ R K => by
    refine (r8a R K q n m s t a b m m l o).trans ?_
    rw [ltn m]
    rfl)
theorem sR_1 (r : Row) (e j : Nat) (x : Row) : (r.setR e j x).R e j = x := by rw [sR_at, if_pos ⟨rfl, rfl⟩]
theorem sR_no (r : Row) (e j : Nat) (x : Row) {e' j' : Nat} (h : ¬ (e' = e ∧ j' = j)) : (r.setR e j x).R e' j' = r.R e' j' := by rw [sR_at, if_neg h]
set_option maxRecDepth 100000 in
theorem ok8c : LoopOk C8x l8c.C := l8c.ok (fun x k a => (a.R x.i.toNat 1).n ≤ 1000000 + k) (by kernel_rfl)
  (fun its x h hc => by
    replace h : d8c its = some x := h
    unfold d8c at h
    split at h
    · cases h
      obtain ⟨h0, h1, h2, h3⟩ := c8c_iff.1 hc
      dsimp only at h0 h1 h2 h3
      subst h1 h2
      rfl
    · cases h)
  (fun x hc => by have := (c8c_iff.1 hc).2.2.2; show x.a < 18446744073709551616; omega)
  (fun x hc => (c8c_iff.1 hc).1.2.2)
  (fun x k a hc hk hI => by
    show ((a.setR x.i.toNat 1 (psN (a.R x.i.toNat 1) (subS x.s x.t (x.nm.S k 0)))).R x.i.toNat 1).n ≤ _
    rw [sR_1, psN_n]
    have hI : (a.R x.i.toNat 1).n ≤ 1000000 + k := hI
    omega)
  (fun q ⟨s, t, n, i, m, len, j, a, la, k0, o, l, nm⟩ k r hc hk hI R K => by
    obtain ⟨h0, h1, h2, h3⟩ := c8c_iff.1 hc
    replace hk : k < a := hk
    dsimp only at h0 h1 h2 h3
    replace hI : (r.R i.toNat 1).n ≤ 1000000 + k := hI
    refine (r8c R K q n m a s t i len j a k l r nm).trans ?_
    rw [Int.toNat_natCast, Nat.zero_add k, Nat.zero_add i.toNat, gd k a hk, ltd k a hk, wsn (by omega), ij i n ⟨h0.1, h0.2.1⟩, decide_eq_true (show i.toNat = i.toNat from rfl)]
    rw [decide_eq_true (show (r.R i.toNat 1).n + (winOf ((Row.zeros 1).setS 0 0 t) 0 1).n ≤ 10000000000 from (by show (r.R i.toNat 1).n + 1 ≤ 10000000000; omega)), decide_eq_true (show (r.R i.toNat 1).n + (winOf ((Row.zeros 1).setS 0 0 (nm.S k 0)) 0 1).n ≤ 10000000000 from (by show (r.R i.toNat 1).n + 1 ≤ 10000000000; omega))]
    show br true (br true (br (eqS (nm.S k 0) s) _ _) _) _ = R (Go.Ev.bst p8c (l8c.S ⟨s, t, n, i, m, len, j, a, la, k0, o, l, nm⟩ (k + 1) (r.setR i.toNat 1 (psN (r.R i.toNat 1) (bif eqS (nm.S k 0) s then t else nm.S k 0)))))
    cases eqS (nm.S k 0) s <;> rfl)
  (fun q ⟨s, t, n, i, m, len, j, a, la, k0, o, l, nm⟩ r hc hI R K => by
    refine (r8c R K q n m a s t i len j a a l r nm).trans ?_
    rw [ltn a]
    rfl)
theorem rn0_1 (l : Row) (i : Nat) (o : Row) : (rn0 l i o).R i 1 = .nil := by
  unfold rn0
  rw [sR_no _ _ _ _ (by omega), sR_1]
theorem nx8b_sp (s t : ByteArray) (l : Row) (i : Nat) (o : Row) : (nx8b s t l i o).n = o.n ∧ (∀ e, (nx8b s t l i o).I e 0 = (rn0 l i o).I e 0) ∧ (∀ e j, ¬ (e = i ∧ j = 1) → (nx8b s t l i o).R e j = (rn0 l i o).R e j) ∧ ((nx8b s t l i o).R i 1).n = (l.R i 1).n ∧ ∀ x, x < (l.R i 1).n → ((nx8b s t l i o).R i 1).S x 0 = subS s t ((l.R i 1).S x 0) := by
  refine fold_inv (Inv := fun k (r : Row) => r.n = o.n ∧ (∀ e, r.I e 0 = (rn0 l i o).I e 0) ∧ (∀ e j, ¬ (e = i ∧ j = 1) → r.R e j = (rn0 l i o).R e j) ∧ (r.R i 1).n = k ∧ ∀ x, x < k → (r.R i 1).S x 0 = subS s t ((l.R i 1).S x 0)) (nx := nx8c s t (l.R i 1) i) (len := (l.R i 1).n) (fun k r hk h => ?_) (m := (l.R i 1).n) (j := 0) (a := rn0 l i o) (by omega) ⟨rfl, fun _ => rfl, fun _ _ _ => rfl, by rw [rn0_1]; rfl, fun x hx => by omega⟩
  obtain ⟨h1, h2, h3, h4, h5⟩ := h
  unfold nx8c
  refine ⟨h1, h2, fun e j he => ?_, ?_, fun x hx => ?_⟩
  · rw [sR_no _ _ _ _ he]; exact h3 e j he
  · rw [sR_1, psN_n, h4]
  · rw [sR_1]
    by_cases e : x < k
    · rw [psN_lo _ _ (h4.symm ▸ e)]; exact h5 x e
    · have : x = (r.R i 1).n := by omega
      rw [this, psN_hi, h4]
set_option maxRecDepth 100000 in
theorem ok8b : LoopOk C8x l8b.C := l8b.ok (fun x k a => a.n = x.l.n) (by kernel_rfl)
  (fun its x h hc => by
    replace h : d8b its = some x := h
    unfold d8b at h
    split at h
    · cases h
      obtain ⟨⟨h1, h2, h3⟩, ⟨h4, h5, h6⟩, h7⟩ := c8b_iff.1 hc
      dsimp only at h1 h2 h3 h4 h5
      subst h4 h5 h1 h2
      rfl
    · cases h)
  (fun x hc => by have := (okL_iff.1 (c8b_iff.1 hc).2.2).1; show x.l.n < 18446744073709551616; omega)
  (fun x hc => (c8b_iff.1 hc).1.2.2)
  (fun x k a hc hk hI => (nx8b_sp x.s x.t x.l k a).1.trans hI)
  (fun q ⟨s, t, n, m, len, j, o, l⟩ i r hc hi hI R K => by
    have h7 := (c8b_iff.1 hc).2.2
    dsimp only at h7
    replace hi : i < l.n := hi
    have h8 := (okL_iff.1 h7).1
    have h9 := lb_names h7 hi
    have h10 := lb_nums h7 hi
    refine (r8b R K q l.n l.n s t l.n i l r).trans ?_
    rw [Int.toNat_natCast, Nat.zero_add i, gd i _ hi, ltd i _ hi, wsn (by omega)]
    rw [decide_eq_true (show 0 + (winOf (l.R i (0 + 1 + 1)) 0 (l.R i (0 + 1 + 1)).n).n ≤ 10000000000 from (by show 0 + (l.R i 2).n ≤ 10000000000; omega))]
    show br true (br true (br true (br true (br (c8c l.n i (l.R i 1).n (l.R i 1).n 0 (rn0 l i r)) _ _) _) _) _) _ = _
    rw [c8c_iff.2 ⟨⟨by omega, by omega, by rw [Int.toNat_natCast, rn0_1]; exact Nat.zero_le _⟩, rfl, rfl, h9⟩]
    rfl)
  (fun q ⟨s, t, n, m, len, j, o, l⟩ r hc hI R K => by
    refine (r8b R K q l.n l.n s t l.n l.n l r).trans ?_
    rw [ltn l.n]
    rfl)
theorem C8x_ok : CxOk C8x := mkCx_ok enter mixed (fun p h => by
  simp only [List.mem_cons, List.not_mem_nil, or_false] at h
  rcases h with rfl | rfl
  · exact den_known
  · exact den_name) (fun l h => by
  simp only [List.mem_cons, List.not_mem_nil, or_false] at h
  rcases h with rfl | rfl | rfl
  · exact ok8a
  · exact ok8b
  · exact ok8c)
theorem nx9b_n (s t : ByteArray) (i k : Nat) (r : Row) : ((nx9b s t i k r).R i 1).n = (r.R i 1).n := by
  unfold nx9b
  cases eqS ((r.R i 1).S k 0) s
  · rfl
  · rw [cond_true, sR_1]; rfl
set_option maxRecDepth 100000 in
theorem ok9b : LoopOk C9 l9b.C := l9b.ok (fun (s, t, n, j, k, o) i a => (a.R j.toNat 1).n = (o.R j.toNat 1).n) (by kernel_rfl)
  (fun its x h hc => by
    replace h : d9b its = some x := h
    unfold d9b at h
    split at h
    · cases h
      obtain ⟨h0, h1, h2⟩ := c9b_iff.1 hc
      subst h1
      rfl
    · cases h)
  (fun ⟨s, t, n, j, k, o⟩ hc => ltbig (c9b_iff.1 hc).2.2)
  (fun ⟨s, t, n, j, k, o⟩ hc => rfl)
  (fun ⟨s, t, n, j, k, o⟩ i a hc hk hI => (nx9b_n s t j.toNat i a).trans hI)
  (fun q ⟨s, t, n, j, k0, o⟩ k r hc hk hI R K => by
    obtain ⟨h0, h1, h2⟩ := c9b_iff.1 hc
    replace hI : (r.R j.toNat 1).n = (o.R j.toNat 1).n := hI
    replace hk : k < (r.R j.toNat 1).n := hI ▸ hk
    rw [← hI] at h2
    refine (r9b R K q n s t j k r).trans ?_
    rw [Int.toNat_natCast, Nat.zero_add k, Nat.zero_add j.toNat, gd k _ hk, ltd k _ hk, wsb (by omega), ij j n h0]
    show br true (br true (br true (br true (br (eqS ((r.R j.toNat 1).S k 0) s) _ _) _) _) _) _ = R (Go.Ev.bst p9b (l9b.S (s, t, n, j, k0, o) (k + 1) (bif eqS ((r.R j.toNat 1).S k 0) s then r.setR j.toNat 1 ((r.R j.toNat 1).setS k 0 t) else r)))
    cases eqS ((r.R j.toNat 1).S k 0) s <;> rfl)
  (fun q ⟨s, t, n, j, k0, o⟩ r hc hI R K => by
    obtain ⟨h0, h1, h2⟩ := c9b_iff.1 hc
    replace hI : (r.R j.toNat 1).n = (o.R j.toNat 1).n := hI
    refine (r9b R K q n s t j (o.R j.toNat 1).n r).trans ?_
    rw [Nat.zero_add j.toNat, ← hI, ltn, ij j n h0]
    rfl)
theorem nx9a_sp (s t : ByteArray) (i : Nat) (o : Row) : (nx9a s t i o).n = o.n ∧ (∀ e, (nx9a s t i o).I e 0 = o.I e 0) ∧ (∀ e j, ¬ (e = i ∧ j = 1) → (nx9a s t i o).R e j = o.R e j) ∧ ((nx9a s t i o).R i 1).n = (o.R i 1).n ∧ ∀ x, x < (o.R i 1).n → ((nx9a s t i o).R i 1).S x 0 = subS s t ((o.R i 1).S x 0) := by
  have h := fold_inv (Inv := fun k (r : Row) => r.n = o.n ∧ (∀ e, r.I e 0 = o.I e 0) ∧ (∀ e j, ¬ (e = i ∧ j = 1) → r.R e j = o.R e j) ∧ (r.R i 1).n = (o.R i 1).n ∧ (∀ x, x < k → (r.R i 1).S x 0 = subS s t ((o.R i 1).S x 0)) ∧ ∀ x, k ≤ x → (r.R i 1).S x 0 = (o.R i 1).S x 0) (nx := nx9b s t i) (len := (o.R i 1).n) (fun k r hk h => by
    obtain ⟨h1, h2, h3, h4, h5, h6⟩ := h
    unfold nx9b
    cases hc : eqS ((r.R i 1).S k 0) s
    · refine ⟨h1, h2, h3, h4, fun x hx => ?_, fun x hx => h6 x (by omega)⟩
      by_cases e : x < k
      · exact h5 x e
      · have e : x = k := by omega
        subst e
        rw [h6 x (Nat.le_refl _)] at hc
        show (r.R i 1).S x 0 = _
        rw [h6 x (Nat.le_refl _)]
        unfold subS
        rw [hc]; rfl
    · rw [cond_true]
      refine ⟨h1, h2, fun e j he => by rw [sR_no _ _ _ _ he]; exact h3 e j he, by rw [sR_1]; exact h4, fun x hx => ?_, fun x hx => ?_⟩
      · rw [sR_1, sS_at]
        by_cases e : x = k
        · subst e
          rw [if_pos ⟨rfl, rfl⟩]
          rw [h6 x (Nat.le_refl _)] at hc
          unfold subS
          rw [hc]; rfl
        · rw [if_neg (by omega)]; exact h5 x (by omega)
      · rw [sR_1, sS_at, if_neg (by omega)]; exact h6 x (by omega)) (m := (o.R i 1).n) (j := 0) (a := o) (by omega) ⟨rfl, fun _ => rfl, fun _ _ _ => rfl, rfl, fun x hx => by omega, fun _ _ => rfl⟩
  exact ⟨h.1, h.2.1, h.2.2.1, h.2.2.2.1, h.2.2.2.2.1⟩
set_option maxRecDepth 100000 in
theorem ok9a : LoopOk C9 l9a.C := l9a.ok (fun (s, t, n, j, o) i a => a.n = o.n ∧ ∀ e, (a.R e 1).n = (o.R e 1).n) (by kernel_rfl)
  (fun its x h hc => by
    replace h : d9a its = some x := h
    unfold d9a at h
    split at h
    · cases h
      obtain ⟨⟨h0, h1⟩, h2⟩ := c9a_iff.1 hc
      subst h0
      rfl
    · cases h)
  (fun ⟨s, t, n, j, o⟩ hc => ltbig (c9a_iff.1 hc).1.2)
  (fun ⟨s, t, n, j, o⟩ hc => ⟨rfl, fun _ => rfl⟩)
  (fun ⟨s, t, n, j, o⟩ i a hc hk hI => by
    obtain ⟨h1, h2, h3, h4, h5⟩ := nx9a_sp s t i a
    refine ⟨h1.trans hI.1, fun e => ?_⟩
    show ((nx9a s t i a).R e 1).n = _
    by_cases he : e = i
    · rw [he, h4, hI.2]
    · rw [h3 e 1 (by omega), hI.2])
  (fun q ⟨s, t, n, j, o⟩ i r hc hi hI R K => by
    obtain ⟨⟨h0, h1⟩, h2, h3⟩ := c9a_iff.1 hc
    replace hi : i < n := hi
    have h4 := (bgL_iff.1 h3).2 i (by omega)
    refine (r9a R K q n s t i r).trans ?_
    rw [Int.toNat_natCast, ltd i n hi, wsb (by omega), show c9b n (i : Int) 0 r = true from c9b_iff.2 ⟨by omega, rfl, by rw [Int.toNat_natCast, hI.2]; exact h4.1⟩]
    rfl)
  (fun q ⟨s, t, n, j, o⟩ r hc hI R K => by
    refine (r9a R K q n s t n r).trans ?_
    rw [ltn n]
    rfl)
theorem C9_ok : CxOk C9 := mkCx_ok enter mixed (fun p h => by
  simp only [List.mem_cons, List.not_mem_nil, or_false] at h
  rcases h with rfl | rfl | rfl | rfl
  · exact den_Names
  · exact den_Name
  · exact den_find
  · exact den_twin) (fun l h => by
  simp only [List.mem_cons, List.not_mem_nil, or_false] at h
  rcases h with rfl | rfl
  · exact ok9a
  · exact ok9b)
def hasN (k : Row) (x : ByteArray) : Bool := anyF (eqN k x) k.n 0
/-- The error of Rename. -/
def reE (l : Row) (s t : ByteArray) : Int := bif naE l != 0 then naE l else bif hasN (naO l) s then bif nmB t then bif hasN (naO l) t && !eqS s t then 14 else 0 else 8 else 6
def rsR (l : Row) (s t : ByteArray) : Row := winOf (fldN (nx8b s t l) l.n 0 (Row.zeros l.n)) 0 l.n
def rqR (l : Row) (s t : ByteArray) : Row := winOf (fldN (nx9a s t) (twR l).n 0 (twR l)) 0 (twR l).n
def Frename : List D → Option (Bool × List D)
  | [.slice [.int .u8, .slice [.str], .slice [.int .i64]] l, .v (.string s), .v (.string t)] => some ((decide (l.n > 200) || okL l) && decide (t.size ≤ 1000000), [.slice [.int .u8, .slice [.str], .slice [.int .i64]] (bif reE l s t == 0 then rsR l s t else .nil), .v (i64 (reE l s t))])
  | _ => none
def FRename : List D → Option (Bool × List D)
  | [.slice [.int .u8, .slice [.str], .slice [.int .i64]] l, .v (.string s), .v (.string t)] => some ((decide (l.n > 200) || okL l) && decide (t.size ≤ 1000000), [.slice [.int .u8, .slice [.str], .slice [.int .i64]] (bif reE l s t == 0 then rqR l s t else .nil), .v (i64 (reE l s t))])
  | _ => none
theorem fld8 (o : Row) (s t : ByteArray) : ∀ (m j : Nat) (a b : Bool), fldN (nx8 o s t) m j (a, b) = (a || anyF (eqN o s) m j, b || (anyF (eqN o t) m j && !eqS s t))
  | 0, j, a, b => by unfold fldN anyF; rw [Bool.or_false, Bool.false_and, Bool.or_false]
  | m + 1, j, a, b => by
    unfold fldN anyF
    rw [show nx8 o s t j (a, b) = (a || eqN o s j, b || (eqN o t j && !eqS s t)) from rfl, fld8 o s t m (j + 1)]
    cases a <;> cases b <;> cases eqN o s j <;> cases eqN o t j <;> cases eqS s t <;> simp
theorem kn_n (l : Row) : (knO l).n ≤ l.n := by
  unfold knO
  cases h : (knR l).1
  · have := runS_inv (Inv := fun j (o : Row) => o.n ≤ j) (stop := stK l) (nx := nxK l) (len := l.n) (fun j a hj h _ => by
      unfold nxK
      cases newB (l.I j 0)
      · exact Nat.le_succ_of_le h
      · rw [cond_true, pn_n]; omega) (m := l.n) (j := 0) (a := .nil) (by omega) (Nat.le_refl _)
    have h2 := this.2.2 h
    have h1 := this.1
    rw [h2] at h1
    exact h1
  · exact Nat.zero_le _
theorem na_le {l : Row} (h : (naE l != 0) = false) : l.n ≤ 200 ∧ naO l = knO l ∧ naE l = knE l := by
  unfold naE naO at *
  by_cases hl : l.n > 200
  · rw [decide_eq_true hl] at h; cases h
  · rw [decide_eq_false hl] at h ⊢
    exact ⟨by omega, rfl, rfl⟩
theorem nq_same {l : Row} (h : (naE l != 0) = false) : nqO l = wiR (naO l) := by unfold nqO; rw [h]; rfl
theorem fd_has (k : Row) (x : ByteArray) : decide (fdI k x < 0) = !hasN k x := by
  unfold fdI hasN
  cases anyF (eqN k x) k.n 0
  · rfl
  · exact decide_eq_false (by simp)
theorem den_rename : Den Try.prog 8 Frename := evF_den C8x_ok fun ds rs h => by
  unfold Frename at h
  split at h
  · rename_i l s t
    simp only [Option.some.injEq, Prod.mk.injEq, Bool.and_eq_true] at h
    obtain ⟨⟨h0, h1⟩, rfl⟩ := h
    refine (t8' l s t).trans ?_
    rw [show (decide (l.n > 200) || okL l) = true from h0, fld8, h1]
    unfold reE
    cases hE : (naE l != 0)
    · obtain ⟨h2, h3, h4⟩ := na_le hE
      have h5 : okL l = true := by
        rw [decide_eq_false (show ¬ l.n > 200 by omega)] at h0
        exact h0
      have h6 : (naO l).n ≤ 1000000 := by have := kn_n l; rw [h3]; omega
      rw [z3_iff.2 ⟨rfl, rfl, h6⟩, show c8b l.n l.n (l.n : Int) 0 (Row.zeros l.n) l = true from c8b_iff.2 ⟨⟨rfl, rfl, rfl⟩, ⟨rfl, rfl, by omega⟩, h5⟩, decide_eq_true (show (0 : Int) ≤ (l.n : Int) by omega), decide_eq_true (show (l.n : Int) ≤ (l.n : Int) by omega), decide_eq_true (show (l.n : Int) ≤ 100000000000 by omega)]
      show br true (br false _ (br true (br (!(hasN (naO l) s)) _ (br true (br (!nmB t) _ (br (hasN (naO l) t && !eqS s t) _ _)) _)) _)) _ = _
      cases hasN (naO l) s
      · rfl
      · cases nmB t
        · rfl
        · cases (hasN (naO l) t && !eqS s t) <;> rfl
    · show br true (br true _ _) _ = some [D.slice _ (bif naE l == 0 then _ else _), _]
      rw [show (naE l == 0) = false by rw [bne, Bool.not_eq_true'] at hE; exact hE]
      rfl
  · cases h
theorem tw_big {l : Row} (h : okL l = true) : bgL (twR l) = true := by
  obtain ⟨h1, h2⟩ := twR_same l
  obtain ⟨h3, h4⟩ := bgL_iff.1 (ok_big h)
  refine bgL_iff.2 ⟨by rw [h1]; exact h3, fun i hi => ?_⟩
  obtain ⟨_, ⟨e1, _⟩, e2, _⟩ := h2 i hi
  rw [e1, e2]
  exact h4 i (h1 ▸ hi)
theorem den_Rename : Den Try.prog 9 FRename := evF_den C9_ok fun ds rs h => by
  unfold FRename at h
  split at h
  · rename_i l s t
    simp only [Option.some.injEq, Prod.mk.injEq, Bool.and_eq_true] at h
    obtain ⟨⟨h0, h1⟩, rfl⟩ := h
    refine (t9' l s t).trans ?_
    rw [show (decide (l.n > 200) || okL l) = true from h0, h1]
    unfold reE
    cases hE : (naE l != 0)
    · obtain ⟨h2, h3, h4⟩ := na_le hE
      have h5 : okL l = true := by
        rw [decide_eq_false (show ¬ l.n > 200 by omega)] at h0
        exact h0
      have h6 : (naO l).n ≤ 1000000 := by have := kn_n l; rw [h3]; omega
      rw [nq_same hE, decide_eq_true (show (wiR (naO l)).n ≤ 1000000 from h6), h5, c9a_iff.2 ⟨⟨rfl, (bgL_iff.1 (tw_big h5)).1⟩, rfl, tw_big h5⟩]
      rw [show decide (fdI (wiR (naO l)) s < 0) = !hasN (naO l) s from fd_has _ _, show decide (fdI (wiR (naO l)) t ≥ 0) = hasN (naO l) t from (by
        have := fd_has (naO l) t
        show decide (fdI (naO l) t ≥ 0) = _
        cases hh : hasN (naO l) t <;> rw [hh] at this
        · have := of_decide_eq_true this; exact decide_eq_false (by omega)
        · have := of_decide_eq_false this; exact decide_eq_true (by omega))]
      cases hasN (naO l) s
      · rfl
      · cases nmB t
        · rfl
        · cases eqS s t <;> cases hasN (naO l) t <;> rfl
    · show br true (br true _ _) _ = some [D.slice _ (bif naE l == 0 then _ else _), _]
      rw [show (naE l == 0) = false by rw [bne, Bool.not_eq_true'] at hE; exact hE]
      rfl
  · cases h
/-- A line of r is that of l, renamed. -/
def rnE (s t : ByteArray) (l r : Row) (i : Nat) : Prop := r.I i 0 = l.I i 0 ∧ ((r.R i 1).n = (l.R i 1).n ∧ ∀ x, x < (l.R i 1).n → (r.R i 1).S x 0 = subS s t ((l.R i 1).S x 0)) ∧ ((r.R i 2).n = (l.R i 2).n ∧ ∀ x, x < (l.R i 2).n → (r.R i 2).I x 0 = (l.R i 2).I x 0)
def rnL (s t : ByteArray) (l r : Row) : Prop := r.n = l.n ∧ ∀ i, i < l.n → rnE s t l r i
theorem rs_rn (l : Row) (s t : ByteArray) : rnL s t l (rsR l s t) := by
  have h := fold_inv (Inv := fun k (r : Row) => r.n = l.n ∧ ∀ i, i < k → rnE s t l r i) (nx := nx8b s t l) (len := l.n) (fun k r hk h => by
    obtain ⟨h1, h2, h3, h4, h5⟩ := nx8b_sp s t l k r
    refine ⟨h1.trans h.1, fun i hi => ?_⟩
    by_cases e : i = k
    · subst e
      refine ⟨?_, ⟨h4, h5⟩, ?_⟩
      · rw [h2]
        show ((r.setI i 0 (l.I i 0)).I i 0) = _
        rw [sI_at, if_pos ⟨rfl, rfl⟩]
      · have e2 : (nx8b s t l i r).R i 2 = cpR (l.R i 2) := by rw [h3 i 2 (by omega)]; unfold rn0; rw [sR_1]
        rw [e2]
        exact ⟨cpR_n _, fun _ _ => rfl⟩
    · have e1 : (nx8b s t l k r).I i 0 = r.I i 0 := by
        rw [h2]
        show ((r.setI k 0 (l.I k 0)).I i 0) = _
        rw [sI_at, if_neg (by omega)]
      have e2 : ∀ j, (nx8b s t l k r).R i j = r.R i j := fun j => by
        rw [h3 i j (by omega)]
        unfold rn0
        rw [sR_no _ _ _ _ (by omega), sR_no _ _ _ _ (by omega)]
        rfl
      unfold rnE
      rw [e1, e2, e2]
      exact h.2 i (by omega)) (m := l.n) (j := 0) (a := Row.zeros l.n) (by omega) ⟨rfl, fun i hi => by omega⟩
  exact ⟨rfl, h.2⟩
theorem rq_rn (l : Row) (s t : ByteArray) : rnL s t l (rqR l s t) := by
  obtain ⟨w1, w2⟩ := twR_same l
  have h := fold_inv (Inv := fun k (r : Row) => r.n = l.n ∧ (∀ i, i < l.n → i < k → rnE s t l r i) ∧ ∀ i, i < l.n → k ≤ i → lnE r l i i) (nx := nx9a s t) (len := (twR l).n) (fun k r hk h => by
    obtain ⟨h1, h2, h3, h4, h5⟩ := nx9a_sp s t k r
    refine ⟨h1.trans h.1, fun i hl hi => ?_, fun i hl hi => ?_⟩
    · by_cases e : i = k
      · subst e
        obtain ⟨g1, ⟨g2, g3⟩, g4, g5⟩ := h.2.2 i hl (Nat.le_refl _)
        refine ⟨(h2 i).trans g1, ⟨h4.trans g2, fun x hx => ?_⟩, ?_⟩
        · rw [h5 x (by omega), g3 x (by omega)]
        · rw [h3 i 2 (by omega)]
          exact ⟨g4, fun x hx => g5 x (by omega)⟩
      · unfold rnE
        rw [h2, h3 i 1 (by omega), h3 i 2 (by omega)]
        exact h.2.1 i hl (by omega)
    · unfold lnE
      rw [h2, h3 i 1 (by omega), h3 i 2 (by omega)]
      exact h.2.2 i hl (by omega)) (m := (twR l).n) (j := 0) (a := twR l) (by omega) ⟨w1, fun i _ hi => by omega, fun i hi _ => w2 i (by omega)⟩
  exact ⟨w1, fun i hi => h.2.1 i hi (by omega)⟩
theorem rn_same {s t : ByteArray} {l r r' : Row} (h : rnL s t l r) (g : rnL s t l r') : saL r r' := by
  refine ⟨h.1.trans g.1.symm, fun i hi => ?_⟩
  obtain ⟨a1, ⟨a2, a3⟩, a4, a5⟩ := h.2 i (h.1 ▸ hi)
  obtain ⟨b1, ⟨b2, b3⟩, b4, b5⟩ := g.2 i (h.1 ▸ hi)
  exact ⟨a1.trans b1.symm, ⟨a2.trans b2.symm, fun x hx => (a3 x (a2 ▸ hx)).trans (b3 x (a2 ▸ hx)).symm⟩, a4.trans b4.symm, fun x hx => (a5 x (a4 ▸ hx)).trans (b5 x (a4 ▸ hx)).symm⟩
end Go.Proofs.Ytopdfmhlgkbaaaa

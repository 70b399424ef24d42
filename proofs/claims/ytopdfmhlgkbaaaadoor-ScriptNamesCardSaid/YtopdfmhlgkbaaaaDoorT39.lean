/- The reference's reading of a line: its loops. No conditions. -/
import Derived.Test.YtopdfmhlgkbaaaaDoorMD
namespace Go.Proofs.YtopdfmhlgkbaaaaDoor
open Go.Ev Go.RowKit Go.Lib Go.Dec
set_option linter.all false
def nyA (s0 : ByteArray) (i : Nat) (w : Int) : Int := bif ((wordS ((i : Int) + 1)).toList == s0.toList) then (i : Int) + 1 else w
/-- The pieces that are passed over. -/
def forJ (w : Int) (r : Row) (j : Nat) : Bool := w == 4 && ((j : Int) == 2 && ((r.S j 0).toList == sFor.toList))
def nyB (w : Int) (r : Row) (i : Nat) (a : Row × Row) : Row × Row := bif forJ w r (1 + i) then a else bif nuB (r.S (1 + i) 0) then (a.1, psI a.2 (nuN (r.S (1 + i) 0))) else (psC a.1 (r.S (1 + i) 0), a.2)
def p33a : PSt := { τ := [.v (.str)] ++ pu 1 ++ [.v (.c (.pointer (some ⟨0, 0, some 0⟩)))] ++ pu 1 ++ [.v (.sl 1), .v (.c (.pointer (some ⟨2, 0, some 0⟩))), .v (.int .u8)] ++ pu 70, saved := [[]], mem := [.box [.v (.int .u8), .v (.c (.slice none (0) (0))), .v (.c (.slice none (0) (0)))], .row [.str] true, .box [.v (.int .u8), .v (.c (.slice none (0) (0))), .v (.c (.slice none (0) (0)))]] }
def p33b : PSt := { τ := [.v (.str)] ++ pu 1 ++ [.v (.c (.pointer (some ⟨0, 0, some 0⟩)))] ++ pu 1 ++ [.v (.sl 1), .v (.c (.pointer (some ⟨2, 0, some 0⟩)))] ++ pu 1 ++ [.v (.int .i64)] ++ pu 69, saved := [[]], mem := [.box [.v (.int .u8), .v (.c (.slice none (0) (0))), .v (.c (.slice none (0) (0)))], .row [.str] true, .box [.v (.int .u8), .v (.sl 3), .v (.sl 4)], .row [.str] true, .row [.int .i64] true] }
structure A33 where
  s : ByteArray
  n : Nat
  i : Int
  w0 : Int
  r : Row
  w : Int
def d33a (its : List It) : Option A33 := match its with | [.s s, .n n, .i i, .i w0, .r r, .i w] => some ⟨s, n, i, w0, r, w⟩ | _ => none
def c33a (x : A33) : Bool := decide (x.i = 1 ∧ 1 ≤ x.n)
theorem c33a_iff {x : A33} : c33a x = true ↔ x.i = 1 ∧ 1 ≤ x.n := by unfold c33a; rw [decide_eq_true_eq]
def l33a : FoldL A33 Int where
  f := 33
  id := 4
  lv := [0, 2, 4, 5, 6]
  lx := [0, 2, 4, 5]
  p := p33a
  dat := d33a
  S := fun x i w => [.s x.s, .n x.n, .i ((i : Int) + 1), .i x.w0, .r x.r, .i w]
  len := fun _ => 10
  cnd := c33a
  ini := fun x => x.w
  nx := fun x => nyA (x.r.S 0 0)
  Ke := fun x w K => K (.exit 0) ⟨[.string x.s] ++ us 1 ++ [.pointer (some ⟨0, 0, some 0⟩)] ++ us 1 ++ [.slice (some ⟨1, 0, some 0⟩) (x.n) (0), .pointer (some ⟨2, 0, some 0⟩)] ++ us 71, [[]], [some (.box [.int .u8 (x.w0), .slice none (0) (0), .slice none (0) (0)]), some (.row [.str] true x.r), some (.box [.int .u8 w, .slice none 0 0, .slice none 0 0])]⟩
structure B33 where
  s : ByteArray
  n : Nat
  j : Int
  w0 : Int
  r : Row
  w : Int
  a : Nat
  b : Nat
  nm : Row
  nu : Row
def d33b (its : List It) : Option B33 := match its with | [.s s, .n n, .i j, .i w0, .r r, .i w, .n a, .n b, .r nm, .r nu] => some ⟨s, n, j, w0, r, w, a, b, nm, nu⟩ | _ => none
def c33b (x : B33) : Bool := decide ((x.a = x.nm.n ∧ x.b = x.nu.n ∧ x.nm.n ≤ 1000000 ∧ x.nu.n ≤ 1000000) ∧ x.j = 1 ∧ 1 ≤ x.n ∧ x.n ≤ 1000001)
theorem c33b_iff {x : B33} : c33b x = true ↔ (x.a = x.nm.n ∧ x.b = x.nu.n ∧ x.nm.n ≤ 1000000 ∧ x.nu.n ≤ 1000000) ∧ x.j = 1 ∧ 1 ≤ x.n ∧ x.n ≤ 1000001 := by unfold c33b; rw [decide_eq_true_eq]
def l33b : FoldL B33 (Row × Row) where
  f := 33
  id := 9
  lv := [0, 2, 4, 5, 7, 5 + 10000 + 640000 * 10, 5 + 20000 + 640000 * 4]
  lx := [0, 2, 5]
  p := p33b
  dat := d33b
  S := fun x i a => [.s x.s, .n x.n, .i ((1 + i : Nat) : Int), .i x.w0, .r x.r, .i x.w, .n a.1.n, .n a.2.n, .r a.1, .r a.2]
  len := fun x => x.n - 1
  cnd := c33b
  ini := fun x => (x.nm, x.nu)
  nx := fun x => nyB x.w x.r
  Ke := fun x a K => K (.exit 2) ⟨[.string x.s] ++ us 1 ++ [.pointer (some ⟨0, 0, some 0⟩)] ++ us 2 ++ [.pointer (some ⟨1, 0, some 0⟩)] ++ us 71, [[]], [some (.box [.int .u8 (x.w0), .slice none (0) (0), .slice none (0) (0)]), some (.box [.int .u8 x.w, .slice (some ⟨2, 0, some 0⟩) (a.1.n) (0), .slice (some ⟨3, 0, some 0⟩) (a.2.n) (0)]), some (.row [.str] true a.1), some (.row [.int .i64] true a.2)]⟩
noncomputable def C33 : Cx := mkCx Tryd.prog fns [(41, Fword), (47, Fnum), (32, FcutR), (48, Fvalid), (29, Fwrite)] [l33a.C, l33b.C]
theorem r33a (R : St → Option (List D)) (K : X → St → Option (List D)) (q n : Nat) (s : ByteArray) (i w0 w : Int) (r : Row) : bodyOf C33 33 4 q (Go.Ev.bst p33a [.s s, .n n, .i i, .i w0, .r r, .i w]) (rnd [0, 2, 4, 5, 6] (some [0, 2, 4, 5]) R K) =
    br (decide (i ≤ 10)) (br (decide (0 ≤ 0) && decide (0 < (↑n : Int))) (br ((wordS i).toList == (r.S 0 0).toList) (R ⟨[.string (s)] ++ us 1 ++ [.pointer (some ⟨0, 0, some 0⟩)] ++ us 1 ++ [.slice (some ⟨1, 0, some 0⟩) (n) (0), .pointer (some ⟨2, 0, some 0⟩), .int .u8 (IntKind.u8.wrap (i + 1))] ++ us 70, [[]], [some (.box [.int .u8 (w0), .slice none (0) (0), .slice none (0) (0)]), some (.row [.str] true (r)), some (.box [.int .u8 (i), .slice none (0) (0), .slice none (0) (0)])]⟩) (R ⟨[.string (s)] ++ us 1 ++ [.pointer (some ⟨0, 0, some 0⟩)] ++ us 1 ++ [.slice (some ⟨1, 0, some 0⟩) (n) (0), .pointer (some ⟨2, 0, some 0⟩), .int .u8 (IntKind.u8.wrap (i + 1))] ++ us 70, [[]], [some (.box [.int .u8 (w0), .slice none (0) (0), .slice none (0) (0)]), some (.row [.str] true (r)), some (.box [.int .u8 (w), .slice none (0) (0), .slice none (0) (0)])]⟩)) (none)) (K (.exit 0) ⟨[.string (s)] ++ us 1 ++ [.pointer (some ⟨0, 0, some 0⟩)] ++ us 1 ++ [.slice (some ⟨1, 0, some 0⟩) (n) (0), .pointer (some ⟨2, 0, some 0⟩)] ++ us 71, [[]], [some (.box [.int .u8 (w0), .slice none (0) (0), .slice none (0) (0)]), some (.row [.str] true (r)), some (.box [.int .u8 (w), .slice none (0) (0), .slice none (0) (0)])]⟩) := by kernel_rfl
theorem r33b (R : St → Option (List D)) (K : X → St → Option (List D)) (q n a b : Nat) (s : ByteArray) (j w w0 : Int) (r nm nu : Row) : bodyOf C33 33 9 q (Go.Ev.bst p33b [.s s, .n n, .i j, .i w0, .r r, .i w, .n a, .n b, .r nm, .r nu]) (rnd [0, 2, 4, 5, 7, 5 + 10000 + 640000 * 10, 5 + 20000 + 640000 * 4] (some [0, 2, 5]) R K) =
    br (decide (j < (↑n : Int))) (br (w == 4) (br (j == 2) (br (decide (0 ≤ j) && decide (j < (↑n : Int))) (br ((r.S (0 + j.toNat) 0).toList == { data := { toList := [102, 111, 114] : Array UInt8 } : ByteArray }.toList) (R ⟨[.string (s)] ++ us 1 ++ [.pointer (some ⟨0, 0, some 0⟩)] ++ us 1 ++ [.slice (some ⟨1, 0, some 0⟩) (n) (0), .pointer (some ⟨2, 0, some 0⟩)] ++ us 1 ++ [i64 (IntKind.i64.wrap (j + 1))] ++ us 69, [[]], [some (.box [.int .u8 (w0), .slice none (0) (0), .slice none (0) (0)]), some (.row [.str] true (r)), some (.box [.int .u8 (w), .slice (some ⟨3, 0, some 0⟩) (a) (0), .slice (some ⟨4, 0, some 0⟩) (b) (0)]), some (.row [.str] true (nm)), some (.row [.int .i64] true (nu))]⟩) (br (decide (0 ≤ j) && decide (j < (↑n : Int))) (br (nuB (r.S (0 + j.toNat) 0)) (br (decide (b + (winOf ((Row.zeros 1).setI 0 0 (nuN (r.S (0 + j.toNat) 0))) 0 1).n ≤ 10000000000)) (R ⟨[.string (s)] ++ us 1 ++ [.pointer (some ⟨0, 0, some 0⟩)] ++ us 1 ++ [.slice (some ⟨1, 0, some 0⟩) (n) (0), .pointer (some ⟨2, 0, some 0⟩)] ++ us 1 ++ [i64 (IntKind.i64.wrap (j + 1))] ++ us 69, [[]], [some (.box [.int .u8 (w0), .slice none (0) (0), .slice none (0) (0)]), some (.row [.str] true (r)), some (.box [.int .u8 (w), .slice (some ⟨3, 0, some 0⟩) (a) (0), .slice (some ⟨4, 0, some 0⟩) (b + 1) (0)]), some (.row [.str] true (nm)), some (.row [.int .i64] true ((winOf nu 0 b).app (winOf ((Row.zeros 1).setI 0 0 (nuN (r.S (0 + j.toNat) 0))) 0 1)))]⟩) (none)) (br (decide (0 ≤ j) && decide (j < (↑n : Int))) (br (decide (a + (winOf ((Row.zeros 1).setS 0 0 (r.S (0 + j.toNat) 0)) 0 1).n ≤ 10000000000)) (R ⟨[.string (s)] ++ us 1 ++ [.pointer (some ⟨0, 0, some 0⟩)] ++ us 1 ++ [.slice (some ⟨1, 0, some 0⟩) (n) (0), .pointer (some ⟨2, 0, some 0⟩)] ++ us 1 ++ [i64 (IntKind.i64.wrap (j + 1))] ++ us 69, [[]], [some (.box [.int .u8 (w0), .slice none (0) (0), .slice none (0) (0)]), some (.row [.str] true (r)), some (.box [.int .u8 (w), .slice (some ⟨3, 0, some 0⟩) (a + 1) (0), .slice (some ⟨4, 0, some 0⟩) (b) (0)]), some (.row [.str] true ((winOf nm 0 a).app (winOf ((Row.zeros 1).setS 0 0 (r.S (0 + j.toNat) 0)) 0 1))), some (.row [.int .i64] true (nu))]⟩) (none)) (none))) (none))) (none)) (br (decide (0 ≤ j) && decide (j < (↑n : Int))) (br (nuB (r.S (0 + j.toNat) 0)) (br (decide (b + (winOf ((Row.zeros 1).setI 0 0 (nuN (r.S (0 + j.toNat) 0))) 0 1).n ≤ 10000000000)) (R ⟨[.string (s)] ++ us 1 ++ [.pointer (some ⟨0, 0, some 0⟩)] ++ us 1 ++ [.slice (some ⟨1, 0, some 0⟩) (n) (0), .pointer (some ⟨2, 0, some 0⟩)] ++ us 1 ++ [i64 (IntKind.i64.wrap (j + 1))] ++ us 69, [[]], [some (.box [.int .u8 (w0), .slice none (0) (0), .slice none (0) (0)]), some (.row [.str] true (r)), some (.box [.int .u8 (w), .slice (some ⟨3, 0, some 0⟩) (a) (0), .slice (some ⟨4, 0, some 0⟩) (b + 1) (0)]), some (.row [.str] true (nm)), some (.row [.int .i64] true ((winOf nu 0 b).app (winOf ((Row.zeros 1).setI 0 0 (nuN (r.S (0 + j.toNat) 0))) 0 1)))]⟩) (none)) (br (decide (0 ≤ j) && decide (j < (↑n : Int))) (br (decide (a + (winOf ((Row.zeros 1).setS 0 0 (r.S (0 + j.toNat) 0)) 0 1).n ≤ 10000000000)) (R ⟨[.string (s)] ++ us 1 ++ [.pointer (some ⟨0, 0, some 0⟩)] ++ us 1 ++ [.slice (some ⟨1, 0, some 0⟩) (n) (0), .pointer (some ⟨2, 0, some 0⟩)] ++ us 1 ++ [i64 (IntKind.i64.wrap (j + 1))] ++ us 69, [[]], [some (.box [.int .u8 (w0), .slice none (0) (0), .slice none (0) (0)]), some (.row [.str] true (r)), some (.box [.int .u8 (w), .slice (some ⟨3, 0, some 0⟩) (a + 1) (0), .slice (some ⟨4, 0, some 0⟩) (b) (0)]), some (.row [.str] true ((winOf nm 0 a).app (winOf ((Row.zeros 1).setS 0 0 (r.S (0 + j.toNat) 0)) 0 1))), some (.row [.int .i64] true (nu))]⟩) (none)) (none))) (none))) (br (decide (0 ≤ j) && decide (j < (↑n : Int))) (br (nuB (r.S (0 + j.toNat) 0)) (br (decide (b + (winOf ((Row.zeros 1).setI 0 0 (nuN (r.S (0 + j.toNat) 0))) 0 1).n ≤ 10000000000)) (R ⟨[.string (s)] ++ us 1 ++ [.pointer (some ⟨0, 0, some 0⟩)] ++ us 1 ++ [.slice (some ⟨1, 0, some 0⟩) (n) (0), .pointer (some ⟨2, 0, some 0⟩)] ++ us 1 ++ [i64 (IntKind.i64.wrap (j + 1))] ++ us 69, [[]], [some (.box [.int .u8 (w0), .slice none (0) (0), .slice none (0) (0)]), some (.row [.str] true (r)), some (.box [.int .u8 (w), .slice (some ⟨3, 0, some 0⟩) (a) (0), .slice (some ⟨4, 0, some 0⟩) (b + 1) (0)]), some (.row [.str] true (nm)), some (.row [.int .i64] true ((winOf nu 0 b).app (winOf ((Row.zeros 1).setI 0 0 (nuN (r.S (0 + j.toNat) 0))) 0 1)))]⟩) (none)) (br (decide (0 ≤ j) && decide (j < (↑n : Int))) (br (decide (a + (winOf ((Row.zeros 1).setS 0 0 (r.S (0 + j.toNat) 0)) 0 1).n ≤ 10000000000)) (R ⟨[.string (s)] ++ us 1 ++ [.pointer (some ⟨0, 0, some 0⟩)] ++ us 1 ++ [.slice (some ⟨1, 0, some 0⟩) (n) (0), .pointer (some ⟨2, 0, some 0⟩)] ++ us 1 ++ [i64 (IntKind.i64.wrap (j + 1))] ++ us 69, [[]], [some (.box [.int .u8 (w0), .slice none (0) (0), .slice none (0) (0)]), some (.row [.str] true (r)), some (.box [.int .u8 (w), .slice (some ⟨3, 0, some 0⟩) (a + 1) (0), .slice (some ⟨4, 0, some 0⟩) (b) (0)]), some (.row [.str] true ((winOf nm 0 a).app (winOf ((Row.zeros 1).setS 0 0 (r.S (0 + j.toNat) 0)) 0 1))), some (.row [.int .i64] true (nu))]⟩) (none)) (none))) (none))) (K (.exit 2) ⟨[.string (s)] ++ us 1 ++ [.pointer (some ⟨0, 0, some 0⟩)] ++ us 2 ++ [.pointer (some ⟨1, 0, some 0⟩)] ++ us 71, [[]], [some (.box [.int .u8 (w0), .slice none (0) (0), .slice none (0) (0)]), some (.box [.int .u8 (w), .slice (some ⟨2, 0, some 0⟩) (a) (0), .slice (some ⟨3, 0, some 0⟩) (b) (0)]), some (.row [.str] true (nm)), some (.row [.int .i64] true (nu))]⟩) := by kernel_rfl
def tEnd3 (s : ByteArray) (w : Int) (nm nu : Row) : Option (List D) :=
  br (smN nm nm.n && decide (nu.n ≤ 1000000)) (br (vaB w nm nu) (br (decide (1 ≤ w ∧ w ≤ 10) && wsB nm nu) (some (rdV w nm nu ++ [.v (.bool ((txt (wrL w nm nu)).toList == s.toList))])) none) (some (rdV w nm nu ++ [.v (.bool false)]))) none
def rqR (s : ByteArray) : Row := cutR s 32
def rqW (s : ByteArray) : Int := fldN (nyA ((rqR s).S 0 0)) 10 0 0
def rqA (s : ByteArray) : Row × Row := fldN (nyB (rqW s) (rqR s)) ((rqR s).n - 1) 0 (.nil, .nil)
def rqN (s : ByteArray) : Row := winOf (rqA s).1 0 (rqA s).1.n
def rqU (s : ByteArray) : Row := winOf (rqA s).2 0 (rqA s).2.n
theorem u33 (s : ByteArray) : evF C33 6 33 [.v (.string s)] =
    br (decide (s.size ≤ 1000000)) (br (c33a ⟨s, (rqR s).n, 1, 0, rqR s, 0⟩) (br (c33b ⟨s, (rqR s).n, 1, 0, rqR s, rqW s, 0, 0, .nil, .nil⟩) (tEnd3 s (rqW s) (rqN s) (rqU s)) none) none) none := by kernel_rfl
theorem u8w3 {i : Nat} (h : i < 10) : IntKind.u8.wrap ((i : Int) + 1 + 1) = ((i + 1 : Nat) : Int) + 1 := (wrap_id (by simp [Lit.wf, IntKind.min, IntKind.max, IntKind.signed, IntKind.bits]; omega)).trans (by omega)
set_option maxRecDepth 100000 in
theorem ok33a : LoopOk C33 l33a.C := l33a.ok (fun x i w => True) (by kernel_rfl)
  (fun its x h hc => by
    replace h : d33a its = some x := h
    unfold d33a at h
    split at h
    · cases h
      obtain ⟨h1, h2⟩ := c33a_iff.1 hc
      dsimp only at h1
      subst h1
      rfl
    · cases h)
  (fun x hc => by show 10 < 18446744073709551616; omega)
  (fun x hc => trivial)
  (fun x i o hc hi hI => trivial)
  (fun q ⟨s, n, i0, w0, r, w1⟩ i w hc hi hI R K => by
    obtain ⟨h1, h2⟩ := c33a_iff.1 hc
    dsimp only at h1 h2
    replace hi : i < 10 := hi
    refine (r33a R K q n s ((i : Int) + 1) w0 w r).trans ?_
    rw [decide_eq_true (show (i : Int) + 1 ≤ 10 by omega), u8w3 hi, decide_eq_true (show (0 : Int) < (n : Int) by omega)]
    show br true (br true (br ((wordS ((i : Int) + 1)).toList == (r.S 0 0).toList) _ _) none) _ = R (Go.Ev.bst p33a (l33a.S ⟨s, n, i0, w0, r, w1⟩ (i + 1) (bif ((wordS ((i : Int) + 1)).toList == (r.S 0 0).toList) then (i : Int) + 1 else w)))
    cases ((wordS ((i : Int) + 1)).toList == (r.S 0 0).toList) <;> rfl)
  (fun q ⟨s, n, i0, w0, r, w1⟩ w hc hI R K => by
    refine (r33a R K q n s (((10 : Nat) : Int) + 1) w0 w r).trans ?_
    rfl)
set_option maxRecDepth 100000 in
theorem ok33b : LoopOk C33 l33b.C := l33b.ok (fun x i a => a.1.n ≤ 1000000 + i ∧ a.2.n ≤ 1000000 + i) (by kernel_rfl)
  (fun its x h hc => by
    replace h : d33b its = some x := h
    unfold d33b at h
    split at h
    · cases h
      obtain ⟨⟨h1, h2, h3, h4⟩, h5, h6, h7⟩ := c33b_iff.1 hc
      dsimp only at h1 h2 h5
      subst h1 h2 h5
      rfl
    · cases h)
  (fun x hc => by have := (c33b_iff.1 hc).2.2.2; show x.n - 1 < 18446744073709551616; omega)
  (fun x hc => by obtain ⟨_, _, h3, h4⟩ := (c33b_iff.1 hc).1; exact ⟨h3, h4⟩)
  (fun x i a hc hi hI => by
    obtain ⟨h1, h2⟩ := hI
    show (nyB x.w x.r i a).1.n ≤ 1000000 + (i + 1) ∧ (nyB x.w x.r i a).2.n ≤ 1000000 + (i + 1)
    unfold nyB
    cases forJ x.w x.r (1 + i)
    · cases nuB (x.r.S (1 + i) 0)
      · exact ⟨by show a.1.n + 1 ≤ _; omega, by show a.2.n ≤ _; omega⟩
      · exact ⟨by show a.1.n ≤ _; omega, by show a.2.n + 1 ≤ _; omega⟩
    · exact ⟨by show a.1.n ≤ _; omega, by show a.2.n ≤ _; omega⟩)
  (fun q ⟨s, n, j0, w0, r, w, a0, b0, nm, nu⟩ i a hc hi hI R K => by
    obtain ⟨⟨h1, h2, h3, h4⟩, h5, h6, h7⟩ := c33b_iff.1 hc
    dsimp only at h1 h2 h3 h4 h5 h6 h7
    obtain ⟨i1, i2⟩ := hI
    replace hi : i < n - 1 := hi
    refine (r33b R K q n a.1.n a.2.n s ((1 + i : Nat) : Int) w w0 r a.1 a.2).trans ?_
    rw [Int.toNat_natCast, Nat.zero_add (1 + i), gd (1 + i) n (by omega), ltd (1 + i) n (by omega), wsn (j := 1 + i) (by omega), decide_eq_true (show a.2.n + (winOf ((Row.zeros 1).setI 0 0 (nuN (r.S (1 + i) 0))) 0 1).n ≤ 10000000000 from (by show a.2.n + 1 ≤ _; omega)), decide_eq_true (show a.1.n + (winOf ((Row.zeros 1).setS 0 0 (r.S (1 + i) 0)) 0 1).n ≤ 10000000000 from (by show a.1.n + 1 ≤ _; omega))]
    show _ = R (Go.Ev.bst p33b (l33b.S ⟨s, n, j0, w0, r, w, a0, b0, nm, nu⟩ (i + 1) (nyB w r i a)))
    rw [show 1 + i + 1 = 1 + (i + 1) by omega]
    unfold nyB forJ
    cases hw : w == 4
    · cases nuB (r.S (1 + i) 0) <;> rfl
    · cases hj : (((1 + i : Nat) : Int) == 2)
      · cases nuB (r.S (1 + i) 0) <;> rfl
      · cases hf : ((r.S (1 + i) 0).toList == sFor.toList)
        · cases hn : nuB (r.S (1 + i) 0)
          · show br true (br true (br true (br true (br ((r.S (1 + i) 0).toList == sFor.toList) _ _) none) _) _) _ = _
            rw [hf]
            rfl
          · show br true (br true (br true (br true (br ((r.S (1 + i) 0).toList == sFor.toList) _ _) none) _) _) _ = _
            rw [hf]
            rfl
        · show br true (br true (br true (br true (br ((r.S (1 + i) 0).toList == sFor.toList) _ _) none) _) _) _ = _
          rw [hf]
          rfl)
  (fun q ⟨s, n, j0, w0, r, w, a0, b0, nm, nu⟩ a hc hI R K => by
    obtain ⟨⟨h1, h2, h3, h4⟩, h5, h6, h7⟩ := c33b_iff.1 hc
    dsimp only at h1 h2 h3 h4 h5 h6 h7
    refine (r33b R K q n a.1.n a.2.n s ((1 + (n - 1) : Nat) : Int) w w0 r a.1 a.2).trans ?_
    rw [show 1 + (n - 1) = n by omega, ltn n]
    rfl)
theorem C33_ok : CxW C33 Wd := mkCx_okW enter mixed (fun p h => by
  simp only [List.mem_cons, List.not_mem_nil, or_false] at h
  rcases h with rfl | rfl | rfl | rfl | rfl
  · exact den_word.at _
  · exact den_num.at _
  · exact den_cutR.at _
  · exact den_Valid.at _
  · exact den_Written.at _) (fun l h => by
  simp only [List.mem_cons, List.not_mem_nil, or_false] at h
  rcases h with rfl | rfl
  · exact ok33a
  · exact ok33b)
end Go.Proofs.YtopdfmhlgkbaaaaDoor

/- Package ledger: the best grouping: its loops. No conditions. -/
import Derived.Test.YtpblmkephkhlkaaDoorE5
namespace Go.Proofs.YtpblmkephkhlkaaDoor
open Go.Ev
set_option linter.all false
/-- The parties whose balances are not 0, and no groups yet. -/
def rsU (b : Row) (j : Nat) (x : Nat × Row) : Nat × Row := (if b.I j 0 ≠ 0 then x.1 ||| 2 ^ j else x.1, x.2.setI j 0 (-1))
def rsR (b : Row) : Nat → Nat → Nat × Row → Nat × Row
  | 0, _, x => x
  | m + 1, j, x => rsR b m (j + 1) (rsU b j x)
/-- Whether one group comes before another one. -/
def befN (g h : Nat) : Bool := !Nat.beq (((g ^^^ h) &&& (18446744073709551616 - (g ^^^ h))) &&& g) 0
def bstU (m : Row) (rest low g best : Nat) : Nat :=
  if g &&& low = 0 ∨ m.I g 0 < 1 ∨ m.I (rest ^^^ g) 0 ≠ wi (m.I rest 0 - 1) then best else if best = 0 ∨ befN g best = true then g else best
def bst (m : Row) (rest low : Nat) : Nat → Nat → Nat → Nat
  | 0, _, best => best
  | n + 1, g, best => if g = 0 then best else bst m rest low n ((g - 1) &&& rest) (bstU m rest low g best)
/-- A group is written down. -/
def asR (best : Nat) (group : Int) : Nat → Nat → Row → Row
  | 0, _, o => o
  | m + 1, j, o => asR best group m (j + 1) (if best.testBit j = true then o.setI j 0 group else o)
def lowN (s : Nat) : Nat := s &&& (18446744073709551616 - s)
def grS (m : Row) (n : Nat) : Nat → Nat → Nat → Row → Option Row
  | f, rest, group, o => if rest = 0 then some o else match f with
    | 0 => none
    | f + 1 => grS m n f (rest ^^^ bst m rest (lowN rest) (rest + 1) rest 0) (group + 1) (asR (bst m rest (lowN rest) (rest + 1) rest 0) group n 0 o)
def S7 (nb n n' : Nat) (m rest j : Int) (b o : Row) : St := ⟨[sl 0 nb] ++ us 4 ++ [sl 1 n, i64 rest] ++ us 16 ++ [sl 0 n', i64 m, i64 j] ++ us 83, [[]], [Rb false b, Rb true o]⟩
def S7x (nb n : Nat) (rest : Int) (b o : Row) : St := ⟨[sl 0 nb] ++ us 4 ++ [sl 1 n, i64 rest] ++ us 102, [[]], [Rb false b, Rb true o]⟩
def G7 (cd : Nat → Nat → Nat → Int → Bool) : List It → (X → St → Option (List D)) → Option (List D)
  | [.n nb, .n n, .n n', .i m, .r b, .r o], k => br (cd nb n n' m) (k (.exit 0) (S7x nb n (rsR b n 0 (0, o)).1 b (rsR b n 0 (0, o)).2)) none
  | _, _ => none
def l7 (cd : Nat → Nat → Nat → Int → Bool) : LoopC where
  f := 9
  id := 7
  lv := [0, 5, 6, 23, 24, 25]
  lx := [0, 2, 3, 5, 6]
  p := { τ := [.v (.sl 0)] ++ pu 4 ++ [.v (.sl 1), .v (.c (i64 0))] ++ pu 16 ++ [.v (.sl 0), .v (.int .i64), .v (.c (i64 0))] ++ pu 83, saved := [[]], mem := [.row ks1 false, .row ks1 true] }
  G := G7 cd
def S20 (nb no nm : Nat) (rest group low best g : Int) (b o m : Row) : St := ⟨[sl 0 nb] ++ us 4 ++ [sl 1 no, i64 rest] ++ us 2 ++ [sl 2 nm, i64 group, i64 low, i64 best, i64 g] ++ us 95, [[]], [Rb false b, Rb true o, Rb true m]⟩
def S20x (nb no nm : Nat) (rest group best : Int) (b o m : Row) : St := ⟨[sl 0 nb] ++ us 4 ++ [sl 1 no, i64 rest] ++ us 2 ++ [sl 2 nm, i64 group] ++ us 1 ++ [i64 best] ++ us 96, [[]], [Rb false b, Rb true o, Rb true m]⟩
def G20 (cd : Nat → Int → Int → Int → Int → Bool) : List It → (X → St → Option (List D)) → Option (List D)
  | [.n nb, .n no, .i rest, .n nm, .i group, .i low, .i best, .i g, .r b, .r o, .r m], k => br (cd nm rest low best g) (k (.exit 4) (S20x nb no nm rest group (bst m rest.toNat low.toNat (g.toNat + 1) g.toNat 0 : Nat) b o m)) none
  | _, _ => none
def l20 (cd : Nat → Int → Int → Int → Int → Bool) : LoopC where
  f := 9
  id := 20
  lv := [0, 5, 6, 9, 10, 11, 12, 13]
  lx := [0, 2, 3, 5, 6, 9, 10, 12]
  p := { τ := [.v (.sl 0)] ++ pu 4 ++ [.v (.sl 1), .v (.int .i64)] ++ pu 2 ++ [.v (.sl 2), .v (.int .i64), .v (.int .i64), .v (.int .i64), .v (.int .i64)] ++ pu 95, saved := [[]], mem := [.row ks1 false, .row ks1 true, .row ks1 true] }
  G := G20 cd
def S26 (nb no nm : Nat) (rest group best c j : Int) (b o m : Row) : St := ⟨[sl 0 nb] ++ us 4 ++ [sl 1 no, i64 rest] ++ us 2 ++ [sl 2 nm, i64 group] ++ us 1 ++ [i64 best] ++ us 78 ++ [i64 c, i64 j] ++ us 16, [[]], [Rb false b, Rb true o, Rb true m]⟩
def G26 (cd : Nat → Int → Int → Bool) : List It → (X → St → Option (List D)) → Option (List D)
  | [.n nb, .n no, .i rest, .n nm, .i group, .i best, .i c, .r b, .r o, .r m], k => br (cd no best c) (k (.exit 6) (S20x nb no nm rest group best b (asR best.toNat group no 0 o) m)) none
  | _, _ => none
def l26 (cd : Nat → Int → Int → Bool) : LoopC where
  f := 9
  id := 26
  lv := [0, 5, 6, 9, 10, 12, 91, 92]
  lx := [0, 2, 3, 5, 6, 9, 10, 12]
  p := { τ := [.v (.sl 0)] ++ pu 4 ++ [.v (.sl 1), .v (.int .i64)] ++ pu 2 ++ [.v (.sl 2), .v (.int .i64)] ++ pu 1 ++ [.v (.int .i64)] ++ pu 78 ++ [.v (.int .i64), .v (.c (i64 0))] ++ pu 16, saved := [[]], mem := [.row ks1 false, .row ks1 true, .row ks1 true] }
  G := G26 cd
def S15 (nb no nm : Nat) (rest group : Int) (b o m : Row) : St := ⟨[sl 0 nb] ++ us 4 ++ [sl 1 no, i64 rest] ++ us 2 ++ [sl 2 nm, i64 group] ++ us 98, [[]], [Rb false b, Rb true o, Rb true m]⟩
def S15x (no : Nat) (o : Row) : St := ⟨us 5 ++ [sl 0 no] ++ us 103, [[]], [Rb true o]⟩
def G15 (gs : Nat → Nat → Nat → Int → Row → Row → Option Row) : List It → (X → St → Option (List D)) → Option (List D)
  | [.n nb, .n no, .i rest, .n nm, .r _, .r o, .r m], k => match gs nb no nm rest o m with | some o' => k (.exit 2) (S15x no o') | none => none
  | _, _ => none
def l15 (gs : Nat → Nat → Nat → Int → Row → Row → Option Row) : LoopC where
  f := 9
  id := 15
  lv := [0, 5, 6, 9, 10]
  lx := [2, 3, 5]
  p := { τ := [.v (.sl 0)] ++ pu 4 ++ [.v (.sl 1), .v (.int .i64)] ++ pu 2 ++ [.v (.sl 2), .v (.c (i64 0))] ++ pu 98, saved := [[]], mem := [.row ks1 false, .row ks1 true, .row ks1 true] }
  G := G15 gs
noncomputable def C3g (c7 : Nat → Nat → Nat → Int → Bool) (c20 : Nat → Int → Int → Int → Int → Bool) (c26 : Nat → Int → Int → Bool) (gs : Nat → Nat → Nat → Int → Row → Row → Option Row) : Cx :=
  mkCx Tryd.prog fns [(28, Fck), (29, Fmost)] [l7 c7, l20 c20, l26 c26, l15 gs]
section
variable (c7 : Nat → Nat → Nat → Int → Bool) (c20 : Nat → Int → Int → Int → Int → Bool) (c26 : Nat → Int → Int → Bool) (gs : Nat → Nat → Nat → Int → Row → Row → Option Row)
theorem round7 (R : St → Option (List D)) (K : X → St → Option (List D)) (p : Nat) (nb n n' : Nat) (m rest j : Int) (b o : Row) : evCode (C3g c7 c20 c26 gs) 9 true (inl (C3g c7 c20 c26 gs) (p + 4)) (lbody (C3g c7 c20 c26 gs).P 9 7) (S7 nb n n' m rest j b o) (rnd [0, 5, 6, 23, 24, 25] (some [0, 2, 3, 5, 6]) R K) =
    br (decide (j < m)) (br (decide (0 ≤ j) && decide (j < (n' : Int))) (br (decide (0 ≤ j) && decide (j < (n : Int))) (br (b.I (0 + j.toNat) 0 != 0) (br (decide (j < 0)) none (R (S7 nb n n' m (bOr rest (wi (1 * 2 ^ min j.toNat 64))) (wi (j + 1)) b (o.setI (0 + j.toNat) 0 (-1))))) (R (S7 nb n n' m rest (wi (j + 1)) b (o.setI (0 + j.toNat) 0 (-1))))) none) none)
      (K (.exit 0) (S7x nb n rest b o)) := by kernel_rfl
def bef (g h : Int) : Bool := bAnd (bAnd (bXor g h) (wi (0 - bXor g h))) g != 0
theorem round20 (R : St → Option (List D)) (K : X → St → Option (List D)) (p : Nat) (nb no nm : Nat) (rest group low best g : Int) (b o m : Row) : evCode (C3g c7 c20 c26 gs) 9 true (inl (C3g c7 c20 c26 gs) (p + 4)) (lbody (C3g c7 c20 c26 gs).P 9 20) (S20 nb no nm rest group low best g b o m) (rnd [0, 5, 6, 9, 10, 11, 12, 13] (some [0, 2, 3, 5, 6, 9, 10, 12]) R K) =
    br (decide (g > 0)) (br (bAnd g low == 0) (R (S20 nb no nm rest group low best (bAnd (wi (g - 1)) rest) b o m)) (br (decide (0 ≤ g) && decide (g < (nm : Int))) (br (decide (m.I (0 + g.toNat) 0 < 1)) (R (S20 nb no nm rest group low best (bAnd (wi (g - 1)) rest) b o m))
      (br (decide (0 ≤ bXor rest g) && decide (bXor rest g < (nm : Int))) (br (decide (0 ≤ rest) && decide (rest < (nm : Int))) (br (m.I (0 + (bXor rest g).toNat) 0 != wi (m.I (0 + rest.toNat) 0 - 1)) (R (S20 nb no nm rest group low best (bAnd (wi (g - 1)) rest) b o m))
        (br (best == 0) (R (S20 nb no nm rest group low g (bAnd (wi (g - 1)) rest) b o m)) (br (bef g best) (R (S20 nb no nm rest group low g (bAnd (wi (g - 1)) rest) b o m)) (R (S20 nb no nm rest group low best (bAnd (wi (g - 1)) rest) b o m))))) none) none)) none))
      (K (.exit 4) (S20x nb no nm rest group best b o m)) := by kernel_rfl
theorem round26 (R : St → Option (List D)) (K : X → St → Option (List D)) (p : Nat) (nb no nm : Nat) (rest group best c j : Int) (b o m : Row) : evCode (C3g c7 c20 c26 gs) 9 true (inl (C3g c7 c20 c26 gs) (p + 4)) (lbody (C3g c7 c20 c26 gs).P 9 26) (S26 nb no nm rest group best c j b o m) (rnd [0, 5, 6, 9, 10, 12, 91, 92] (some [0, 2, 3, 5, 6, 9, 10, 12]) R K) =
    br (decide (j < c)) (br (decide (j < 0)) none (br (bAnd (bShr best j) 1 == 1) (br (decide (0 ≤ j) && decide (j < (no : Int))) (R (S26 nb no nm rest group best c (wi (j + 1)) b (o.setI (0 + j.toNat) 0 group) m)) none) (R (S26 nb no nm rest group best c (wi (j + 1)) b o m))))
      (K (.exit 6) (S20x nb no nm rest group best b o m)) := by kernel_rfl
set_option maxRecDepth 100000 in
theorem round15 (R : St → Option (List D)) (K : X → St → Option (List D)) (p : Nat) (nb no nm : Nat) (rest group : Int) (b o m : Row) : evCode (C3g c7 c20 c26 gs) 9 true (inl (C3g c7 c20 c26 gs) (p + 4)) (lbody (C3g c7 c20 c26 gs).P 9 15) (S15 nb no nm rest group b o m) (rnd [0, 5, 6, 9, 10] (some [2, 3, 5]) R K) =
    br (rest != 0) (br (c20 nm rest (bAnd rest (wi (0 - rest))) 0 rest)
      (br (c26 no (bst m rest.toNat (bAnd rest (wi (0 - rest))).toNat (rest.toNat + 1) rest.toNat 0 : Nat) nb)
        (R (S15 nb no nm (bXor rest (bst m rest.toNat (bAnd rest (wi (0 - rest))).toNat (rest.toNat + 1) rest.toNat 0 : Nat)) (wi (group + 1)) b (asR (bst m rest.toNat (bAnd rest (wi (0 - rest))).toNat (rest.toNat + 1) rest.toNat 0) group no 0 o) m)) none) none)
      (K (.exit 2) (S15x no o)) := by kernel_rfl
end
end Go.Proofs.YtpblmkephkhlkaaDoor

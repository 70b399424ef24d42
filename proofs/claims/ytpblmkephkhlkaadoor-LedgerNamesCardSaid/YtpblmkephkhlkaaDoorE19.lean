/- Package ledger: Settle: its loops. No conditions. -/
import Derived.Test.YtpblmkephkhlkaaDoorE18
namespace Go.Proofs.YtpblmkephkhlkaaDoor.Se
open Go.Ev
set_option linter.all false
def fnf (a b : Nat) : Value := .func (.func 32) #[] #[.pointer (some ⟨a, 0, some 0⟩), .pointer (some ⟨b, 0, some 0⟩)]
def fw (l g : Row) (nl ng : Nat) (gr sg : Int) : Int := ffF (winOf l 0 nl) (winOf g 0 ng) gr sg nl 0
def mnI (x y : Int) : Int := if y < x then y else x
/-- What is paid at once. -/
def ceI (l : Row) (fr to : Int) : Int := mnI (l.I (0 + fr.toNat) 0) (wi (0 - l.I (0 + to.toNat) 0))
def l1U (l : Row) (fr : Int) (c : Int) : Row := l.setI (0 + fr.toNat) 0 (wi (l.I (0 + fr.toNat) 0 - c))
def l2U (l : Row) (fr to : Int) (c : Int) : Row := (l1U l fr c).setI (0 + to.toNat) 0 (wi ((l1U l fr c).I (0 + to.toNat) 0 + c))
def pyR (fr to c : Int) : Row := winOf ((((Row.zeros 1).setI 0 0 fr).setI 0 1 to).setI 0 2 c) 0 1
def oU (o : Row) (k : Nat) (p : Row) : Row := match k with
  | 0 => Row.nil.app p
  | k + 1 => (winOf o 0 (k + 1)).app p
def S8a (nl ng : Nat) (m j : Int) (l g : Row) : St := ⟨us 6 ++ [.pointer (some ⟨0, 0, some 0⟩), fnf 0 1, .slice none 0 0] ++ us 17 ++ [i64 m, i64 j] ++ us 46, [[]], [some (.box [sl 2 nl]), some (.box [sl 3 ng]), Rb true l, Rb true g]⟩
def S8b (nl ng k : Nat) (m j : Int) (l g o : Row) : St := ⟨us 6 ++ [.pointer (some ⟨0, 0, some 0⟩), fnf 0 1, sl 2 k] ++ us 17 ++ [i64 m, i64 j] ++ us 46, [[]], [some (.box [sl 3 nl]), some (.box [sl 4 ng]), some (.row Lg.ks3 true o), Rb true l, Rb true g]⟩
def S8 (nl ng k : Nat) (m j : Int) (l g o : Row) : St := match k with
  | 0 => S8a nl ng m j l g
  | k + 1 => S8b nl ng (k + 1) m j l g o
def S8x (k : Nat) (o : Row) : St := match k with
  | 0 => ⟨us 8 ++ [.slice none 0 0] ++ us 65, [[]], []⟩
  | k + 1 => ⟨us 8 ++ [sl 0 (k + 1)] ++ us 65, [[]], [some (.row Lg.ks3 true o)]⟩
def S11a (nl ng : Nat) (gr fr m j : Int) (l g : Row) : St := ⟨us 6 ++ [.pointer (some ⟨0, 0, some 0⟩), fnf 0 1, .slice none 0 0, i64 gr, i64 fr] ++ us 15 ++ [i64 m, i64 j] ++ us 46, [[]], [some (.box [sl 2 nl]), some (.box [sl 3 ng]), Rb true l, Rb true g]⟩
def S11b (nl ng k : Nat) (gr fr m j : Int) (l g o : Row) : St := ⟨us 6 ++ [.pointer (some ⟨0, 0, some 0⟩), fnf 0 1, sl 2 k, i64 gr, i64 fr] ++ us 15 ++ [i64 m, i64 j] ++ us 46, [[]], [some (.box [sl 3 nl]), some (.box [sl 4 ng]), some (.row Lg.ks3 true o), Rb true l, Rb true g]⟩
def S11 (nl ng k : Nat) (gr fr m j : Int) (l g o : Row) : St := match k with
  | 0 => S11a nl ng gr fr m j l g
  | k + 1 => S11b nl ng (k + 1) gr fr m j l g o
abbrev T3 := Option (Nat × Row × Row)
/-- What goes on with payments: with none, or with some. -/
def selO (x : T3) (a : Row → Option (List D)) (b : Nat → Row → Row → Option (List D)) : Option (List D) := match x with
  | some (0, l, _) => a l
  | some (k + 1, l, o) => b (k + 1) l o
  | none => none
theorem selO_some {k : Nat} {l o : Row} {a : Row → Option (List D)} {b : Nat → Row → Row → Option (List D)} {f : Nat → Row → Row → Option (List D)} (ha : a l = f 0 l o) (hb : ∀ k', b (k' + 1) l o = f (k' + 1) l o) : selO (some (k, l, o)) a b = f k l o := by
  cases k with
  | zero => exact ha
  | succ k => exact hb k
abbrev GS := Nat → Nat → Nat → Int → Int → Row → Row → Row → T3
abbrev G0 := Nat → Nat → Int → Row → Row → T3
def pS (mid : List PV) : List PV := pu 6 ++ [.v (.c (.pointer (some ⟨0, 0, some 0⟩))), .v (.c (fnf 0 1))] ++ mid ++ [.v (.int .i64), .v (.int .i64)] ++ pu 46
def l11a (gs : GS) : LoopC where
  f := 11
  id := 11
  lv := [6, 7, 8, 9, 10, 26, 27]
  lx := [2, 3, 6, 7, 8, 26, 27]
  p := { τ := pS ([.v (.c (.slice none 0 0)), .v (.int .i64), .v (.int .i64)] ++ pu 15), saved := [[]], mem := [.box [.v (.sl 2)], .box [.v (.sl 3)], .row ks1 true, .row ks1 true] }
  G := fun its k => match its with
    | [.i gr, .i fr, .i m, .i j, .n nl, .n ng, .r l, .r g] => selO (gs nl ng 0 gr fr l g .nil) (fun l' => k (.exit 2) (S8a nl ng m j l' g)) (fun k' l' o' => k (.exit 2) (S8b nl ng k' m j l' g o'))
    | _ => none
def l11b (gs : GS) : LoopC where
  f := 11
  id := 11
  lv := [6, 7, 8, 9, 10, 26, 27]
  lx := [2, 3, 6, 7, 8, 26, 27]
  p := { τ := pS ([.v (.sl 2), .v (.int .i64), .v (.int .i64)] ++ pu 15), saved := [[]], mem := [.box [.v (.sl 3)], .box [.v (.sl 4)], .row Lg.ks3 true, .row ks1 true, .row ks1 true] }
  G := fun its k => match its with
    | [.n nk, .i gr, .i fr, .i m, .i j, .n nl, .n ng, .r o, .r l, .r g] => match nk with
      | nk + 1 => selO (gs nl ng (nk + 1) gr fr l g o) (fun l' => k (.exit 2) (S8a nl ng m j l' g)) (fun k' l' o' => k (.exit 2) (S8b nl ng k' m j l' g o'))
      | 0 => none
    | _ => none
def l8 (g0 : G0) : LoopC where
  f := 11
  id := 8
  lv := [6, 7, 8, 26, 27]
  lx := [2, 3, 8]
  p := { τ := pu 6 ++ [.v (.c (.pointer (some ⟨0, 0, some 0⟩))), .v (.c (fnf 0 1)), .v (.c (.slice none 0 0))] ++ pu 17 ++ [.v (.int .i64), .v (.c (i64 0))] ++ pu 46, saved := [[]], mem := [.box [.v (.sl 2)], .box [.v (.sl 3)], .row ks1 true, .row ks1 true] }
  G := fun its k => match its with
    | [.i m, .n nl, .n ng, .r l, .r g] => selO (g0 nl ng m l g) (fun _ => k (.exit 0) (S8x 0 .nil)) (fun k' _ o' => match k' with | k' + 1 => k (.exit 0) (S8x (k' + 1) o') | 0 => none)
    | _ => none
noncomputable def C10g (gs : GS) (g0 : G0) : Cx := mkCx2 Tryd.prog fns [(9, Fgroups), (32, Ffirst)] [l11a gs, l8 g0] [l11b gs]
section
variable (gs : GS) (g0 : G0)
def R11 (nl ng k : Nat) (gr fr m j : Int) (l g o : Row) (R : St → Option (List D)) (K : X → St → Option (List D)) : Option (List D) :=
  br (decide (fr ≥ 0)) (br (decide (nl ≤ 1000 ∧ nl ≤ ng)) (br (decide (0 ≤ fr) && decide (fr < (nl : Int))) (br (decide (0 ≤ fw l g nl ng gr (-1)) && decide (fw l g nl ng gr (-1) < (nl : Int))) (br (decide (k + 1 ≤ 10000000000)) (br (decide (0 ≤ fr) && decide (fr < (nl : Int))) (br (decide (0 ≤ fr) && decide (fr < (nl : Int)))
    (br (decide (0 ≤ fw l g nl ng gr (-1)) && decide (fw l g nl ng gr (-1) < (nl : Int))) (br (decide (0 ≤ fw l g nl ng gr (-1)) && decide (fw l g nl ng gr (-1) < (nl : Int))) (br (decide (nl ≤ 1000 ∧ nl ≤ ng))
      (R (S11 nl ng (k + 1) gr (fw (l2U l fr (fw l g nl ng gr (-1)) (ceI l fr (fw l g nl ng gr (-1)))) g nl ng gr 1) m j (l2U l fr (fw l g nl ng gr (-1)) (ceI l fr (fw l g nl ng gr (-1)))) g (oU o k (pyR fr (fw l g nl ng gr (-1)) (ceI l fr (fw l g nl ng gr (-1)))))))
      none) none) none) none) none) none) none) none) none) (K (.exit 2) (S8 nl ng k m j l g o))
set_option maxRecDepth 100000 in
theorem round11a (R : St → Option (List D)) (K : X → St → Option (List D)) (p : Nat) (nl ng : Nat) (gr fr m j : Int) (l g o : Row) : evCode (C10g gs g0) 11 true (inl (C10g gs g0) (p + 4)) (lbody (C10g gs g0).P 11 11) (S11 nl ng 0 gr fr m j l g o) (rnd [6, 7, 8, 9, 10, 26, 27] (some [2, 3, 6, 7, 8, 26, 27]) R K) = R11 nl ng 0 gr fr m j l g o R K := by kernel_rfl
set_option maxRecDepth 100000 in
theorem round11b (R : St → Option (List D)) (K : X → St → Option (List D)) (p : Nat) (nl ng k : Nat) (gr fr m j : Int) (l g o : Row) : evCode (C10g gs g0) 11 true (inl (C10g gs g0) (p + 4)) (lbody (C10g gs g0).P 11 11) (S11 nl ng (k + 1) gr fr m j l g o) (rnd [6, 7, 8, 9, 10, 26, 27] (some [2, 3, 6, 7, 8, 26, 27]) R K) = R11 nl ng (k + 1) gr fr m j l g o R K := by kernel_rfl
def R8 (nl ng k : Nat) (m j : Int) (l g o : Row) (R : St → Option (List D)) (K : X → St → Option (List D)) : Option (List D) :=
  br (decide (j < m)) (br (decide (nl ≤ 1000 ∧ nl ≤ ng)) (selO (gs nl ng k j (fw l g nl ng j 1) l g o) (fun l' => R (S8a nl ng m (wi (j + 1)) l' g)) (fun k' l' o' => R (S8b nl ng k' m (wi (j + 1)) l' g o'))) none) (K (.exit 0) (S8x k o))
theorem round8a (R : St → Option (List D)) (K : X → St → Option (List D)) (p : Nat) (nl ng : Nat) (m j : Int) (l g : Row) : evCode (C10g gs g0) 11 true (inl (C10g gs g0) (p + 4)) (lbody (C10g gs g0).P 11 8) (S8 nl ng 0 m j l g .nil) (rnd [6, 7, 8, 26, 27] (some [2, 3, 8]) R K) = R8 gs nl ng 0 m j l g .nil R K := by kernel_rfl
theorem round8b (R : St → Option (List D)) (K : X → St → Option (List D)) (p : Nat) (nl ng k : Nat) (m j : Int) (l g o : Row) : evCode (C10g gs g0) 11 true (inl (C10g gs g0) (p + 4)) (lbody (C10g gs g0).P 11 8) (S8 nl ng (k + 1) m j l g o) (rnd [6, 7, 8, 26, 27] (some [2, 3, 8]) R K) = R8 gs nl ng (k + 1) m j l g o R K := by kernel_rfl
theorem tsettle (b : Row) : evF (C10g gs g0) 6 11 [.slice ks1 b] =
    br (gpC (winOf b 0 b.n)) (br (ckE (winOf b 0 b.n) != 0) (some [.slice Lg.ks3 .nil, .v (i64 (ckE (winOf b 0 b.n)))]) (br (decide (0 + b.n ≤ 10000000000))
      (selO (g0 (0 + b.n) (gpR (winOf b 0 b.n)).n b.n ((winOf (Row.zeros 0) 0 0).app (winOf b 0 b.n)) (gpR (winOf b 0 b.n))) (fun _ => some [.slice Lg.ks3 .nil, .v (i64 0)]) (fun k' _ o' => match k' with | k' + 1 => some [.slice Lg.ks3 (winOf o' 0 (k' + 1)), .v (i64 0)] | 0 => none)) none)) none := by kernel_rfl
end
end Go.Proofs.YtpblmkephkhlkaaDoor.Se

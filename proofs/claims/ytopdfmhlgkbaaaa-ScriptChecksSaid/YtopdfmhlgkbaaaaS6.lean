/- The reference: Find. What the names that are known so far are. No conditions. -/
import Derived.Test.YtopdfmhlgkbaaaaS5
namespace Go.Proofs.Ytopdfmhlgkbaaaa
open Go.Ev
set_option linter.all false
def p17 : PSt := { τ := [.v (.sl 0), .v (.str)] ++ pu 3 ++ [.v (.int .i64)] ++ pu 14, saved := [[]], mem := [.row [.str, .int .u8] false] }
def eqN (o : Row) (s : ByteArray) (i : Nat) : Bool := eqS (o.S i 0) s
/-- Where a name stands, or -1. -/
def fdI (o : Row) (s : ByteArray) : Int := bif anyF (eqN o s) o.n 0 then ((fstF (eqN o s) o.n 0 : Nat) : Int) else -1
/-- The word with which a name became known, or 0. -/
def wdI (o : Row) (s : ByteArray) : Int := bif anyF (eqN o s) o.n 0 then o.I (fstF (eqN o s) o.n 0) 1 else 0
def d17 (its : List It) : Option (Nat × ByteArray × Int × Row) := match its with | [.n n, .s s, .i j, .r l] => some (n, s, j, l) | _ => none
def l17 : ScanL (Nat × ByteArray × Int × Row) where
  f := 17
  id := 2
  lv := [0, 1, 5]
  lx := [4]
  p := p17
  dat := d17
  S := fun (n, s, _, l) j => [.n n, .s s, .i j, .r l]
  len := fun (n, _, _, _) => n
  cnd := fun (n, _, j, _) => z2 n j
  bad := fun (n, s, _, l) => eqN l s
  Kb := fun _ j k => k .ret ⟨us 4 ++ [i64 (j : Nat)] ++ us 15, [[]], []⟩
  Ke := fun _ k => k (.exit 0) ⟨us 20, [[]], []⟩
noncomputable def C17 : Cx := mkCx Try.prog fns [] [l17.C]
theorem r17 (R : St → Option (List D)) (K : X → St → Option (List D)) (q n : Nat) (s : ByteArray) (j : Int) (l : Row) : bodyOf C17 17 2 q (Go.Ev.bst p17 [.n n, .s s, .i j, .r l]) (rnd [0, 1, 5] (some [4]) R K) =
    br (decide (j < (↑n : Int))) (br (decide (0 ≤ j) && decide (j < (↑n : Int))) (br ((l.S (0 + j.toNat) 0).toList == s.toList) (K .ret ⟨us 4 ++ [i64 (j)] ++ us 15, [[]], []⟩) (R ⟨[.slice (some ⟨0, 0, some 0⟩) (n) (0), .string (s)] ++ us 3 ++ [i64 (IntKind.i64.wrap (j + 1))] ++ us 14, [[]], [some (.row [.str, .int .u8] false (l))]⟩)) (none)) (K (.exit 0) ⟨us 20, [[]], []⟩) := by kernel_rfl
theorem t17 (l : Row) (s : ByteArray) : evF C17 6 17 [.slice ksN l, .v (.string s)] =
    br (z2 l.n 0) (br (anyF (eqN l s) l.n 0) (some [.v (i64 ((↑(fstF (eqN l s) l.n 0) : Int)))]) (some [.v (i64 (-1))])) (none) := by kernel_rfl
theorem ok17 : LoopOk C17 l17.C := l17.ok (by kernel_rfl)
  (fun its x h hc => by
    replace h : d17 its = some x := h
    unfold d17 at h
    split at h
    · cases h
      obtain ⟨h2, h3⟩ := z2_iff.1 hc
      subst h2
      rfl
    · cases h)
  (fun ⟨n, s, j, l⟩ hc => by have := (z2_iff.1 hc).2; show n < 18446744073709551616; omega)
  (fun q ⟨n, s, j, l⟩ i hc hi R K => by
    have h3 := (z2_iff.1 hc).2
    replace hi : i < n := hi
    refine (r17 R K q n s i l).trans ?_
    rw [gd i n hi, ltd i n hi, wsn (by omega), Int.toNat_natCast, Nat.zero_add]
    rfl)
  (fun q ⟨n, s, j, l⟩ hc R K => by
    refine (r17 R K q n s n l).trans ?_
    rw [ltn n]
    rfl)
theorem C17_ok : CxOk C17 := mkCx_ok enter mixed (fun p h => by cases h) (fun l h => by
  simp only [List.mem_cons, List.not_mem_nil, or_false] at h
  rcases h with rfl
  exact ok17)
def Ffind : List D → Option (Bool × List D)
  | [.slice [.str, .int .u8] l, .v (.string s)] => some (decide (l.n ≤ 1000000), [.v (i64 (fdI l s))])
  | _ => none
theorem den_find : Den Try.prog 17 Ffind := evF_den C17_ok fun ds rs h => by
  unfold Ffind at h
  split at h
  · rename_i l s
    simp only [Option.some.injEq, Prod.mk.injEq] at h
    obtain ⟨h0, rfl⟩ := h
    refine (t17 l s).trans ?_
    rw [z2_iff.2 ⟨rfl, of_decide_eq_true h0⟩, br_true]
    unfold fdI
    cases anyF (eqN l s) l.n 0 <;> rfl
  · cases h
/-- A name that becomes known. -/
def pushN (o : Row) (s : ByteArray) (w : Int) : Row := (winOf o 0 o.n).app (winOf (((Row.zeros 1).setS 0 0 s).setI 0 1 w) 0 1)
def p14i : PSt := { τ := pu 4 ++ [.v (.sl 0), .v (.c (.map (some 1)))] ++ pu 1 ++ [.v (.c (.pointer (some ⟨2, 0, some 0⟩))), .v (.c (.pointer (some ⟨3, 0, some 0⟩)))] ++ pu 6 ++ [.v (.sl 4), .v (.int .i64), .v (.int .i64)] ++ pu 13 ++ [.v (.sl 5), .v (.int .i64), .v (.int .i64)] ++ pu 29, saved := [[]], mem := [.row [.str, .int .u8] true, .map (.int .u8), .box [.v (.int .u8), .v (.sl 5), .v (.sl 6)], .box [.v (.str), .v (.int .i64), .v (.int .i64), .v (.int .i64), .v (.int .i64), .v (.bool), .v (.int .u8)], .row [.int .u8, .slice [.str], .slice [.int .i64]] false, .row [.str] false, .row [.int .i64] false] }
def p15i : PSt := { τ := [.v (.sl 0)] ++ pu 3 ++ [.v (.sl 1), .v (.int .i64), .v (.int .i64)] ++ pu 82, saved := [[]], mem := [.row [.int .u8, .slice [.str], .slice [.int .i64]] false, .row [.str, .int .u8] true] }
structure J14 where
  n : Nat
  m : Nat
  len : Int
  j : Int
  a : Nat
  la : Int
  k : Int
  o : Row
  M : ByteArray → Int
  B : ByteArray → Bool
  w : Int
  a2 : Nat
  b2 : Nat
  s : ByteArray
  x1 : Int
  x2 : Int
  x3 : Int
  x4 : Int
  nw : Bool
  x6 : Int
  l : Row
  nm : Row
  nu : Row
def d14i (its : List It) : Option J14 := match its with | [.n n, .n m, .i len, .i j, .n a, .i la, .i k, .r o, .mi M, .mb B, .i w, .n a2, .n b2, .s s, .i x1, .i x2, .i x3, .i x4, .b mk, .i x6, .r l, .r nm, .r nu] => some ⟨n, m, len, j, a, la, k, o, M, B, w, a2, b2, s, x1, x2, x3, x4, mk, x6, l, nm, nu⟩ | _ => none
def stI (nm : Row) (mk : Bool) (x6 : Int) (k : Nat) (a : Row × (ByteArray → Int)) : Bool := bif mk then a.2 (nm.S k 0) != 0 else a.2 (nm.S k 0) != x6
def nxI (nm : Row) (mk : Bool) (w : Int) (k : Nat) (a : Row × (ByteArray → Int)) : Row × (ByteArray → Int) := bif mk then (pushN a.1 (nm.S k 0) w, updI a.2 (nm.S k 0) w) else a
def l14i : RunL J14 (Row × (ByteArray → Int)) where
  f := 14
  id := 12
  lv := [4, 5, 7, 8, 15, 16, 17, 31, 32, 33]
  lx := [2, 3, 4, 5, 15, 16, 17]
  p := p14i
  dat := d14i
  S := fun x k a => [.n a.1.n, .n x.m, .i x.len, .i x.j, .n x.a, .i x.a, .i k, .r a.1, .mi a.2, .mb x.B, .i x.w, .n x.a2, .n x.b2, .s x.s, .i x.x1, .i x.x2, .i x.x3, .i x.x4, .b x.nw, .i x.x6, .r x.l, .r x.nm, .r x.nu]
  len := fun x => x.a
  cnd := fun x => decide (x.n = x.o.n ∧ x.o.n ≤ 1000000) && z3 x.a x.la x.k
  ini := fun x => (x.o, x.M)
  stop := fun x => stI x.nm x.nw x.x6
  nx := fun x => nxI x.nm x.nw x.w
  Kb := fun x k a K => K .ret ⟨us 2 ++ [.slice none (0) (0), i64 (bif x.nw then 14 else 6), .slice (some ⟨0, 0, some 0⟩) (a.1.n) (0), .map (some 1)] ++ us 9 ++ [.slice (some ⟨2, 0, some 0⟩) (x.m) (0), i64 (x.len), i64 (x.j)] ++ us 45, [[]], [some (.row [.str, .int .u8] true (a.1)), some (.map (.int .u8) (a.2) (x.B)), some (.row [.int .u8, .slice [.str], .slice [.int .i64]] false (x.l))]⟩
  Ke := fun x a K => K (.exit 2) ⟨us 4 ++ [.slice (some ⟨0, 0, some 0⟩) (a.1.n) (0), .map (some 1)] ++ us 9 ++ [.slice (some ⟨2, 0, some 0⟩) (x.m) (0), i64 (x.len), i64 (x.j)] ++ us 45, [[]], [some (.row [.str, .int .u8] true (a.1)), some (.map (.int .u8) (a.2) (x.B)), some (.row [.int .u8, .slice [.str], .slice [.int .i64]] false (x.l))]⟩
noncomputable def Ch : Cx := mkCx Try.prog fns [(17, Ffind), (23, Fnee)] []
def d15i (its : List It) : Option (Nat × Nat × Int × Int × Row × Row) := match its with | [.n m, .n n, .i j, .i k, .r l, .r o] => some (m, n, j, k, l, o) | _ => none
/-- A name that is not known, or known with another word. -/
def misB (o : Row) (s : ByteArray) (x : Int) : Bool := decide (fdI o s < 0) || o.I (fdI o s).toNat 1 != x
def badK (l o : Row) (j i : Nat) : Bool := misB o ((l.R j 1).S i 0) (neeI (l.I j 0))
def l15i : ScanL (Nat × Nat × Int × Int × Row × Row) where
  f := 15
  id := 12
  lv := [0, 4, 5, 6]
  lx := [0, 2, 3, 4, 5]
  p := p15i
  dat := d15i
  S := fun (m, n, j, k, l, o) i => [.n m, .n n, .i j, .i i, .r l, .r o]
  len := fun (m, n, j, k, l, o) => (l.R j.toNat 1).n
  cnd := fun (m, n, j, k, l, o) => decide (n = o.n ∧ o.n ≤ 1000000) && (decide (0 ≤ j ∧ j < m) && z2 (l.R j.toNat 1).n k)
  bad := fun (m, n, j, k, l, o) => badK l o j.toNat
  Kb := fun (m, n, j, k, l, o) i K => K .ret ⟨[.slice (some ⟨0, 0, some 0⟩) (m) (0)] ++ us 1 ++ [.slice none (0) (0), i64 (6), .slice (some ⟨1, 0, some 0⟩) (n) (0), i64 (j)] ++ us 83, [[]], [some (.row [.int .u8, .slice [.str], .slice [.int .i64]] false (l)), some (.row [.str, .int .u8] true (o))]⟩
  Ke := fun (m, n, j, k, l, o) K => K (.exit 2) ⟨[.slice (some ⟨0, 0, some 0⟩) (m) (0)] ++ us 3 ++ [.slice (some ⟨1, 0, some 0⟩) (n) (0), i64 (j)] ++ us 83, [[]], [some (.row [.int .u8, .slice [.str], .slice [.int .i64]] false (l)), some (.row [.str, .int .u8] true (o))]⟩
def p14 : PSt := { τ := pu 4 ++ [.v (.sl 0), .v (.c (.map (some 1)))] ++ pu 9 ++ [.v (.sl 2), .v (.int .i64), .v (.int .i64)] ++ pu 45, saved := [[]], mem := [.row [.str, .int .u8] true, .map (.int .u8), .row [.int .u8, .slice [.str], .slice [.int .i64]] false] }
def p15 : PSt := { τ := [.v (.sl 0)] ++ pu 3 ++ [.v (.sl 1), .v (.int .i64)] ++ pu 83, saved := [[]], mem := [.row [.int .u8, .slice [.str], .slice [.int .i64]] false, .row [.str, .int .u8] true] }
/-- Lines that are no great ones: what the walks ask. -/
def lnB (l : Row) (j : Nat) : Bool := smN (l.R j 1) (l.R j 1).n && decide ((l.R j 2).n ≤ 1000000)
def okL (l : Row) : Bool := decide (l.n ≤ 1000000) && !anyF (fun j => !lnB l j) l.n 0
theorem okL_iff {l : Row} : okL l = true ↔ l.n ≤ 1000000 ∧ ∀ j, j < l.n → lnB l j = true := by
  unfold okL
  simp only [Bool.and_eq_true, decide_eq_true_eq, Bool.not_eq_true', anyF_false, Nat.zero_add, Nat.zero_le, forall_const, Bool.not_eq_false']
def vaL (l : Row) (j : Nat) : Bool := vaB (l.I j 0) (l.R j 1) (l.R j 2)
/-- Whether a line has an error, with the names that are known so far; which one; and the names behind it. -/
def stK (l : Row) (j : Nat) (o : Row) : Bool := !vaL l j || (bif newB (l.I j 0) then !decide (fdI o ((l.R j 1).S 0 0) < 0) else anyF (badK l o j) (l.R j 1).n 0)
def erK (l : Row) (j : Nat) : Int := bif vaL l j then bif newB (l.I j 0) then 14 else 6 else 8
def nxK (l : Row) (j : Nat) (o : Row) : Row := bif newB (l.I j 0) then pushN o ((l.R j 1).S 0 0) (l.I j 0) else o
def knR (l : Row) : Bool × Nat × Row := runS (stK l) (nxK l) l.n 0 .nil
noncomputable def zM (M : ByteArray → Int) : Bool := @decide (∀ s, M s = 0) (Classical.propDecidable _)
theorem zM_iff {M : ByteArray → Int} : zM M = true ↔ ∀ s, M s = 0 := by unfold zM; exact @decide_eq_true_iff _ (Classical.propDecidable _)
def d14 (its : List It) : Option (Nat × Nat × Int × Int × Row × (ByteArray → Int) × (ByteArray → Bool) × Row) := match its with | [.n n, .n m, .i len, .i j, .r o, .mi M, .mb B, .r l] => some (n, m, len, j, o, M, B, l) | _ => none
def nxM (l : Row) (j : Nat) (a : Row × (ByteArray → Int)) : Row × (ByteArray → Int) := bif newB (l.I j 0) then (pushN a.1 ((l.R j 1).S 0 0) (l.I j 0), updI a.2 ((l.R j 1).S 0 0) (l.I j 0)) else a
noncomputable def l14 : RunL (Nat × Nat × Int × Int × Row × (ByteArray → Int) × (ByteArray → Bool) × Row) (Row × (ByteArray → Int)) where
  f := 14
  id := 6
  lv := [4, 5, 15, 16, 17, 900004]
  lx := [2, 3, 4]
  p := p14
  dat := d14
  S := fun (n, m, len, j, o, M, B, l) i a => [.n a.1.n, .n l.n, .i l.n, .i i, .r a.1, .mi a.2, .mb B, .r l]
  len := fun (n, m, len, j, o, M, B, l) => l.n
  cnd := fun (n, m, len, j, o, M, B, l) => decide (n = o.n ∧ o.n = 0 ∧ m = l.n) && (zM M && (z3 m len j && okL l))
  ini := fun (n, m, len, j, o, M, B, l) => (o, M)
  stop := fun (n, m, len, j, o, M, B, l) i a => stK l i a.1
  nx := fun (n, m, len, j, o, M, B, l) => nxM l
  Kb := fun (n, m, len, j, o, M, B, l) i a K => K .ret ⟨us 2 ++ [.slice none (0) (0), i64 (erK l i), .slice (some ⟨0, 0, some 0⟩) (a.1.n) (0)] ++ us 58, [[]], [some (.row [.str, .int .u8] true (a.1))]⟩
  Ke := fun (n, m, len, j, o, M, B, l) a K => K (.exit 0) ⟨us 4 ++ [.slice (some ⟨0, 0, some 0⟩) (a.1.n) (0)] ++ us 58, [[]], [some (.row [.str, .int .u8] true (a.1))]⟩
def d15 (its : List It) : Option (Nat × Nat × Int × Row × Row) := match its with | [.n m, .n n, .i j, .r l, .r o] => some (m, n, j, l, o) | _ => none
def l15 : RunL (Nat × Nat × Int × Row × Row) Row where
  f := 15
  id := 3
  lv := [0, 4, 5, 900004]
  lx := [2, 3, 4]
  p := p15
  dat := d15
  S := fun (m, n, j, l, o) i a => [.n l.n, .n a.n, .i i, .r l, .r a]
  len := fun (m, n, j, l, o) => l.n
  cnd := fun (m, n, j, l, o) => decide (n = o.n ∧ o.n = 0 ∧ m = l.n) && (z2 m j && okL l)
  ini := fun (m, n, j, l, o) => o
  stop := fun (m, n, j, l, o) => stK l
  nx := fun (m, n, j, l, o) => nxK l
  Kb := fun (m, n, j, l, o) i a K => K .ret ⟨us 2 ++ [.slice none (0) (0), i64 (erK l i), .slice (some ⟨0, 0, some 0⟩) (a.n) (0)] ++ us 84, [[]], [some (.row [.str, .int .u8] true (a))]⟩
  Ke := fun (m, n, j, l, o) a K => K (.exit 0) ⟨us 4 ++ [.slice (some ⟨0, 0, some 0⟩) (a.n) (0)] ++ us 84, [[]], [some (.row [.str, .int .u8] true (a))]⟩
noncomputable def C14 : Cx := mkCx Try.prog fns [(19, Fvalid), (20, Fwords)] [l14.C, l14i.C]
noncomputable def C15 : Cx := mkCx Try.prog fns [(21, Fvalid), (22, Fnew), (17, Ffind), (23, Fnee)] [l15.C, l15i.C]
theorem r14i (R : St → Option (List D)) (K : X → St → Option (List D)) (q n m : Nat) (len j : Int) (a : Nat) (la k : Int) (o : Row) (M : ByteArray → Int) (B : ByteArray → Bool) (w : Int) (a2 b2 : Nat) (s : ByteArray) (x1 x2 x3 x4 : Int) (mk : Bool) (x6 : Int) (l nm nu : Row) : bodyOf C14 14 12 q (Go.Ev.bst p14i [.n n, .n m, .i len, .i j, .n a, .i la, .i k, .r o, .mi M, .mb B, .i w, .n a2, .n b2, .s s, .i x1, .i x2, .i x3, .i x4, .b mk, .i x6, .r l, .r nm, .r nu]) (rnd [4, 5, 7, 8, 15, 16, 17, 31, 32, 33] (some [2, 3, 4, 5, 15, 16, 17]) R K) =
    br (decide (k < la)) (br (decide (0 ≤ k) && decide (k < (↑a : Int))) (br (mk) (br (M (nm.S (0 + k.toNat) 0) != 0) (K .ret ⟨us 2 ++ [.slice none (0) (0), i64 (14), .slice (some ⟨0, 0, some 0⟩) (n) (0), .map (some 1)] ++ us 9 ++ [.slice (some ⟨2, 0, some 0⟩) (m) (0), i64 (len), i64 (j)] ++ us 45, [[]], [some (.row [.str, .int .u8] true (o)), some (.map (.int .u8) (M) (B)), some (.row [.int .u8, .slice [.str], .slice [.int .i64]] false (l))]⟩) (br (decide (n + (winOf (((Row.zeros 1).setS 0 0 (nm.S (0 + k.toNat) 0)).setI 0 1 w) 0 1).n ≤ 10000000000)) (R ⟨us 4 ++ [.slice (some ⟨0, 0, some 0⟩) (n + 1) (0), .map (some 1)] ++ us 1 ++ [.pointer (some ⟨2, 0, some 0⟩), .pointer (some ⟨3, 0, some 0⟩)] ++ us 6 ++ [.slice (some ⟨4, 0, some 0⟩) (m) (0), i64 (len), i64 (j)] ++ us 13 ++ [.slice (some ⟨5, 0, some 0⟩) (a) (0), i64 (la), i64 (IntKind.i64.wrap (k + 1))] ++ us 29, [[]], [some (.row [.str, .int .u8] true ((winOf o 0 n).app (winOf (((Row.zeros 1).setS 0 0 (nm.S (0 + k.toNat) 0)).setI 0 1 w) 0 1))), some (.map (.int .u8) (updI M (nm.S (0 + k.toNat) 0) w) (B)), some (.box [.int .u8 (w), .slice (some ⟨5, 0, some 0⟩) (a2) (0), .slice (some ⟨6, 0, some 0⟩) (b2) (0)]), some (.box [.string (s), i64 (x1), i64 (x2), i64 (x3), i64 (x4), .bool (mk), .int .u8 (x6)]), some (.row [.int .u8, .slice [.str], .slice [.int .i64]] false (l)), some (.row [.str] false (nm)), some (.row [.int .i64] false (nu))]⟩) (none))) (br (M (nm.S (0 + k.toNat) 0) != x6) (K .ret ⟨us 2 ++ [.slice none (0) (0), i64 (6), .slice (some ⟨0, 0, some 0⟩) (n) (0), .map (some 1)] ++ us 9 ++ [.slice (some ⟨2, 0, some 0⟩) (m) (0), i64 (len), i64 (j)] ++ us 45, [[]], [some (.row [.str, .int .u8] true (o)), some (.map (.int .u8) (M) (B)), some (.row [.int .u8, .slice [.str], .slice [.int .i64]] false (l))]⟩) (R ⟨us 4 ++ [.slice (some ⟨0, 0, some 0⟩) (n) (0), .map (some 1)] ++ us 1 ++ [.pointer (some ⟨2, 0, some 0⟩), .pointer (some ⟨3, 0, some 0⟩)] ++ us 6 ++ [.slice (some ⟨4, 0, some 0⟩) (m) (0), i64 (len), i64 (j)] ++ us 13 ++ [.slice (some ⟨5, 0, some 0⟩) (a) (0), i64 (la), i64 (IntKind.i64.wrap (k + 1))] ++ us 29, [[]], [some (.row [.str, .int .u8] true (o)), some (.map (.int .u8) (M) (B)), some (.box [.int .u8 (w), .slice (some ⟨5, 0, some 0⟩) (a2) (0), .slice (some ⟨6, 0, some 0⟩) (b2) (0)]), some (.box [.string (s), i64 (x1), i64 (x2), i64 (x3), i64 (x4), .bool (mk), .int .u8 (x6)]), some (.row [.int .u8, .slice [.str], .slice [.int .i64]] false (l)), some (.row [.str] false (nm)), some (.row [.int .i64] false (nu))]⟩))) (none)) (K (.exit 2) ⟨us 4 ++ [.slice (some ⟨0, 0, some 0⟩) (n) (0), .map (some 1)] ++ us 9 ++ [.slice (some ⟨2, 0, some 0⟩) (m) (0), i64 (len), i64 (j)] ++ us 45, [[]], [some (.row [.str, .int .u8] true (o)), some (.map (.int .u8) (M) (B)), some (.row [.int .u8, .slice [.str], .slice [.int .i64]] false (l))]⟩) := by kernel_rfl
theorem r15i (R : St → Option (List D)) (K : X → St → Option (List D)) (q n m : Nat) (j k : Int) (l o : Row) : bodyOf C15 15 12 q (Go.Ev.bst p15i [.n m, .n n, .i j, .i k, .r l, .r o]) (rnd [0, 4, 5, 6] (some [0, 2, 3, 4, 5]) R K) =
    br (decide (0 ≤ j) && decide (j < (↑m : Int))) (br (decide (k < (↑(l.R (0 + j.toNat) 1).n : Int))) (br (decide (0 ≤ j) && decide (j < (↑m : Int))) (br (decide (0 ≤ k) && decide (k < (↑(l.R (0 + j.toNat) 1).n : Int))) (br (decide ((winOf o 0 n).n ≤ 1000000)) (br (decide (fdI (winOf o 0 n) ((l.R (0 + j.toNat) 1).S (0 + k.toNat) 0) < 0)) (K .ret ⟨[.slice (some ⟨0, 0, some 0⟩) (m) (0)] ++ us 1 ++ [.slice none (0) (0), i64 (6), .slice (some ⟨1, 0, some 0⟩) (n) (0), i64 (j)] ++ us 83, [[]], [some (.row [.int .u8, .slice [.str], .slice [.int .i64]] false (l)), some (.row [.str, .int .u8] true (o))]⟩) (br (decide (0 ≤ fdI (winOf o 0 n) ((l.R (0 + j.toNat) 1).S (0 + k.toNat) 0)) && decide (fdI (winOf o 0 n) ((l.R (0 + j.toNat) 1).S (0 + k.toNat) 0) < (↑n : Int))) (br (decide (0 ≤ j) && decide (j < (↑m : Int))) (br (o.I (0 + (fdI (winOf o 0 n) ((l.R (0 + j.toNat) 1).S (0 + k.toNat) 0)).toNat) 1 != neeI (l.I (0 + j.toNat) 0)) (K .ret ⟨[.slice (some ⟨0, 0, some 0⟩) (m) (0)] ++ us 1 ++ [.slice none (0) (0), i64 (6), .slice (some ⟨1, 0, some 0⟩) (n) (0), i64 (j)] ++ us 83, [[]], [some (.row [.int .u8, .slice [.str], .slice [.int .i64]] false (l)), some (.row [.str, .int .u8] true (o))]⟩) (R ⟨[.slice (some ⟨0, 0, some 0⟩) (m) (0)] ++ us 3 ++ [.slice (some ⟨1, 0, some 0⟩) (n) (0), i64 (j), i64 (IntKind.i64.wrap (k + 1))] ++ us 82, [[]], [some (.row [.int .u8, .slice [.str], .slice [.int .i64]] false (l)), some (.row [.str, .int .u8] true (o))]⟩)) (none)) (none))) (none)) (none)) (none)) (K (.exit 2) ⟨[.slice (some ⟨0, 0, some 0⟩) (m) (0)] ++ us 3 ++ [.slice (some ⟨1, 0, some 0⟩) (n) (0), i64 (j)] ++ us 83, [[]], [some (.row [.int .u8, .slice [.str], .slice [.int .i64]] false (l)), some (.row [.str, .int .u8] true (o))]⟩)) (none) := by kernel_rfl
/-- What the inner loop comes to. -/
def inR (nm : Row) (nw : Bool) (x6 w : Int) (o : Row) (M : ByteArray → Int) : Bool × Nat × (Row × (ByteArray → Int)) := runS (stI nm nw x6) (nxI nm nw w) nm.n 0 (o, M)
theorem r14 (R : St → Option (List D)) (K : X → St → Option (List D)) (q n m : Nat) (len j : Int) (o l : Row) (M : ByteArray → Int) (B : ByteArray → Bool) : bodyOf C14 14 6 q (Go.Ev.bst p14 [.n n, .n m, .i len, .i j, .r o, .mi M, .mb B, .r l]) (rnd [4, 5, 15, 16, 17, 900004] (some [2, 3, 4]) R K) =
    br (decide (j < len)) (br (decide (0 ≤ j) && decide (j < (↑m : Int))) (br (lnB l (0 + j.toNat)) (br (!vaL l (0 + j.toNat)) (K .ret ⟨us 2 ++ [.slice none (0) (0), i64 (8), .slice (some ⟨0, 0, some 0⟩) (n) (0)] ++ us 58, [[]], [some (.row [.str, .int .u8] true (o))]⟩) (br (decide (0 ≤ IntKind.u8.wrap (l.I (0 + j.toNat) 0 - 1)) && decide (IntKind.u8.wrap (l.I (0 + j.toNat) 0 - 1) < (↑Wt.n : Int))) (br (decide (n = o.n ∧ o.n ≤ 1000000) && z3 (l.R (0 + j.toNat) 1).n (↑(l.R (0 + j.toNat) 1).n : Int) 0)
      (br (inR (l.R (0 + j.toNat) 1) (Wt.B (0 + (IntKind.u8.wrap (l.I (0 + j.toNat) 0 - 1)).toNat) 5) (Wt.I (0 + (IntKind.u8.wrap (l.I (0 + j.toNat) 0 - 1)).toNat) 6) (l.I (0 + j.toNat) 0) o M).1
        (K .ret ⟨us 2 ++ [.slice none (0) (0), i64 (bif Wt.B (0 + (IntKind.u8.wrap (l.I (0 + j.toNat) 0 - 1)).toNat) 5 then 14 else 6), .slice (some ⟨0, 0, some 0⟩) ((inR (l.R (0 + j.toNat) 1) (Wt.B (0 + (IntKind.u8.wrap (l.I (0 + j.toNat) 0 - 1)).toNat) 5) (Wt.I (0 + (IntKind.u8.wrap (l.I (0 + j.toNat) 0 - 1)).toNat) 6) (l.I (0 + j.toNat) 0) o M).2.2.1.n) (0)] ++ us 58, [[]], [some (.row [.str, .int .u8] true ((inR (l.R (0 + j.toNat) 1) (Wt.B (0 + (IntKind.u8.wrap (l.I (0 + j.toNat) 0 - 1)).toNat) 5) (Wt.I (0 + (IntKind.u8.wrap (l.I (0 + j.toNat) 0 - 1)).toNat) 6) (l.I (0 + j.toNat) 0) o M).2.2.1))]⟩)
        (R ⟨us 4 ++ [.slice (some ⟨0, 0, some 0⟩) ((inR (l.R (0 + j.toNat) 1) (Wt.B (0 + (IntKind.u8.wrap (l.I (0 + j.toNat) 0 - 1)).toNat) 5) (Wt.I (0 + (IntKind.u8.wrap (l.I (0 + j.toNat) 0 - 1)).toNat) 6) (l.I (0 + j.toNat) 0) o M).2.2.1.n) (0), .map (some 1)] ++ us 9 ++ [.slice (some ⟨2, 0, some 0⟩) (m) (0), i64 (len), i64 (IntKind.i64.wrap (j + 1))] ++ us 45, [[]], [some (.row [.str, .int .u8] true ((inR (l.R (0 + j.toNat) 1) (Wt.B (0 + (IntKind.u8.wrap (l.I (0 + j.toNat) 0 - 1)).toNat) 5) (Wt.I (0 + (IntKind.u8.wrap (l.I (0 + j.toNat) 0 - 1)).toNat) 6) (l.I (0 + j.toNat) 0) o M).2.2.1)), some (.map (.int .u8) ((inR (l.R (0 + j.toNat) 1) (Wt.B (0 + (IntKind.u8.wrap (l.I (0 + j.toNat) 0 - 1)).toNat) 5) (Wt.I (0 + (IntKind.u8.wrap (l.I (0 + j.toNat) 0 - 1)).toNat) 6) (l.I (0 + j.toNat) 0) o M).2.2.2) (B)), some (.row [.int .u8, .slice [.str], .slice [.int .i64]] false (l))]⟩)) (none)) (none))) (none)) (none)) (K (.exit 0) ⟨us 4 ++ [.slice (some ⟨0, 0, some 0⟩) (n) (0)] ++ us 58, [[]], [some (.row [.str, .int .u8] true (o))]⟩) := by kernel_rfl
theorem r15 (R : St → Option (List D)) (K : X → St → Option (List D)) (q n m : Nat) (j : Int) (l o : Row) : bodyOf C15 15 3 q (Go.Ev.bst p15 [.n m, .n n, .i j, .r l, .r o]) (rnd [0, 4, 5, 900004] (some [2, 3, 4]) R K) =
    br (decide (j < (↑m : Int))) (br (decide (0 ≤ j) && decide (j < (↑m : Int))) (br (smN (winOf (l.R (0 + j.toNat) 1) 0 (l.R (0 + j.toNat) 1).n) (winOf (l.R (0 + j.toNat) 1) 0 (l.R (0 + j.toNat) 1).n).n && decide ((winOf (l.R (0 + j.toNat) (0 + 1 + 1)) 0 (l.R (0 + j.toNat) (0 + 1 + 1)).n).n ≤ 1000000)) (br (!vaB (l.I (0 + j.toNat) 0) (winOf (l.R (0 + j.toNat) 1) 0 (l.R (0 + j.toNat) 1).n) (winOf (l.R (0 + j.toNat) 2) 0 (l.R (0 + j.toNat) 2).n)) (K .ret ⟨us 2 ++ [.slice none (0) (0), i64 (8), .slice (some ⟨0, 0, some 0⟩) (n) (0)] ++ us 84, [[]], [some (.row [.str, .int .u8] true (o))]⟩) (br (decide (0 ≤ j) && decide (j < (↑m : Int))) (br (newB (l.I (0 + j.toNat) 0)) (br (decide (0 ≤ j) && decide (j < (↑m : Int))) (br (decide (0 ≤ 0) && decide (0 < (↑(l.R (0 + j.toNat) 1).n : Int))) (br (decide ((winOf o 0 n).n ≤ 1000000)) (br (decide (fdI (winOf o 0 n) ((l.R (0 + j.toNat) 1).S (0 + 0) 0) ≥ 0)) (K .ret ⟨us 2 ++ [.slice none (0) (0), i64 (14), .slice (some ⟨0, 0, some 0⟩) (n) (0)] ++ us 84, [[]], [some (.row [.str, .int .u8] true (o))]⟩) (br (decide (0 ≤ j) && decide (j < (↑m : Int))) (br (decide (0 ≤ 0) && decide (0 < (↑(l.R (0 + j.toNat) 1).n : Int))) (br (decide (0 ≤ j) && decide (j < (↑m : Int))) (br (decide (n + (winOf (((Row.zeros 1).setS 0 0 ((l.R (0 + j.toNat) 1).S (0 + 0) 0)).setI 0 1 (l.I (0 + j.toNat) 0)) 0 1).n ≤ 10000000000)) (R ⟨[.slice (some ⟨0, 0, some 0⟩) (m) (0)] ++ us 3 ++ [.slice (some ⟨1, 0, some 0⟩) (n + 1) (0), i64 (IntKind.i64.wrap (j + 1))] ++ us 83, [[]], [some (.row [.int .u8, .slice [.str], .slice [.int .i64]] false (l)), some (.row [.str, .int .u8] true ((winOf o 0 n).app (winOf (((Row.zeros 1).setS 0 0 ((l.R (0 + j.toNat) 1).S 0 0)).setI 0 1 (l.I (0 + j.toNat) 0)) 0 1)))]⟩) (none)) (none)) (none)) (none))) (none)) (none)) (none)) (br (decide (n = o.n ∧ o.n ≤ 1000000) && (decide (0 ≤ j ∧ j < (↑m : Int)) && z2 (l.R j.toNat 1).n 0)) (br (anyF (badK l o j.toNat) (l.R j.toNat 1).n 0) (K .ret ⟨us 2 ++ [.slice none (0) (0), i64 (6), .slice (some ⟨0, 0, some 0⟩) (n) (0)] ++ us 84, [[]], [some (.row [.str, .int .u8] true (o))]⟩) (R ⟨[.slice (some ⟨0, 0, some 0⟩) (m) (0)] ++ us 3 ++ [.slice (some ⟨1, 0, some 0⟩) (n) (0), i64 (IntKind.i64.wrap (j + 1))] ++ us 83, [[]], [some (.row [.int .u8, .slice [.str], .slice [.int .i64]] false (l)), some (.row [.str, .int .u8] true (o))]⟩)) (none))) (none))) (none)) (none)) (K (.exit 0) ⟨us 4 ++ [.slice (some ⟨0, 0, some 0⟩) (n) (0)] ++ us 84, [[]], [some (.row [.str, .int .u8] true (o))]⟩) := by kernel_rfl
theorem t14 (l : Row) : evF C14 6 14 [.slice ksL l] =
    br (decide ((↑l.n : Int) > 200)) (some [.slice [.str, .int .u8] (Row.nil), .v (i64 (4))]) (br (decide (0 = Row.nil.n ∧ Row.nil.n = 0 ∧ l.n = l.n) && ((zM fun x => 0) && (z3 l.n (↑l.n : Int) 0 && okL l))) (br ((runS (l14.stop (0, l.n, (↑l.n : Int), 0, Row.nil, fun x => 0, fun x => false, l)) (l14.nx (0, l.n, (↑l.n : Int), 0, Row.nil, fun x => 0, fun x => false, l)) (l14.len (0, l.n, (↑l.n : Int), 0, Row.nil, fun x => 0, fun x => false, l)) 0 (l14.ini (0, l.n, (↑l.n : Int), 0, Row.nil, fun x => 0, fun x => false, l))).1) (some [.slice [.str, .int .u8] (Row.nil), .v (i64 (erK l (runS (l14.stop (0, l.n, (↑l.n : Int), 0, Row.nil, fun x => 0, fun x => false, l)) (l14.nx (0, l.n, (↑l.n : Int), 0, Row.nil, fun x => 0, fun x => false, l)) (l14.len (0, l.n, (↑l.n : Int), 0, Row.nil, fun x => 0, fun x => false, l)) 0 (l14.ini (0, l.n, (↑l.n : Int), 0, Row.nil, fun x => 0, fun x => false, l))).snd.1))]) (some [.slice [.str, .int .u8] (winOf (runS (l14.stop (0, l.n, (↑l.n : Int), 0, Row.nil, fun x => 0, fun x => false, l)) (l14.nx (0, l.n, (↑l.n : Int), 0, Row.nil, fun x => 0, fun x => false, l)) (l14.len (0, l.n, (↑l.n : Int), 0, Row.nil, fun x => 0, fun x => false, l)) 0 (l14.ini (0, l.n, (↑l.n : Int), 0, Row.nil, fun x => 0, fun x => false, l))).snd.snd.1 0 (runS (l14.stop (0, l.n, (↑l.n : Int), 0, Row.nil, fun x => 0, fun x => false, l)) (l14.nx (0, l.n, (↑l.n : Int), 0, Row.nil, fun x => 0, fun x => false, l)) (l14.len (0, l.n, (↑l.n : Int), 0, Row.nil, fun x => 0, fun x => false, l)) 0 (l14.ini (0, l.n, (↑l.n : Int), 0, Row.nil, fun x => 0, fun x => false, l))).snd.snd.1.n), .v (i64 (0))])) (none)) := by kernel_rfl
theorem t15 (l : Row) : evF C15 6 15 [.slice ksL l] =
    br (decide (0 = Row.nil.n ∧ Row.nil.n = 0 ∧ l.n = l.n) && (z2 l.n 0 && okL l)) (br ((runS (l15.stop (l.n, 0, 0, l, Row.nil)) (l15.nx (l.n, 0, 0, l, Row.nil)) (l15.len (l.n, 0, 0, l, Row.nil)) 0 (l15.ini (l.n, 0, 0, l, Row.nil))).1) (some [.slice [.str, .int .u8] (Row.nil), .v (i64 (erK l (runS (l15.stop (l.n, 0, 0, l, Row.nil)) (l15.nx (l.n, 0, 0, l, Row.nil)) (l15.len (l.n, 0, 0, l, Row.nil)) 0 (l15.ini (l.n, 0, 0, l, Row.nil))).snd.1))]) (some [.slice [.str, .int .u8] (winOf (runS (l15.stop (l.n, 0, 0, l, Row.nil)) (l15.nx (l.n, 0, 0, l, Row.nil)) (l15.len (l.n, 0, 0, l, Row.nil)) 0 (l15.ini (l.n, 0, 0, l, Row.nil))).snd.2 0 (runS (l15.stop (l.n, 0, 0, l, Row.nil)) (l15.nx (l.n, 0, 0, l, Row.nil)) (l15.len (l.n, 0, 0, l, Row.nil)) 0 (l15.ini (l.n, 0, 0, l, Row.nil))).snd.2.n), .v (i64 (0))])) (none) := by kernel_rfl
theorem pn_n (o : Row) (s : ByteArray) (w : Int) : (pushN o s w).n = o.n + 1 := rfl
theorem pn_S (o : Row) (s : ByteArray) (w : Int) {i : Nat} (h : i < o.n) : (pushN o s w).S i 0 = o.S i 0 := by
  show (bif Nat.blt i o.n then o.S i 0 else _) = _
  rw [show Nat.blt i o.n = true by rw [Nat.blt_eq]; exact h]; rfl
theorem pn_I (o : Row) (s : ByteArray) (w : Int) {i : Nat} (h : i < o.n) : (pushN o s w).I i 1 = o.I i 1 := by
  show (bif Nat.blt i o.n then o.I i 1 else _) = _
  rw [show Nat.blt i o.n = true by rw [Nat.blt_eq]; exact h]; rfl
theorem blt_n (n : Nat) : Nat.blt n n = false := by
  cases h : Nat.blt n n
  · rfl
  · rw [Nat.blt_eq] at h; omega
theorem pn_Sn (o : Row) (s : ByteArray) (w : Int) : (pushN o s w).S o.n 0 = s := by
  show (bif Nat.blt o.n o.n then o.S o.n 0 else (winOf (((Row.zeros 1).setS 0 0 s).setI 0 1 w) 0 1).S (o.n - o.n) 0) = _
  rw [blt_n, Nat.sub_self]; rfl
theorem pn_In (o : Row) (s : ByteArray) (w : Int) : (pushN o s w).I o.n 1 = w := by
  show (bif Nat.blt o.n o.n then o.I o.n 1 else (winOf (((Row.zeros 1).setS 0 0 s).setI 0 1 w) 0 1).I (o.n - o.n) 1) = _
  rw [blt_n, Nat.sub_self]; rfl
theorem fd_char (o : Row) (s : ByteArray) : (∃ i, i < o.n ∧ o.S i 0 = s ∧ (∀ i', i' < i → o.S i' 0 ≠ s) ∧ fdI o s = (i : Int) ∧ wdI o s = o.I i 1) ∨ ((∀ i, i < o.n → o.S i 0 ≠ s) ∧ fdI o s = -1 ∧ wdI o s = 0) := by
  unfold fdI wdI
  cases h : anyF (eqN o s) o.n 0
  · right
    rw [anyF_false] at h
    exact ⟨fun i hi he => (by have := h i (by omega) (by omega); rw [eqN, eqS_iff.2 he] at this; cases this), rfl, rfl⟩
  · left
    obtain ⟨h1, h2, h3⟩ := fstF_any _ _ _ h
    refine ⟨fstF (eqN o s) o.n 0, by omega, eqS_iff.1 h2, fun i' hi he => ?_, rfl, rfl⟩
    have := h3 i' (by omega) hi
    rw [eqN, eqS_iff.2 he] at this; cases this
theorem fd_at {o : Row} {s : ByteArray} {i : Nat} (h1 : i < o.n) (h2 : o.S i 0 = s) (h3 : ∀ i', i' < i → o.S i' 0 ≠ s) : fdI o s = (i : Int) ∧ wdI o s = o.I i 1 := by
  rcases fd_char o s with ⟨k, k1, k2, k3, k4, k5⟩ | ⟨k1, _⟩
  · have : k = i := by
      rcases Nat.lt_trichotomy k i with h | h | h
      · exact absurd k2 (h3 k h)
      · exact h
      · exact absurd h2 (k3 i h)
    subst this
    exact ⟨k4, k5⟩
  · exact absurd h2 (k1 i h1)
theorem fd_no {o : Row} {s : ByteArray} (h : ∀ i, i < o.n → o.S i 0 ≠ s) : fdI o s = -1 ∧ wdI o s = 0 := by
  rcases fd_char o s with ⟨k, k1, k2, _⟩ | ⟨_, k⟩
  · exact absurd k2 (h k k1)
  · exact k
theorem wd_push {o : Row} {s : ByteArray} (w : Int) (h : fdI o s < 0) (t : ByteArray) : wdI (pushN o s w) t = updI (wdI o) s w t := by
  have hno : ∀ i, i < o.n → o.S i 0 ≠ s := by
    rcases fd_char o s with ⟨k, k1, k2, k3, k4, k5⟩ | ⟨k, _⟩
    · omega
    · exact k
  unfold updI
  by_cases e : t = s
  · subst e
    rw [show (t.toList == t.toList) = true from (bytesEq_iff t t).2 rfl, cond_true]
    refine (fd_at (i := o.n) (by rw [pn_n]; omega) (pn_Sn o t w) fun i' hi => ?_).2.trans (pn_In o t w)
    rw [pn_S o t w hi]
    exact hno i' hi
  · have hne : (t.toList == s.toList) = false := by
      cases hb : (t.toList == s.toList)
      · rfl
      · exact absurd ((bytesEq_iff t s).1 hb) e
    rw [hne, cond_false]
    rcases fd_char o t with ⟨k, k1, k2, k3, k4, k5⟩ | ⟨k, _, k2⟩
    · rw [k5]
      refine (fd_at (i := k) (by rw [pn_n]; omega) ((pn_S o s w k1).trans k2) fun i' hi => ?_).2.trans (pn_I o s w k1)
      rw [pn_S o s w (by omega)]
      exact k3 i' hi
    · rw [k2]
      refine (fd_no fun i hi => ?_).2
      rw [pn_n] at hi
      by_cases e2 : i < o.n
      · rw [pn_S o s w e2]; exact k i e2
      · rw [show i = o.n by omega, pn_Sn]; exact fun h => e h.symm
/-- What is known: each name with a word that is none of the words' 0. -/
def InvK (j : Nat) (o : Row) : Prop := o.n ≤ j ∧ ∀ i, i < o.n → 1 ≤ o.I i 1
theorem InvK.push {j : Nat} {o : Row} (h : InvK j o) (s : ByteArray) {w : Int} (hw : 1 ≤ w) : InvK (j + 1) (pushN o s w) := by
  refine ⟨by rw [pn_n]; have := h.1; omega, fun i hi => ?_⟩
  rw [pn_n] at hi
  by_cases e2 : i < o.n
  · rw [pn_I o s w e2]; exact h.2 i e2
  · rw [show i = o.n by omega, pn_In]; exact hw
theorem InvK.next {j : Nat} {o : Row} (h : InvK j o) : InvK (j + 1) o := ⟨by have := h.1; omega, h.2⟩
theorem mis_M {j : Nat} {o : Row} (s : ByteArray) {x : Int} (hx : 1 ≤ x) : misB o s x = (wdI o s != x) := by
  unfold misB
  rcases fd_char o s with ⟨k, k1, k2, k3, k4, k5⟩ | ⟨k, k1, k2⟩
  · rw [k4, k5, decide_eq_false (by omega), Int.toNat_natCast]; rfl
  · rw [k1, k2, decide_eq_true (by omega), Bool.true_or]
    exact (bne_iff_ne.2 (by omega)).symm
theorem new_M {j : Nat} {o : Row} (h : InvK j o) (s : ByteArray) : (wdI o s != 0) = !decide (fdI o s < 0) := by
  rcases fd_char o s with ⟨k, k1, k2, k3, k4, k5⟩ | ⟨k, k1, k2⟩
  · rw [k4, k5, decide_eq_false (by omega)]
    exact bne_iff_ne.2 (by have := h.2 k k1; omega)
  · rw [k1, k2, decide_eq_true (by omega)]; rfl
theorem va_word {l : Row} {j : Nat} (h : vaL l j = true) : (1 ≤ l.I j 0 ∧ l.I j 0 ≤ 10) ∧ (newB (l.I j 0) = true → (l.R j 1).n = 1) := by
  unfold vaL vaB at h
  simp only [Bool.and_eq_true, decide_eq_true_eq] at h
  obtain ⟨hw, hr, _⟩ := h
  refine ⟨hw, fun hn => ?_⟩
  have hr := ranB_iff.1 hr
  have : l.I j 0 = 1 ∨ l.I j 0 = 2 ∨ l.I j 0 = 3 ∨ l.I j 0 = 4 ∨ l.I j 0 = 5 ∨ l.I j 0 = 6 ∨ l.I j 0 = 7 ∨ l.I j 0 = 8 ∨ l.I j 0 = 9 ∨ l.I j 0 = 10 := by omega
  rcases this with e | e | e | e | e | e | e | e | e | e <;> rw [e] at hr hn <;> first
    | exact absurd hn (by decide)
    | (have h1 := hr.1; have h2 := hr.2.1
       first
         | (replace h1 : (1 : Int) ≤ ((l.R j 1).n : Int) := h1
            replace h2 : ((l.R j 1).n : Int) ≤ (1 : Int) := h2
            omega))
theorem nee_pos (w : Int) : 1 ≤ neeI w := by
  unfold neeI pick pick pick pick
  cases w == 7 <;> cases w == 9 <;> cases w == 10 <;> simp
theorem runS_id {β : Type} {stop : Nat → β → Bool} {nx : Nat → β → β} (hn : ∀ j a, nx j a = a) : ∀ (m j : Nat) (a : β), (runS stop nx m j a).1 = anyF (fun j => stop j a) m j ∧ (runS stop nx m j a).2.2 = a
  | 0, j, a => ⟨rfl, rfl⟩
  | m + 1, j, a => by
    unfold anyF
    cases h : stop j a
    · rw [runS_s h, hn j a, Bool.false_or]
      exact runS_id hn m (j + 1) a
    · rw [runS_t h]
      exact ⟨rfl, rfl⟩
theorem in_new {nm : Row} (h : nm.n = 1) (x6 w : Int) (o : Row) (M : ByteArray → Int) : inR nm true x6 w o M = bif M (nm.S 0 0) != 0 then (true, 0, (o, M)) else (false, 1, (pushN o (nm.S 0 0) w, updI M (nm.S 0 0) w)) := by
  unfold inR
  rw [h]
  rfl
theorem in_old (nm : Row) (x6 w : Int) (o : Row) (M : ByteArray → Int) : (inR nm false x6 w o M).1 = anyF (fun k => M (nm.S k 0) != x6) nm.n 0 ∧ (inR nm false x6 w o M).2.2 = (o, M) := runS_id (fun _ _ => rfl) _ _ _
theorem ok14i : LoopOk C14 l14i.C := l14i.ok (fun _ k a => a.1.n ≤ 1000000 + k) (by kernel_rfl)
  (fun its x h hc => by
    replace h : d14i its = some x := h
    unfold d14i at h
    split at h
    · cases h
      have hc := Bool.and_eq_true_iff.1 hc
      obtain ⟨h1, h2⟩ := of_decide_eq_true hc.1
      obtain ⟨h3, h4, h5⟩ := z3_iff.1 hc.2
      dsimp only at h1 h2 h3 h4 h5
      subst h1 h3 h4
      rfl
    · cases h)
  (fun x hc => by have := (z3_iff.1 (Bool.and_eq_true_iff.1 hc).2).2.2; show x.a < 18446744073709551616; omega)
  (fun x hc => (of_decide_eq_true (Bool.and_eq_true_iff.1 hc).1).2)
  (fun x k a hc hk hI hs => by
    show (nxI x.nm x.nw x.w k a).1.n ≤ _
    unfold nxI
    cases x.nw
    · show a.1.n ≤ _; omega
    · show a.1.n + 1 ≤ _; omega)
  (fun q ⟨n, m, len, j, a, la, k, o, M, B, w, a2, b2, s, x1, x2, x3, x4, nw, x6, l, nm, nu⟩ i t hc hi hI R K => by
    obtain ⟨h3, h4, h5⟩ := z3_iff.1 (Bool.and_eq_true_iff.1 hc).2
    replace hi : i < a := hi
    dsimp only at h3 h4 h5
    refine (r14i R K q t.1.n m len j a a i t.1 t.2 B w a2 b2 s x1 x2 x3 x4 nw x6 l nm nu).trans ?_
    rw [gd i a hi, ltd i a hi, wsn (by omega), Int.toNat_natCast, Nat.zero_add]
    rw [show decide (t.1.n + (winOf (((Row.zeros 1).setS 0 0 (nm.S i 0)).setI 0 1 w) 0 1).n ≤ 10000000000) = true from decide_eq_true (show t.1.n + 1 ≤ 10000000000 by omega)]
    cases nw
    · rfl
    · rfl)
  (fun q ⟨n, m, len, j, a, la, k, o, M, B, w, a2, b2, s, x1, x2, x3, x4, nw, x6, l, nm, nu⟩ t hc hI R K => by
    refine (r14i R K q t.1.n m len j a a a t.1 t.2 B w a2 b2 s x1 x2 x3 x4 nw x6 l nm nu).trans ?_
    rw [ltn a]
    rfl)
theorem lb_valid {l : Row} {i : Nat} (h : okL l = true) (hi : i < l.n) : lnB l i = true := (okL_iff.1 h).2 i hi
theorem lb_names {l : Row} {i : Nat} (h : okL l = true) (hi : i < l.n) : (l.R i 1).n ≤ 1000000 := by
  have := lb_valid h hi
  unfold lnB at this
  exact (smN_iff.1 (Bool.and_eq_true_iff.1 this).1).1
theorem nxM_1 (l : Row) (j : Nat) (a : Row × (ByteArray → Int)) : (nxM l j a).1 = nxK l j a.1 := by
  unfold nxM nxK
  cases newB (l.I j 0) <;> rfl
theorem stK_va {l : Row} {j : Nat} {o : Row} (h : stK l j o = false) : vaL l j = true := by
  unfold stK at h
  cases hv : vaL l j
  · rw [hv] at h; cases h
  · rfl
theorem InvK.nx {l : Row} {j : Nat} {o : Row} (h : InvK j o) (hs : stK l j o = false) : InvK (j + 1) (nxK l j o) := by
  have hv := va_word (stK_va hs)
  unfold nxK
  cases newB (l.I j 0)
  · exact h.next
  · exact h.push _ hv.1.1
theorem InvM.nx {l : Row} {j : Nat} {a : Row × (ByteArray → Int)} (h : ∀ s, a.2 s = wdI a.1 s) (hs : stK l j a.1 = false) (s : ByteArray) : (nxM l j a).2 s = wdI (nxM l j a).1 s := by
  have hv := stK_va hs
  unfold stK at hs
  rw [hv] at hs
  unfold nxM
  cases hn : newB (l.I j 0)
  · exact h s
  · rw [hn] at hs
    have hf : fdI a.1 ((l.R j 1).S 0 0) < 0 := by
      cases hd : decide (fdI a.1 ((l.R j 1).S 0 0) < 0)
      · rw [hd] at hs; cases hs
      · exact of_decide_eq_true hd
    show updI a.2 _ _ s = wdI (pushN a.1 _ _) s
    rw [wd_push _ hf, show a.2 = wdI a.1 from funext h]
theorem ok14 : LoopOk C14 l14.C := l14.ok (fun _ j a => InvK j a.1 ∧ ∀ s, a.2 s = wdI a.1 s) (by kernel_rfl)
  (fun its x h hc => by
    replace h : d14 its = some x := h
    unfold d14 at h
    split at h
    · cases h
      have hc := Bool.and_eq_true_iff.1 hc
      obtain ⟨h1, h2, h6⟩ := of_decide_eq_true hc.1
      obtain ⟨h3, h4, h5⟩ := z3_iff.1 (Bool.and_eq_true_iff.1 (Bool.and_eq_true_iff.1 hc.2).2).1
      subst h1 h6 h3 h4
      rfl
    · cases h)
  (fun ⟨n, m, len, j, o, M, B, l⟩ hc => by
    have hc := Bool.and_eq_true_iff.1 hc
    have h1 := (of_decide_eq_true hc.1).2.2
    have := (z3_iff.1 (Bool.and_eq_true_iff.1 (Bool.and_eq_true_iff.1 hc.2).2).1).2.2
    show l.n < 18446744073709551616; omega)
  (fun ⟨n, m, len, j, o, M, B, l⟩ hc => by
    have hc := Bool.and_eq_true_iff.1 hc
    have h1 := (of_decide_eq_true hc.1).2.1
    have h2 := zM_iff.1 (Bool.and_eq_true_iff.1 hc.2).1
    refine ⟨⟨by show o.n ≤ 0; omega, fun i hi => by have hi : i < o.n := hi; omega⟩, fun s => ?_⟩
    show M s = wdI o s
    rw [h2 s, (fd_no (o := o) (s := s) (fun i hi => by omega)).2])
  (fun ⟨n, m, len, j, o, M, B, l⟩ i a hc hi hI hs => by
    refine ⟨?_, InvM.nx hI.2 hs⟩
    show InvK (i + 1) (nxM l i a).1
    rw [nxM_1]
    exact hI.1.nx hs)
  (fun q ⟨n, m, len, j, o, M, B, l⟩ i a hc hi hI R K => by
    have hc := Bool.and_eq_true_iff.1 hc
    have h1 := (of_decide_eq_true hc.1).2.2
    have h2 := Bool.and_eq_true_iff.1 (Bool.and_eq_true_iff.1 hc.2).2
    have h3 := (z3_iff.1 h2.1).2.2
    have h4 := h2.2
    replace hi : i < l.n := hi
    refine (r14 R K q a.1.n l.n l.n i a.1 l a.2 B).trans ?_
    rw [gd i l.n hi, ltd i l.n hi, wsn (by omega), Int.toNat_natCast, Nat.zero_add, lb_valid h4 hi]
    show br (!vaL l i) _ _ = br (stK l i a.1) (l14.Kb (n, m, len, j, o, M, B, l) i a K) (R (Go.Ev.bst p14 (l14.S (n, m, len, j, o, M, B, l) (i + 1) (nxM l i a))))
    unfold stK
    show _ = br _ (K .ret ⟨us 2 ++ [.slice none (0) (0), i64 (erK l i), .slice (some ⟨0, 0, some 0⟩) (a.1.n) (0)] ++ us 58, [[]], [some (.row [.str, .int .u8] true (a.1))]⟩) _
    unfold erK
    cases hv : vaL l i
    · rfl
    · obtain ⟨hw, hn1⟩ := va_word hv
      obtain ⟨w0, w1, w2, w3, w4, w5, w6, _⟩ := Wt_has hw.1 hw.2
      have ew : IntKind.u8.wrap (l.I i 0 - 1) = l.I i 0 - 1 := wrap_id (by simp [Lit.wf, IntKind.min, IntKind.max, IntKind.signed, IntKind.bits]; omega)
      rw [ew, decide_eq_true (show 0 ≤ l.I i 0 - 1 by omega), decide_eq_true (show l.I i 0 - 1 < (Wt.n : Int) by omega), Nat.zero_add, w5, decide_eq_true (show a.1.n = a.1.n ∧ a.1.n ≤ 1000000 from ⟨rfl, by have := hI.1.1; omega⟩), z3_iff.2 ⟨rfl, rfl, lb_names h4 hi⟩]
      cases hn : newB (l.I i 0)
      · obtain ⟨e1, e2⟩ := in_old (l.R i 1) (Wt.I (l.I i 0 - 1).toNat 6) (l.I i 0) a.1 a.2
        rw [e1, e2, w6 hn]
        rw [show anyF (badK l a.1 i) (l.R i 1).n 0 = anyF (fun k => a.2 ((l.R i 1).S k 0) != neeI (l.I i 0)) (l.R i 1).n 0 from congrArg (fun f => anyF f (l.R i 1).n 0) (funext fun k => by unfold badK; rw [mis_M (j := i) _ (nee_pos _), hI.2])]
        unfold nxM
        rw [hn]
        rfl
      · rw [in_new (hn1 hn), ← new_M hI.1, ← hI.2]
        unfold nxM
        rw [hn]
        cases (a.2 ((l.R i 1).S 0 0) != 0) <;> rfl)
  (fun q ⟨n, m, len, j, o, M, B, l⟩ a hc hI R K => by
    refine (r14 R K q a.1.n l.n l.n l.n a.1 l a.2 B).trans ?_
    rw [ltn l.n]
    rfl)
theorem ok15i : LoopOk C15 l15i.C := l15i.ok (by kernel_rfl)
  (fun its x h hc => by
    replace h : d15i its = some x := h
    unfold d15i at h
    split at h
    · cases h
      rename_i m n j k l o
      have hc := Bool.and_eq_true_iff.1 hc
      obtain ⟨h1, h2⟩ := of_decide_eq_true hc.1
      have hc2 := Bool.and_eq_true_iff.1 hc.2
      obtain ⟨h3, h4⟩ := z2_iff.1 hc2.2
      subst h3
      rfl
    · cases h)
  (fun ⟨m, n, j, k, l, o⟩ hc => by
    have hc := Bool.and_eq_true_iff.1 hc
    have := (z2_iff.1 (Bool.and_eq_true_iff.1 hc.2).2).2
    show (l.R j.toNat 1).n < 18446744073709551616; omega)
  (fun q ⟨m, n, j, k, l, o⟩ i hc hi R K => by
    have hc := Bool.and_eq_true_iff.1 hc
    obtain ⟨h1, h2⟩ := of_decide_eq_true hc.1
    have hc2 := Bool.and_eq_true_iff.1 hc.2
    have h3 := of_decide_eq_true hc2.1
    obtain ⟨h4, h5⟩ := z2_iff.1 hc2.2
    replace hi : i < (l.R j.toNat 1).n := hi
    subst h1
    refine (r15i R K q o.n m j i l o).trans ?_
    rw [Nat.zero_add, Int.toNat_natCast, Nat.zero_add, Nat.zero_add, gd i _ hi, ltd i _ hi, wsn (by omega)]
    rw [show (decide (0 ≤ j) && decide (j < (m : Int))) = true by simp only [Bool.and_eq_true, decide_eq_true_eq]; exact h3]
    rw [decide_eq_true (show (winOf o 0 o.n).n ≤ 1000000 from h2)]
    show _ = br (misB o ((l.R j.toNat 1).S i 0) (neeI (l.I j.toNat 0))) _ _
    unfold misB
    show br true (br true (br true (br true (br true (br (decide (fdI o ((l.R j.toNat 1).S i 0) < 0)) _ (br (decide (0 ≤ fdI o ((l.R j.toNat 1).S i 0)) && decide (fdI o ((l.R j.toNat 1).S i 0) < (o.n : Int))) (br true (br (o.I (fdI o ((l.R j.toNat 1).S i 0)).toNat 1 != neeI (l.I j.toNat 0)) _ _) none) none)) _) _) _) _) _ = _
    rcases fd_char o ((l.R j.toNat 1).S i 0) with ⟨k, k1, k2, k3, k4, k5⟩ | ⟨k, k1, k2⟩
    · rw [k4, decide_eq_false (show ¬ ((k : Nat) : Int) < 0 by omega), decide_eq_true (show (0 : Int) ≤ ((k : Nat) : Int) by omega), decide_eq_true (show ((k : Nat) : Int) < (o.n : Int) by omega), Bool.false_or]
      rfl
    · rw [k1]; rfl)
  (fun q ⟨m, n, j, k, l, o⟩ hc R K => by
    have hc := Bool.and_eq_true_iff.1 hc
    have hc2 := Bool.and_eq_true_iff.1 hc.2
    have h3 := of_decide_eq_true hc2.1
    refine (r15i R K q n m j (l.R j.toNat 1).n l o).trans ?_
    rw [Nat.zero_add, show (decide (0 ≤ j) && decide (j < (m : Int))) = true by simp only [Bool.and_eq_true, decide_eq_true_eq]; exact h3, ltn]
    rfl)
theorem ok15 : LoopOk C15 l15.C := l15.ok (fun _ j a => InvK j a) (by kernel_rfl)
  (fun its x h hc => by
    replace h : d15 its = some x := h
    unfold d15 at h
    split at h
    · cases h
      have hc := Bool.and_eq_true_iff.1 hc
      obtain ⟨h1, h2, h6⟩ := of_decide_eq_true hc.1
      obtain ⟨h3, h4⟩ := z2_iff.1 (Bool.and_eq_true_iff.1 hc.2).1
      subst h1 h6 h3
      rfl
    · cases h)
  (fun ⟨m, n, j, l, o⟩ hc => by
    have hc := Bool.and_eq_true_iff.1 hc
    have h1 := (of_decide_eq_true hc.1).2.2
    have := (z2_iff.1 (Bool.and_eq_true_iff.1 hc.2).1).2
    show l.n < 18446744073709551616; omega)
  (fun ⟨m, n, j, l, o⟩ hc => by
    have hc := Bool.and_eq_true_iff.1 hc
    have h1 := (of_decide_eq_true hc.1).2.1
    exact ⟨by show o.n ≤ 0; omega, fun i hi => by have hi : i < o.n := hi; omega⟩)
  (fun ⟨m, n, j, l, o⟩ i a hc hi hI hs => hI.nx hs)
  (fun q ⟨m, n, j, l, o⟩ i a hc hi hI R K => by
    have hc := Bool.and_eq_true_iff.1 hc
    have h1 := (of_decide_eq_true hc.1).2.2
    have h2 := Bool.and_eq_true_iff.1 hc.2
    have h3 := (z2_iff.1 h2.1).2
    have h4 := h2.2
    replace hi : i < l.n := hi
    have ha := hI.1
    refine (r15 R K q a.n l.n i l a).trans ?_
    rw [gd i l.n hi, ltd i l.n hi, wsn (by omega), Int.toNat_natCast, Nat.zero_add]
    rw [show (smN (winOf (l.R i 1) 0 (l.R i 1).n) (winOf (l.R i 1) 0 (l.R i 1).n).n && decide ((winOf (l.R i (0 + 1 + 1)) 0 (l.R i (0 + 1 + 1)).n).n ≤ 1000000)) = true from lb_valid h4 hi]
    rw [decide_eq_true (show (winOf a 0 a.n).n ≤ 1000000 from (by show a.n ≤ 1000000; omega)), decide_eq_true (show a.n + (winOf (((Row.zeros 1).setS 0 0 ((l.R i 1).S (0 + 0) 0)).setI 0 1 (l.I i 0)) 0 1).n ≤ 10000000000 from (by show a.n + 1 ≤ 10000000000; omega)), decide_eq_true (show a.n = a.n ∧ a.n ≤ 1000000 from ⟨rfl, by omega⟩), decide_eq_true (show 0 ≤ (i : Int) ∧ (i : Int) < (l.n : Int) by omega), z2_iff.2 ⟨rfl, lb_names h4 hi⟩]
    show br true (br true (br true (br (!vaL l i) _ _) _) _) _ = br (stK l i a) (K .ret ⟨us 2 ++ [.slice none (0) (0), i64 (erK l i), .slice (some ⟨0, 0, some 0⟩) (a.n) (0)] ++ us 84, [[]], [some (.row [.str, .int .u8] true (a))]⟩) (R (Go.Ev.bst p15 (l15.S (m, n, j, l, o) (i + 1) (nxK l i a))))
    unfold stK erK nxK
    cases hv : vaL l i
    · rfl
    · obtain ⟨hw, hn1⟩ := va_word hv
      cases hn : newB (l.I i 0)
      · rfl
      · have h1n := hn1 hn
        rw [decide_eq_true (show (0 : Int) < ((l.R i 1).n : Int) by omega)]
        by_cases hf : fdI a ((l.R i 1).S 0 0) < 0
        · rw [decide_eq_true hf]
          show br true (br true (br true (br (decide (fdI a ((l.R i 1).S 0 0) ≥ 0)) _ _) _) _) _ = _
          rw [decide_eq_false (show ¬ fdI a ((l.R i 1).S 0 0) ≥ 0 by omega)]
          rfl
        · rw [decide_eq_false hf]
          show br true (br true (br true (br (decide (fdI a ((l.R i 1).S 0 0) ≥ 0)) _ _) _) _) _ = _
          rw [decide_eq_true (show fdI a ((l.R i 1).S 0 0) ≥ 0 by omega)]
          rfl)
  (fun q ⟨m, n, j, l, o⟩ a hc hI R K => by
    refine (r15 R K q a.n l.n l.n l a).trans ?_
    rw [ltn l.n]
    rfl)
theorem C14_ok : CxOk C14 := mkCx_ok enter mixed (fun p h => by
  simp only [List.mem_cons, List.not_mem_nil, or_false] at h
  rcases h with rfl | rfl
  · exact den_valid
  · exact den_words) (fun l h => by
  simp only [List.mem_cons, List.not_mem_nil, or_false] at h
  rcases h with rfl | rfl
  · exact ok14
  · exact ok14i)
theorem C15_ok : CxOk C15 := mkCx_ok enter mixed (fun p h => by
  simp only [List.mem_cons, List.not_mem_nil, or_false] at h
  rcases h with rfl | rfl | rfl | rfl
  · exact den_Valid
  · exact den_new
  · exact den_find
  · exact den_needs) (fun l h => by
  simp only [List.mem_cons, List.not_mem_nil, or_false] at h
  rcases h with rfl | rfl
  · exact ok15
  · exact ok15i)
/-- The names that become known, and the error. -/
def knO (l : Row) : Row := bif (knR l).1 then .nil else winOf (knR l).2.2 0 (knR l).2.2.n
def knE (l : Row) : Int := bif (knR l).1 then erK l (knR l).2.1 else 0
def Fkn (l : Row) : List D := [.slice [.str, .int .u8] (knO l), .v (i64 (knE l))]
/-- The program's: with the bound on the lines. -/
def naO (l : Row) : Row := bif decide (l.n > 200) then .nil else knO l
def naE (l : Row) : Int := bif decide (l.n > 200) then 4 else knE l
def Fknown : List D → Option (Bool × List D)
  | [.slice [.int .u8, .slice [.str], .slice [.int .i64]] l] => some (decide (l.n > 200) || okL l, [.slice [.str, .int .u8] (naO l), .v (i64 (naE l))])
  | _ => none
def FKnown : List D → Option (Bool × List D)
  | [.slice [.int .u8, .slice [.str], .slice [.int .i64]] l] => some (okL l, [.slice [.str, .int .u8] (knO l), .v (i64 (knE l))])
  | _ => none
theorem run_M (l : Row) : ∀ (m j : Nat) (a : Row × (ByteArray → Int)), (runS (fun i (a : Row × (ByteArray → Int)) => stK l i a.1) (nxM l) m j a).1 = (runS (stK l) (nxK l) m j a.1).1 ∧ (runS (fun i (a : Row × (ByteArray → Int)) => stK l i a.1) (nxM l) m j a).2.1 = (runS (stK l) (nxK l) m j a.1).2.1 ∧ (runS (fun i (a : Row × (ByteArray → Int)) => stK l i a.1) (nxM l) m j a).2.2.1 = (runS (stK l) (nxK l) m j a.1).2.2
  | 0, j, a => ⟨rfl, rfl, rfl⟩
  | m + 1, j, a => by
    cases h : stK l j a.1
    · rw [runS_s (stop := stK l) h, runS_s (stop := fun i (a : Row × (ByteArray → Int)) => stK l i a.1) h, ← nxM_1]
      exact run_M l m (j + 1) _
    · rw [runS_t (stop := stK l) h, runS_t (stop := fun i (a : Row × (ByteArray → Int)) => stK l i a.1) h]
      exact ⟨rfl, rfl, rfl⟩
theorem den_Known : Den Try.prog 15 FKnown := evF_den C15_ok fun ds rs h => by
  unfold FKnown at h
  split at h
  · rename_i l
    simp only [Option.some.injEq, Prod.mk.injEq] at h
    obtain ⟨h0, rfl⟩ := h
    refine (t15 l).trans ?_
    rw [decide_eq_true (show 0 = Row.nil.n ∧ Row.nil.n = 0 ∧ l.n = l.n from ⟨rfl, rfl, rfl⟩), z2_iff.2 ⟨rfl, (okL_iff.1 h0).1⟩, h0]
    unfold knO knE
    show br (knR l).1 (some [D.slice [.str, .int .u8] (Row.nil), D.v (i64 (erK l (knR l).2.1))]) (some [D.slice [.str, .int .u8] (winOf (knR l).2.2 0 (knR l).2.2.n), D.v (i64 (0))]) = _
    cases (knR l).1 <;> rfl
  · cases h
theorem den_known : Den Try.prog 14 Fknown := evF_den C14_ok fun ds rs h => by
  unfold Fknown at h
  split at h
  · rename_i l
    simp only [Option.some.injEq, Prod.mk.injEq] at h
    obtain ⟨h0, rfl⟩ := h
    refine (t14 l).trans ?_
    unfold naO naE
    by_cases hl : l.n > 200
    · rw [decide_eq_true hl, decide_eq_true (show (l.n : Int) > 200 by omega)]; rfl
    · rw [decide_eq_false hl, Bool.false_or] at h0
      rw [decide_eq_false hl, decide_eq_false (show ¬ (l.n : Int) > 200 by omega)]
      rw [decide_eq_true (show 0 = Row.nil.n ∧ Row.nil.n = 0 ∧ l.n = l.n from ⟨rfl, rfl, rfl⟩), z3_iff.2 ⟨rfl, rfl, (okL_iff.1 h0).1⟩, h0, zM_iff.2 (fun _ => rfl)]
      unfold knO knE
      obtain ⟨e1, e2, e3⟩ := run_M l l.n 0 (.nil, fun _ => 0)
      show br (runS (fun i (a : Row × (ByteArray → Int)) => stK l i a.1) (nxM l) l.n 0 (.nil, fun _ => 0)).1 (some [D.slice [.str, .int .u8] (Row.nil), D.v (i64 (erK l (runS (fun i (a : Row × (ByteArray → Int)) => stK l i a.1) (nxM l) l.n 0 (.nil, fun _ => 0)).2.1))]) (some [D.slice [.str, .int .u8] (winOf (runS (fun i (a : Row × (ByteArray → Int)) => stK l i a.1) (nxM l) l.n 0 (.nil, fun _ => 0)).2.2.1 0 (runS (fun i (a : Row × (ByteArray → Int)) => stK l i a.1) (nxM l) l.n 0 (.nil, fun _ => 0)).2.2.1.n), D.v (i64 (0))]) = _
      rw [e1, e2, e3]
      show br (knR l).1 (some [D.slice [.str, .int .u8] (Row.nil), D.v (i64 (erK l (knR l).2.1))]) (some [D.slice [.str, .int .u8] (winOf (knR l).2.2 0 (knR l).2.2.n), D.v (i64 (0))]) = _
      cases (knR l).1 <;> rfl
  · cases h
end Go.Proofs.Ytopdfmhlgkbaaaa

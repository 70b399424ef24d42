/- The reference's Text and Parse: loops and trees. No conditions. -/
import Derived.Test.YtopdfmhlgkbaaaaDoorT41
namespace Go.Proofs.YtopdfmhlgkbaaaaDoor
open Go.Ev Go.RowKit Go.Lib Go.Dec
set_option linter.all false
def sNl : ByteArray := ⟨⟨[10]⟩⟩
def pT : PSt := { τ := [.v (.sl 0)] ++ pu 4 ++ [.v (.str), .v (.int .i64)] ++ pu 23, saved := [[]], mem := [.row ksL false] }
structure AT where
  n : Nat
  a : ByteArray
  i : Int
  l : Row
def dT (its : List It) : Option AT := match its with | [.n n, .s a, .i i, .r l] => some ⟨n, a, i, l⟩ | _ => none
def cT (x : AT) : Bool := decide (x.i = 0 ∧ x.a.size = 0 ∧ x.n = x.l.n ∧ x.n ≤ 200) && !anyF (fun i => !vaL x.l i) x.n 0
theorem cT_iff {x : AT} : cT x = true ↔ (x.i = 0 ∧ x.a.size = 0 ∧ x.n = x.l.n ∧ x.n ≤ 200) ∧ ∀ i, i < x.n → vaL x.l i = true := by
  unfold cT
  simp only [Bool.and_eq_true, decide_eq_true_eq, Bool.not_eq_true', anyF_false, Nat.zero_add, Nat.zero_le, forall_const, Bool.not_eq_false']
def nxT (l : Row) (i : Nat) (a : ByteArray) : ByteArray := (a ++ txt (wrL (l.I i 0) (l.R i 1) (l.R i 2))) ++ sNl
def lT : FoldL AT ByteArray where
  f := 10
  id := 6
  lv := [0, 5, 6]
  lx := [2, 3, 5]
  p := pT
  dat := dT
  S := fun x i a => [.n x.n, .s a, .i i, .r x.l]
  len := fun x => x.n
  cnd := cT
  ini := fun x => x.a
  nx := fun x => nxT x.l
  Ke := fun x a K => K (.exit 0) ⟨us 5 ++ [.string a] ++ us 24, [[]], []⟩
noncomputable def CTx : Cx := mkCx Tryd.prog fns [(28, Fcheck), (29, Fwrite)] [lT.C]
theorem rT (R : St → Option (List D)) (K : X → St → Option (List D)) (q n : Nat) (a : ByteArray) (i : Int) (l : Row) : bodyOf CTx 10 6 q (Go.Ev.bst pT [.n n, .s a, .i i, .r l]) (rnd [0, 5, 6] (some [2, 3, 5]) R K) =
    br (decide (i < (↑n : Int))) (br (decide (0 ≤ i) && decide (i < (↑n : Int))) (br (decide (1 ≤ l.I (0 + i.toNat) 0 ∧ l.I (0 + i.toNat) 0 ≤ 10) && wsB (winOf (l.R (0 + i.toNat) 1) 0 (l.R (0 + i.toNat) 1).n) (winOf (l.R (0 + i.toNat) 2) 0 (l.R (0 + i.toNat) 2).n)) (br (decide ((↑(a.size + (txt (wrL (l.I (0 + i.toNat) 0) (winOf (l.R (0 + i.toNat) 1) 0 (l.R (0 + i.toNat) 1).n) (winOf (l.R (0 + i.toNat) (0 + 1 + 1)) 0 (l.R (0 + i.toNat) (0 + 1 + 1)).n))).size) : Int) > IntKind.i64.max)) (none) (br (decide ((↑((a ++ txt (wrL (l.I (0 + i.toNat) 0) (winOf (l.R (0 + i.toNat) 1) 0 (l.R (0 + i.toNat) 1).n) (winOf (l.R (0 + i.toNat) (0 + 1 + 1)) 0 (l.R (0 + i.toNat) (0 + 1 + 1)).n))).size + { data := #[10] : ByteArray }.size) : Int) > IntKind.i64.max)) (none) (R ⟨[.slice (some ⟨0, 0, some 0⟩) (n) (0)] ++ us 4 ++ [.string (a ++ txt (wrL (l.I (0 + i.toNat) 0) (winOf (l.R (0 + i.toNat) 1) 0 (l.R (0 + i.toNat) 1).n) (winOf (l.R (0 + i.toNat) 2) 0 (l.R (0 + i.toNat) 2).n)) ++ { data := { toList := [10] : Array UInt8 } : ByteArray }), i64 (IntKind.i64.wrap (i + 1))] ++ us 23, [[]], [some (.row [.int .u8, .slice [.str], .slice [.int .i64]] false (l))]⟩))) (none)) (none)) (K (.exit 0) ⟨us 5 ++ [.string (a)] ++ us 24, [[]], []⟩) := by kernel_rfl
def tqL (l : Row) : ByteArray := fldN (nxT l) l.n 0 ⟨⟨[]⟩⟩
theorem uT (l : Row) : evF CTx 6 10 [.slice ksL l] =
    br (decide ((wiR l).n > 200) || okL (wiR l)) (br (naE (wiR l) != 0) (some [.v (.string ⟨⟨[]⟩⟩), .v (i64 (naE (wiR l)))]) (br (cT ⟨l.n, ⟨⟨[]⟩⟩, 0, l⟩) (br (decide (((tqL l).size : Int) > 20000)) (some [.v (.string ⟨⟨[]⟩⟩), .v (i64 4)]) (some [.v (.string (tqL l)), .v (i64 0)])) none)) none := by kernel_rfl
def pP : PSt := { τ := pu 4 ++ [.v (.sl 0), .v (.sl 1), .v (.int .i64)] ++ pu 47, saved := [[]], mem := [.deep ksL, .row [.str] true] }
structure AP where
  n : Nat
  m : Nat
  i : Int
  o : Row
  t : Row
def dP (its : List It) : Option AP := match its with | [.n n, .n m, .i i, .r o, .r t] => some ⟨n, m, i, o, t⟩ | _ => none
def cP (x : AP) : Bool := decide (x.i = 0 ∧ x.o.n = 0 ∧ x.n = 0 ∧ x.m ≤ 1000000) && !anyF (fun i => decide (1000000 < (x.t.S i 0).size)) x.m 0
theorem cP_iff {x : AP} : cP x = true ↔ (x.i = 0 ∧ x.o.n = 0 ∧ x.n = 0 ∧ x.m ≤ 1000000) ∧ ∀ i, i < x.m → (x.t.S i 0).size ≤ 1000000 := by
  unfold cP
  simp only [Bool.and_eq_true, decide_eq_true_eq, Bool.not_eq_true', anyF_false, Nat.zero_add, Nat.zero_le, forall_const, decide_eq_false_iff_not, Nat.not_lt]
def lnQ (s : ByteArray) : Row := lnR (rqW s) (winOf (rqN s) 0 (rqN s).n) (winOf (rqU s) 0 (rqU s).n)
def stQ (t : Row) (i : Nat) (_ : Row) : Bool := !rqB (t.S i 0)
def nxQ (t : Row) (i : Nat) (o : Row) : Row := pushL o (lnQ (t.S i 0))
def lP : RunL AP Row where
  f := 12
  id := 10
  lv := [4, 5, 6, 2062936850004]
  lx := [2, 3, 4]
  p := pP
  dat := dP
  S := fun x i o => [.n o.n, .n x.m, .i i, .r o, .r x.t]
  len := fun x => x.m
  cnd := cP
  ini := fun x => x.o
  stop := fun x => stQ x.t
  nx := fun x => nxQ x.t
  Kb := fun _ _ o K => K .ret ⟨us 2 ++ [.slice none 0 0, i64 12, .slice (some ⟨0, 0, some 0⟩) (o.n) (0)] ++ us 49, [[]], [some (.deep ksL o none)]⟩
  Ke := fun _ o K => K (.exit 0) ⟨us 4 ++ [.slice (some ⟨0, 0, some 0⟩) (o.n) (0)] ++ us 49, [[]], [some (.deep ksL o none)]⟩
noncomputable def CPx : Cx := mkCx Tryd.prog fns [(32, FcutR), (33, FRead), (28, Fcheck)] [lP.C]
theorem rP (R : St → Option (List D)) (K : X → St → Option (List D)) (q n m : Nat) (i : Int) (o t : Row) : bodyOf CPx 12 10 q (Go.Ev.bst pP [.n n, .n m, .i i, .r o, .r t]) (rnd [4, 5, 6, 2062936850004] (some [2, 3, 4]) R K) =
    br (decide (i < (↑m : Int))) (br (decide (0 ≤ i) && decide (i < (↑m : Int))) (br (decide ((t.S (0 + i.toNat) 0).size ≤ 1000000)) (br (!rqB (t.S (0 + i.toNat) 0)) (K .ret ⟨us 2 ++ [.slice none (0) (0), i64 (12), .slice (some ⟨0, 0, some 0⟩) (n) (0)] ++ us 49, [[]], [some (.deep [.int .u8, .slice [.str], .slice [.int .i64]] (o) none)]⟩) (br (decide (n + 1 ≤ 10000000000)) (R ⟨us 4 ++ [.slice (some ⟨0, 0, some 0⟩) (n + 1) (0), .slice (some ⟨1, 0, some 0⟩) (m) (0), i64 (IntKind.i64.wrap (i + 1))] ++ us 47, [[]], [some (.deep [.int .u8, .slice [.str], .slice [.int .i64]] ((winOf o 0 n).app (winOf ((((Row.zeros 1).setI 0 0 (rqW (t.S (0 + i.toNat) 0))).setR 0 1 (winOf (rqN (t.S (0 + i.toNat) 0)) 0 (rqN (t.S (0 + i.toNat) 0)).n)).setR 0 2 (winOf (rqU (t.S (0 + i.toNat) 0)) 0 (rqU (t.S (0 + i.toNat) 0)).n)) 0 1)) none), some (.row [.str] true (t))]⟩) (none))) (none)) (none)) (K (.exit 0) ⟨us 4 ++ [.slice (some ⟨0, 0, some 0⟩) (n) (0)] ++ us 49, [[]], [some (.deep [.int .u8, .slice [.str], .slice [.int .i64]] (o) none)]⟩) := by kernel_rfl
def pqC (s : ByteArray) : Row := cutR (s.extract 0 (IntKind.i64.wrap ((s.size : Int) - 1)).toNat) 10
def pqR (s : ByteArray) : Bool × Nat × Row := runS (stQ (pqC s)) (nxQ (pqC s)) (pqC s).n 0 .nil
def pqL (s : ByteArray) : Row := winOf (pqR s).2.2 0 (pqR s).2.2.n
theorem uP (s : ByteArray) : evF CPx 6 12 [.v (.string s)] =
    br (decide ((s.size : Int) > 20000)) (some [.slice ksL .nil, .v (i64 4)]) (br ((s.size : Int) == 0) (some [.slice ksL .nil, .v (i64 0)]) (br (decide (0 ≤ IntKind.i64.wrap ((s.size : Int) - 1)) && decide (IntKind.i64.wrap ((s.size : Int) - 1) < (s.size : Int))) (br ((((s.data.getD (IntKind.i64.wrap ((s.size : Int) - 1)).toNat 0).toNat : Nat) : Int) != 10) (some [.slice ksL .nil, .v (i64 12)])
      (br (decide (0 ≤ IntKind.i64.wrap ((s.size : Int) - 1)) && decide (IntKind.i64.wrap ((s.size : Int) - 1) ≤ (s.size : Int))) (br (decide ((s.extract 0 (IntKind.i64.wrap ((s.size : Int) - 1)).toNat).size ≤ 1000000)) (br (cP ⟨0, (pqC s).n, 0, .nil, pqC s⟩) (br (pqR s).1 (some [.slice ksL .nil, .v (i64 12)]) (br (decide ((pqL s).n > 200) || okL (pqL s)) (br (naE (pqL s) != 0) (some [.slice ksL .nil, .v (i64 (naE (pqL s)))]) (some [.slice ksL (pqL s), .v (i64 0)])) none)) none) none) none)) none)) := by kernel_rfl
end Go.Proofs.YtopdfmhlgkbaaaaDoor

/- ScriptNames: the tree. No conditions. -/
import Derived.Test.YtopdfmhlgkbaaaaDoorT50
import Derived.Test.YtopdfmhlgkbaaaaDoorT45
import Derived.Test.YtopdfmhlgkbaaaaDoorT35
namespace Go.Proofs.YtopdfmhlgkbaaaaDoor
open Go.Ev Go.RowKit Go.Lib Go.Dec
set_option linter.all false
def Fcn (c : Row → Bool) (e : Row → Int) : List D → Option (Bool × List D)
  | [.slice [.int .u8, .slice [.str], .slice [.int .i64]] l] => some (c l, [.v (i64 (e l))])
  | _ => none
def pN : PSt := { τ := pu 1 ++ [.v (.sl 0), .v (.int .i64), .v (.str), .v (.int .i64)] ++ pu 1 ++ [.v (.bool), .v (.bool)] ++ pu 1 ++ [.v (.int .i64)] ++ pu 1 ++ [.v (.int .i64)] ++ pu 1 ++ [.v (.int .i64), .v (.sl 1), .v (.int .i64)] ++ pu 1 ++ [.v (.int .i64), .v (.str), .v (.int .i64), .v (.sl 2), .v (.str), .v (.int .i64)] ++ pu 283, saved := [[]], mem := [.deep ksL, .deep ksL, .deep ksL] }
structure AN where
  n : Nat
  e2 : Int
  s3 : ByteArray
  e4 : Int
  b6 : Bool
  b7 : Bool
  e9 : Int
  e11 : Int
  e13 : Int
  m : Nat
  e15 : Int
  e17 : Int
  s18 : ByteArray
  e19 : Int
  k : Nat
  a : ByteArray
  i : Int
  l : Row
  o : Row
  y : Row
def dN (its : List It) : Option AN := match its with | [.n n, .i e2, .s s3, .i e4, .b b6, .b b7, .i e9, .i e11, .i e13, .n m, .i e15, .i e17, .s s18, .i e19, .n k, .s a, .i i, .r l, .r o, .r y] => some ⟨n, e2, s3, e4, b6, b7, e9, e11, e13, m, e15, e17, s18, e19, k, a, i, l, o, y⟩ | _ => none
def nxX (_ : Nat) (a : ByteArray) : ByteArray := a ++ ⟨#[120]⟩
def cN (x : AN) : Bool := x.i == 0 && Nat.beq x.a.size 0
def lN (L : Nat) : FoldL AN ByteArray where
  f := 6
  id := 15
  lv := [1, 2, 3, 4, 6, 7, 9, 11, 13, 14, 15, 17, 18, 19, 20, 21, 22]
  lx := [0, 1, 2, 3, 4, 6, 7, 9, 11, 13, 14, 15, 17, 18, 19, 20, 21]
  p := pN
  dat := dN
  S := fun x i a => [.n x.n, .i x.e2, .s x.s3, .i x.e4, .b x.b6, .b x.b7, .i x.e9, .i x.e11, .i x.e13, .n x.m, .i x.e15, .i x.e17, .s x.s18, .i x.e19, .n x.k, .s a, .i (i : Int), .r x.l, .r x.o, .r x.y]
  len := fun _ => L
  cnd := cN
  ini := fun x => x.a
  nx := fun _ => nxX
  Ke := fun x a K => K (.exit 0) ⟨us 1 ++ [.slice (some ⟨0, 0, some 0⟩) (x.n) (0), i64 (x.e2), .string (x.s3), i64 (x.e4)] ++ us 1 ++ [.bool (x.b6), .bool (x.b7)] ++ us 1 ++ [i64 (x.e9)] ++ us 1 ++ [i64 (x.e11)] ++ us 1 ++ [i64 (x.e13), .slice (some ⟨1, 0, some 0⟩) (x.m) (0), i64 (x.e15)] ++ us 1 ++ [i64 (x.e17), .string (x.s18), i64 (x.e19), .slice (some ⟨2, 0, some 0⟩) (x.k) (0), .string (a)] ++ us 284, [[]], [some (.deep ksL (x.l) none), some (.deep ksL (x.o) none), some (.deep ksL (x.y) none)]⟩
noncomputable def CN7 (L : Nat) (g : Row) (tc : Row → Bool) (tS : Row → ByteArray) (tE : Row → Int) (pO : ByteArray → Row) (pE : ByteArray → Int) (nc : Row → ByteArray → Bool) (nO : Row → ByteArray → ByteArray → Row) (nE : Row → ByteArray → ByteArray → Int) (sc sB : Row → Row → Bool) (cc : Row → Bool) (cE : Row → Int) : Cx := mkCx Tryd.prog fns [(14, Falive), (11, Fpq pcB pO pE), (9, Ftq tc tS tE), (20, Fline), (21, Frq pcB pqE), (23, Fgq g), (22, Fnm nc nO nE), (13, Fsq sc sB), (15, Fcn cc cE)] [(lN L).C]
theorem rNm (L : Nat) (g : Row) (tc : Row → Bool) (tS : Row → ByteArray) (tE : Row → Int) (pO : ByteArray → Row) (pE : ByteArray → Int) (nc : Row → ByteArray → Bool) (nO : Row → ByteArray → ByteArray → Row) (nE : Row → ByteArray → ByteArray → Int) (sc sB : Row → Row → Bool) (cc : Row → Bool) (cE : Row → Int) (R : St → Option (List D)) (K : X → St → Option (List D)) (q n m k : Nat) (e2 e4 e9 e11 e13 e15 e17 e19 i : Int) (s3 s18 a : ByteArray) (b6 b7 : Bool) (l o y : Row) : bodyOf (CN7 L g tc tS tE pO pE nc nO nE sc sB cc cE) 6 15 q (Go.Ev.bst pN [.n n, .i e2, .s s3, .i e4, .b b6, .b b7, .i e9, .i e11, .i e13, .n m, .i e15, .i e17, .s s18, .i e19, .n k, .s a, .i i, .r l, .r o, .r y]) (rnd [1, 2, 3, 4, 6, 7, 9, 11, 13, 14, 15, 17, 18, 19, 20, 21, 22] (some [0, 1, 2, 3, 4, 6, 7, 9, 11, 13, 14, 15, 17, 18, 19, 20, 21]) R K) =
    br (decide (i < 20001)) (br (decide ((↑(a.size + { data := #[120] : ByteArray }.size) : Int) > IntKind.i64.max)) (none) (R ⟨us 1 ++ [.slice (some ⟨0, 0, some 0⟩) (n) (0), i64 (e2), .string (s3), i64 (e4)] ++ us 1 ++ [.bool (b6), .bool (b7)] ++ us 1 ++ [i64 (e9)] ++ us 1 ++ [i64 (e11)] ++ us 1 ++ [i64 (e13), .slice (some ⟨1, 0, some 0⟩) (m) (0), i64 (e15)] ++ us 1 ++ [i64 (e17), .string (s18), i64 (e19), .slice (some ⟨2, 0, some 0⟩) (k) (0), .string (a ++ { data := { toList := [120] : Array UInt8 } : ByteArray }), i64 (IntKind.i64.wrap (i + 1))] ++ us 283, [[]], [some (.deep [.int .u8, .slice [.str], .slice [.int .i64]] (l) none), some (.deep [.int .u8, .slice [.str], .slice [.int .i64]] (o) none), some (.deep [.int .u8, .slice [.str], .slice [.int .i64]] (y) none)]⟩)) (K (.exit 0) ⟨us 1 ++ [.slice (some ⟨0, 0, some 0⟩) (n) (0), i64 (e2), .string (s3), i64 (e4)] ++ us 1 ++ [.bool (b6), .bool (b7)] ++ us 1 ++ [i64 (e9)] ++ us 1 ++ [i64 (e11)] ++ us 1 ++ [i64 (e13), .slice (some ⟨1, 0, some 0⟩) (m) (0), i64 (e15)] ++ us 1 ++ [i64 (e17), .string (s18), i64 (e19), .slice (some ⟨2, 0, some 0⟩) (k) (0), .string (a)] ++ us 284, [[]], [some (.deep [.int .u8, .slice [.str], .slice [.int .i64]] (l) none), some (.deep [.int .u8, .slice [.str], .slice [.int .i64]] (o) none), some (.deep [.int .u8, .slice [.str], .slice [.int .i64]] (y) none)]⟩) := by kernel_rfl
def fF7 : Option (List D) := some [D.v (.bool false)]
def mM : ByteArray := ⟨⟨[98, 97, 114, 103, 97, 105, 110, 32, 115, 97, 108, 101, 32, 49, 48, 48, 32, 54, 48, 32, 49, 32, 50, 32, 52, 48, 32, 56, 48, 32, 49, 32, 50, 32, 49, 48, 10, 99, 97, 115, 101, 32, 99, 49, 32, 51, 48, 32, 50, 48, 32, 49, 48, 32, 49, 32, 53, 48, 48, 48, 32, 49, 48, 48, 10, 101, 118, 101, 110, 116, 32, 99, 49, 32, 49, 32, 49, 50, 48, 32, 48, 10, 109, 97, 116, 116, 101, 114, 32, 109, 32, 50, 32, 49, 48, 32, 49, 32, 49, 48, 48, 48, 32, 48, 10, 115, 116, 101, 112, 32, 109, 32, 49, 32, 53, 32, 52, 48, 48, 10, 97, 103, 101, 110, 116, 32, 97, 32, 49, 32, 48, 32, 49, 32, 49, 10, 97, 103, 101, 110, 116, 32, 98, 45, 50, 32, 49, 32, 48, 32, 49, 32, 48, 10, 100, 105, 118, 105, 100, 101, 32, 98, 45, 50, 32, 97, 32, 49, 10, 112, 97, 114, 116, 121, 32, 102, 111, 114, 10, 112, 97, 114, 116, 121, 32, 112, 10, 115, 104, 97, 114, 101, 32, 102, 111, 114, 32, 102, 111, 114, 32, 102, 111, 114, 32, 112, 32, 49, 10, 112, 97, 121, 32, 112, 32, 102, 111, 114, 32, 45, 49, 48, 48, 48, 48, 48, 48, 48, 48, 48, 10]⟩⟩
def mZ : ByteArray := ⟨⟨[97, 103, 101, 110, 116, 32, 97, 110, 110, 32, 49, 48, 32, 48, 32, 52, 32, 49, 48, 32, 51, 32, 53, 10, 112, 97, 114, 116, 121, 32, 98, 111, 98, 10, 112, 97, 114, 116, 121, 32, 122, 101, 100, 10, 112, 97, 121, 32, 98, 111, 98, 32, 122, 101, 100, 32, 53, 48, 48, 10, 115, 104, 97, 114, 101, 32, 122, 101, 100, 32, 102, 111, 114, 32, 98, 111, 98, 32, 122, 101, 100, 32, 57, 48, 10]⟩⟩
def mX : ByteArray := ⟨⟨[88]⟩⟩
def mAnn : ByteArray := ⟨⟨[97, 110, 110]⟩⟩
def mBob : ByteArray := ⟨⟨[98, 111, 98]⟩⟩
def mZed : ByteArray := ⟨⟨[122, 101, 100]⟩⟩
def mDave : ByteArray := ⟨⟨[100, 97, 118, 101]⟩⟩
def mCarol : ByteArray := ⟨⟨[99, 97, 114, 111, 108]⟩⟩
theorem eNm (L : Nat) (g : Row) (tc : Row → Bool) (tS : Row → ByteArray) (tE : Row → Int) (pO : ByteArray → Row) (pE : ByteArray → Int) (nc : Row → ByteArray → Bool) (nO : Row → ByteArray → ByteArray → Row) (nE : Row → ByteArray → ByteArray → Int) (sc sB : Row → Row → Bool) (cc : Row → Bool) (cE : Row → Int) : evF (CN7 L g tc tS tE pO pE nc nO nE sc sB cc cE) 6 6 [] =
  (br (tc (winOf (pO mM) 0 (pO mM).n)) (br (nc (winOf g 0 g.n) mX) (br (nc (winOf g 0 g.n) mX) (br (nc (winOf g 0 g.n) mAnn) (br (nc (winOf g 0 g.n) mBob) (br (nc (winOf g 0 g.n) mZed) (br (tc (winOf ((nO (winOf g 0 g.n) mCarol mZed)) 0 ((nO (winOf g 0 g.n) mCarol mZed)).n)) (br (pE mM == 0) (br (((pO mM).n : Int) == 12) (br (tE (winOf (pO mM) 0 (pO mM).n) == 0) (br ((tS (winOf (pO mM) 0 (pO mM).n)).toList == mM.toList) (br (nE (winOf g 0 g.n) mDave mX == 6) (br (nE (winOf g 0 g.n) mBob mX == 8) (br (nE (winOf g 0 g.n) mBob mAnn == 14) (br (nE (winOf g 0 g.n) mBob mBob == 0) (br (sc (winOf ((nO (winOf g 0 g.n) mBob mBob)) 0 ((nO (winOf g 0 g.n) mBob mBob)).n) (winOf g 0 g.n)) (br (sB (winOf ((nO (winOf g 0 g.n) mBob mBob)) 0 ((nO (winOf g 0 g.n) mBob mBob)).n) (winOf g 0 g.n)) (br (nE (winOf g 0 g.n) mCarol mZed == 0) (br (tE (winOf ((nO (winOf g 0 g.n) mCarol mZed)) 0 ((nO (winOf g 0 g.n) mCarol mZed)).n) == 0) (br ((tS (winOf ((nO (winOf g 0 g.n) mCarol mZed)) 0 ((nO (winOf g 0 g.n) mCarol mZed)).n)).toList == mZ.toList) (br (cc (winOf (Row.zeros 201) 0 201)) (br (cE (winOf (Row.zeros 201) 0 201) == 4) (br (cc (winOf (Row.zeros 201) 0 200)) (br (cE (winOf (Row.zeros 201) 0 200) == 8) (br (pcB (fldN nxX L 0 ⟨⟨[]⟩⟩)) (br (pqE (fldN nxX L 0 ⟨⟨[]⟩⟩) == 4) (some [D.v (.bool true)]) fF7) none) fF7) none) fF7) none) fF7) fF7) fF7) fF7) none) fF7) fF7) fF7) fF7) fF7) fF7) fF7) fF7) none) none) none) none) none) none) none) := by kernel_rfl
end Go.Proofs.YtopdfmhlgkbaaaaDoor

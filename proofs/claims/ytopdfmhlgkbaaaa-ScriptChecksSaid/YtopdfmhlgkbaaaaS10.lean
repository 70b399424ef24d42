/- The law ScriptChecks. No conditions. -/
import Derived.Test.YtopdfmhlgkbaaaaS9
namespace Go.Proofs.Ytopdfmhlgkbaaaa
open Go.Ev Go.ChangeShapes Go.WideShapes Go.ChangeAt Go.RowKit
set_option linter.all false
def GL : List (FuncId × (List D → Option (Bool × List D))) := [(4, Fgreat), (5, Ftwin), (6, Fnames), (7, FNames), (8, Frename), (9, FRename), (10, Fcheck), (11, Fcheck), (12, FsameN), (13, FsameL)]
def p3 : PSt := { τ := [.v (.sl 0)] ++ pu 6 ++ [.v (.sl 1)] ++ pu 4 ++ [.v (.sl 2)] ++ pu 3 ++ [.v (.int .i64)] ++ pu 110, saved := [[]], mem := [.row [.int .u8, .slice [.str], .slice [.int .i64]] false, .deep [.int .u8, .slice [.str], .slice [.int .i64]], .deep [.int .u8, .slice [.str], .slice [.int .i64]]] }
def p3a : PSt := { τ := [.v (.sl 0)] ++ pu 6 ++ [.v (.sl 1)] ++ pu 4 ++ [.v (.sl 2)] ++ pu 3 ++ [.v (.int .i64), .v (.int .i64)] ++ pu 109, saved := [[]], mem := [.row [.int .u8, .slice [.str], .slice [.int .i64]] false, .deep [.int .u8, .slice [.str], .slice [.int .i64]], .deep [.int .u8, .slice [.str], .slice [.int .i64]]] }
def p3b : PSt := { τ := [.v (.sl 0)] ++ pu 6 ++ [.v (.sl 1)] ++ pu 4 ++ [.v (.sl 2)] ++ pu 3 ++ [.v (.int .i64)] ++ pu 1 ++ [.v (.int .i64)] ++ pu 108, saved := [[]], mem := [.row [.int .u8, .slice [.str], .slice [.int .i64]] false, .deep [.int .u8, .slice [.str], .slice [.int .i64]], .deep [.int .u8, .slice [.str], .slice [.int .i64]]] }
structure A3 where
  n : Nat
  m : Nat
  a : Nat
  j : Int
  k : Int
  l : Row
  t : Row
  c : Row
def d3 (its : List It) : Option A3 := match its with | [.n n, .n m, .n a, .i j, .r l, .r t, .r c] => some ⟨n, m, a, j, 0, l, t, c⟩ | _ => none
def d3i (its : List It) : Option A3 := match its with | [.n n, .n m, .n a, .i j, .i k, .r l, .r t, .r c] => some ⟨n, m, a, j, k, l, t, c⟩ | _ => none
def nx3a (i k : Nat) (c : Row) : Row := c.setR i 2 ((c.R i 2).setI k 0 7)
def nx3b (i k : Nat) (c : Row) : Row := c.setR i 1 ((c.R i 1).setS k 0 ⟨⟨[120]⟩⟩)
def c3i (x : A3) (y : Nat) : Bool := decide (0 ≤ x.j ∧ x.j < x.a) && zb (x.c.R x.j.toNat y).n x.k
theorem c3i_iff {x : A3} {y : Nat} : c3i x y = true ↔ (0 ≤ x.j ∧ x.j < x.a) ∧ x.k = 0 ∧ (x.c.R x.j.toNat y).n ≤ big := by unfold c3i; rw [Bool.and_eq_true_iff, decide_eq_true_eq, zb_iff]
def l3a : FoldL A3 Row where
  f := 3
  id := 14
  lv := [0, 7, 12, 16, 17]
  lx := [0, 6, 7, 12, 16]
  p := p3a
  dat := d3i
  S := fun x k c => [.n x.n, .n x.m, .n x.a, .i x.j, .i k, .r x.l, .r x.t, .r c]
  len := fun x => (x.c.R x.j.toNat 2).n
  cnd := fun x => c3i x 2
  ini := fun x => x.c
  nx := fun x => nx3a x.j.toNat
  Ke := fun x c K => K (.exit 2) ⟨[.slice (some ⟨0, 0, some 0⟩) (x.n) (0)] ++ us 6 ++ [.slice (some ⟨1, 0, some 0⟩) (x.m) (0)] ++ us 4 ++ [.slice (some ⟨2, 0, some 0⟩) (x.a) (0)] ++ us 3 ++ [i64 x.j] ++ us 110, [[]], [some (.row [.int .u8, .slice [.str], .slice [.int .i64]] false (x.l)), some (.deep [.int .u8, .slice [.str], .slice [.int .i64]] x.t none), some (.deep [.int .u8, .slice [.str], .slice [.int .i64]] c none)]⟩
def l3b : FoldL A3 Row where
  f := 3
  id := 18
  lv := [0, 7, 12, 16, 18]
  lx := [0, 6, 7, 12, 16]
  p := p3b
  dat := d3i
  S := fun x k c => [.n x.n, .n x.m, .n x.a, .i x.j, .i k, .r x.l, .r x.t, .r c]
  len := fun x => (x.c.R x.j.toNat 1).n
  cnd := fun x => c3i x 1
  ini := fun x => x.c
  nx := fun x => nx3b x.j.toNat
  Ke := fun x c K => K (.exit 4) ⟨[.slice (some ⟨0, 0, some 0⟩) (x.n) (0)] ++ us 6 ++ [.slice (some ⟨1, 0, some 0⟩) (x.m) (0)] ++ us 4 ++ [.slice (some ⟨2, 0, some 0⟩) (x.a) (0)] ++ us 3 ++ [i64 x.j] ++ us 110, [[]], [some (.row [.int .u8, .slice [.str], .slice [.int .i64]] false (x.l)), some (.deep [.int .u8, .slice [.str], .slice [.int .i64]] x.t none), some (.deep [.int .u8, .slice [.str], .slice [.int .i64]] c none)]⟩
def fa3 (i : Nat) (c : Row) : Row := fldN (nx3a i) (c.R i 2).n 0 c
def fb3 (i : Nat) (c : Row) : Row := fldN (nx3b i) (c.R i 1).n 0 c
def nx3 (i : Nat) (c : Row) : Row := fb3 i (fa3 i c)
def c3 (x : A3) : Bool := decide (x.j = 0 ∧ x.a = x.c.n) && bgL x.c
theorem c3_iff {x : A3} : c3 x = true ↔ (x.j = 0 ∧ x.a = x.c.n) ∧ bgL x.c = true := by unfold c3; rw [Bool.and_eq_true_iff, decide_eq_true_eq]
def l3 : FoldL A3 Row where
  f := 3
  id := 11
  lv := [0, 7, 12, 16]
  lx := [0, 6, 7]
  p := p3
  dat := d3
  S := fun x k c => [.n x.n, .n x.m, .n x.a, .i k, .r x.l, .r x.t, .r c]
  len := fun x => x.a
  cnd := fun x => c3 x
  ini := fun x => x.c
  nx := fun x => nx3
  Ke := fun x c K => K (.exit 0) ⟨[.slice (some ⟨0, 0, some 0⟩) (x.n) (0)] ++ us 6 ++ [.slice (some ⟨1, 0, some 0⟩) (x.m) (0)] ++ us 119, [[]], [some (.row [.int .u8, .slice [.str], .slice [.int .i64]] false (x.l)), some (.deep [.int .u8, .slice [.str], .slice [.int .i64]] x.t none)]⟩
noncomputable def C3 : Cx := mkCx Try.prog fns GL [l3.C, l3a.C, l3b.C]
theorem r3 (R : St → Option (List D)) (K : X → St → Option (List D)) (q n m a : Nat) (j : Int) (l t c : Row) : bodyOf C3 3 11 q (Go.Ev.bst p3 [.n n, .n m, .n a, .i j, .r l, .r t, .r c]) (rnd [0, 7, 12, 16] (some [0, 6, 7]) R K) =
    br (decide (j < (↑a : Int))) (br (c3i { n := n, m := m, a := a, j := j, k := 0, l := l, t := t, c := c : A3 } 2) (br (c3i { n := n, m := m, a := a, j := j, k := 0, l := l, t := t, c := fldN (nx3a j.toNat) (c.R j.toNat 2).n 0 c : A3 } 1) (R ⟨[.slice (some ⟨0, 0, some 0⟩) (n) (0)] ++ us 6 ++ [.slice (some ⟨1, 0, some 0⟩) (m) (0)] ++ us 4 ++ [.slice (some ⟨2, 0, some 0⟩) (a) (0)] ++ us 3 ++ [i64 (IntKind.i64.wrap (j + 1))] ++ us 110, [[]], [some (.row [.int .u8, .slice [.str], .slice [.int .i64]] false (l)), some (.deep [.int .u8, .slice [.str], .slice [.int .i64]] (t) none), some (.deep [.int .u8, .slice [.str], .slice [.int .i64]] (fldN (nx3b j.toNat) ((fldN (nx3a j.toNat) (c.R j.toNat 2).n 0 c).R j.toNat 1).n 0 (fldN (nx3a j.toNat) (c.R j.toNat 2).n 0 c)) none)]⟩) (none)) (none)) (K (.exit 0) ⟨[.slice (some ⟨0, 0, some 0⟩) (n) (0)] ++ us 6 ++ [.slice (some ⟨1, 0, some 0⟩) (m) (0)] ++ us 119, [[]], [some (.row [.int .u8, .slice [.str], .slice [.int .i64]] false (l)), some (.deep [.int .u8, .slice [.str], .slice [.int .i64]] (t) none)]⟩) := by kernel_rfl
theorem r3a (R : St → Option (List D)) (K : X → St → Option (List D)) (q n m a : Nat) (j k : Int) (l t c : Row) : bodyOf C3 3 14 q (Go.Ev.bst p3a [.n n, .n m, .n a, .i j, .i k, .r l, .r t, .r c]) (rnd [0, 7, 12, 16, 17] (some [0, 6, 7, 12, 16]) R K) =
    br (decide (0 ≤ j) && decide (j < (↑a : Int))) (br (decide (k < (↑(c.R (0 + j.toNat) 2).n : Int))) (br (decide (0 ≤ j) && decide (j < (↑a : Int))) (br (decide (0 ≤ k) && decide (k < (↑(c.R (0 + j.toNat) 2).n : Int))) (R ⟨[.slice (some ⟨0, 0, some 0⟩) (n) (0)] ++ us 6 ++ [.slice (some ⟨1, 0, some 0⟩) (m) (0)] ++ us 4 ++ [.slice (some ⟨2, 0, some 0⟩) (a) (0)] ++ us 3 ++ [i64 (j), i64 (IntKind.i64.wrap (k + 1))] ++ us 109, [[]], [some (.row [.int .u8, .slice [.str], .slice [.int .i64]] false (l)), some (.deep [.int .u8, .slice [.str], .slice [.int .i64]] (t) none), some (.deep [.int .u8, .slice [.str], .slice [.int .i64]] (c.setR (0 + j.toNat) 2 ((c.R (0 + j.toNat) 2).setI (0 + k.toNat) 0 7)) none)]⟩) (none)) (none)) (K (.exit 2) ⟨[.slice (some ⟨0, 0, some 0⟩) (n) (0)] ++ us 6 ++ [.slice (some ⟨1, 0, some 0⟩) (m) (0)] ++ us 4 ++ [.slice (some ⟨2, 0, some 0⟩) (a) (0)] ++ us 3 ++ [i64 (j)] ++ us 110, [[]], [some (.row [.int .u8, .slice [.str], .slice [.int .i64]] false (l)), some (.deep [.int .u8, .slice [.str], .slice [.int .i64]] (t) none), some (.deep [.int .u8, .slice [.str], .slice [.int .i64]] (c) none)]⟩)) (none) := by kernel_rfl
theorem r3b (R : St → Option (List D)) (K : X → St → Option (List D)) (q n m a : Nat) (j k : Int) (l t c : Row) : bodyOf C3 3 18 q (Go.Ev.bst p3b [.n n, .n m, .n a, .i j, .i k, .r l, .r t, .r c]) (rnd [0, 7, 12, 16, 18] (some [0, 6, 7, 12, 16]) R K) =
    br (decide (0 ≤ j) && decide (j < (↑a : Int))) (br (decide (k < (↑(c.R (0 + j.toNat) 1).n : Int))) (br (decide (0 ≤ j) && decide (j < (↑a : Int))) (br (decide (0 ≤ k) && decide (k < (↑(c.R (0 + j.toNat) 1).n : Int))) (R ⟨[.slice (some ⟨0, 0, some 0⟩) (n) (0)] ++ us 6 ++ [.slice (some ⟨1, 0, some 0⟩) (m) (0)] ++ us 4 ++ [.slice (some ⟨2, 0, some 0⟩) (a) (0)] ++ us 3 ++ [i64 (j)] ++ us 1 ++ [i64 (IntKind.i64.wrap (k + 1))] ++ us 108, [[]], [some (.row [.int .u8, .slice [.str], .slice [.int .i64]] false (l)), some (.deep [.int .u8, .slice [.str], .slice [.int .i64]] (t) none), some (.deep [.int .u8, .slice [.str], .slice [.int .i64]] (c.setR (0 + j.toNat) 1 ((c.R (0 + j.toNat) 1).setS (0 + k.toNat) 0 { data := { toList := [120] : Array UInt8 } : ByteArray })) none)]⟩) (none)) (none)) (K (.exit 4) ⟨[.slice (some ⟨0, 0, some 0⟩) (n) (0)] ++ us 6 ++ [.slice (some ⟨1, 0, some 0⟩) (m) (0)] ++ us 4 ++ [.slice (some ⟨2, 0, some 0⟩) (a) (0)] ++ us 3 ++ [i64 (j)] ++ us 110, [[]], [some (.row [.int .u8, .slice [.str], .slice [.int .i64]] false (l)), some (.deep [.int .u8, .slice [.str], .slice [.int .i64]] (t) none), some (.deep [.int .u8, .slice [.str], .slice [.int .i64]] (c) none)]⟩)) (none) := by kernel_rfl
def rsX (l : Row) (s t : ByteArray) : Row := bif reE l s t == 0 then rsR l s t else .nil
def rqX (l : Row) (s t : ByteArray) : Row := bif reE l s t == 0 then rqR l s t else .nil
theorem t3 (l : Row) (s t : ByteArray) : evF C3 6 3 [.slice ksL l, .v (.string s), .v (.string t)] =
    br (decide ((winOf l 0 l.n).n ≤ big)) (br (greB (winOf l 0 l.n)) (some [.v (.bool (true))]) (br (decide ((↑s.size : Int) > 100)) (some [.v (.bool (true))]) (br (decide ((↑t.size : Int) > 100)) (some [.v (.bool (true))]) (br (okL (winOf l 0 l.n)) (br (decide ((winOf l 0 l.n).n > 200) || okL (winOf l 0 l.n)) (br (decide ((winOf l 0 l.n).n > 200) || okL (winOf l 0 l.n)) (br ((decide ((winOf l 0 l.n).n > 200) || okL (winOf l 0 l.n)) && decide (t.size ≤ 1000000)) (br ((decide ((winOf l 0 l.n).n > 200) || okL (winOf l 0 l.n)) && decide (t.size ≤ 1000000)) (br (decide ((winOf l 0 l.n).n > 200) || okL (winOf l 0 l.n)) (br (decide ((winOf l 0 l.n).n > 200) || okL (winOf l 0 l.n)) (br (naE (winOf l 0 l.n) != naE (winOf l 0 l.n)) (some [.v (.bool (false))]) (br (decide ((winOf (wiR (naO (winOf l 0 l.n))) 0 (wiR (naO (winOf l 0 l.n))).n).n ≤ big)) (br (!saNB (winOf (wiR (naO (winOf l 0 l.n))) 0 (wiR (naO (winOf l 0 l.n))).n) (winOf (nqO (winOf l 0 l.n)) 0 (nqO (winOf l 0 l.n)).n)) (some [.v (.bool (false))]) (br (naE (winOf l 0 l.n) != naE (winOf l 0 l.n)) (some [.v (.bool (false))]) (br (bgL (winOf (bif reE (winOf l 0 l.n) s t == 0 then rsR (winOf l 0 l.n) s t else Row.nil) 0 (bif reE (winOf l 0 l.n) s t == 0 then rsR (winOf l 0 l.n) s t else Row.nil).n)) (br (!saLB (winOf (bif reE (winOf l 0 l.n) s t == 0 then rsR (winOf l 0 l.n) s t else Row.nil) 0 (bif reE (winOf l 0 l.n) s t == 0 then rsR (winOf l 0 l.n) s t else Row.nil).n) (winOf (bif reE (winOf l 0 l.n) s t == 0 then rqR (winOf l 0 l.n) s t else Row.nil) 0 (bif reE (winOf l 0 l.n) s t == 0 then rqR (winOf l 0 l.n) s t else Row.nil).n)) (some [.v (.bool (false))]) (br (reE (winOf l 0 l.n) s t != reE (winOf l 0 l.n) s t) (some [.v (.bool (false))]) (br (c3 { n := l.n, m := (twR (winOf l 0 l.n)).n, a := (bif reE (winOf l 0 l.n) s t == 0 then rsR (winOf l 0 l.n) s t else Row.nil).n, j := 0, k := 0, l := l, t := twR (winOf l 0 l.n), c := bif reE (winOf l 0 l.n) s t == 0 then rsR (winOf l 0 l.n) s t else Row.nil : A3 }) (br (bgL (winOf l 0 l.n)) (some [.v (.bool (saLB (winOf l 0 l.n) (winOf (twR (winOf l 0 l.n)) 0 (twR (winOf l 0 l.n)).n)))]) (none)) (none)))) (none)))) (none))) (none)) (none)) (none)) (none)) (none)) (none)) (none))))) (none) := by kernel_rfl
set_option maxRecDepth 100000 in
theorem ok3a : LoopOk C3 l3a.C := l3a.ok (fun x k c => (c.R x.j.toNat 2).n = (x.c.R x.j.toNat 2).n) (by kernel_rfl)
  (fun its x h hc => by
    replace h : d3i its = some x := h
    unfold d3i at h
    split at h
    · cases h
      obtain ⟨h0, h1, h2⟩ := c3i_iff.1 hc
      dsimp only at h1
      subst h1
      rfl
    · cases h)
  (fun x hc => ltbig (c3i_iff.1 hc).2.2)
  (fun x hc => rfl)
  (fun x k c hc hk hI => by
    show ((c.setR x.j.toNat 2 ((c.R x.j.toNat 2).setI k 0 7)).R x.j.toNat 2).n = _
    rw [sR_1]; exact hI)
  (fun q ⟨n, m, a, j, k0, l, t, c0⟩ k c hc hk hI R K => by
    obtain ⟨h0, h1, h2⟩ := c3i_iff.1 hc
    dsimp only at h0 h1 h2
    replace hI : (c.R j.toNat 2).n = (c0.R j.toNat 2).n := hI
    replace hk : k < (c.R j.toNat 2).n := hI ▸ hk
    rw [← hI] at h2
    refine (r3a R K q n m a j k l t c).trans ?_
    rw [Int.toNat_natCast, Nat.zero_add k, Nat.zero_add j.toNat, gd k _ hk, ltd k _ hk, wsb (by omega), ij j a h0]
    rfl)
  (fun q ⟨n, m, a, j, k0, l, t, c0⟩ c hc hI R K => by
    obtain ⟨h0, h1, h2⟩ := c3i_iff.1 hc
    dsimp only at h0
    replace hI : (c.R j.toNat 2).n = (c0.R j.toNat 2).n := hI
    refine (r3a R K q n m a j (c0.R j.toNat 2).n l t c).trans ?_
    rw [Nat.zero_add j.toNat, ← hI, ltn, ij j a h0]
    rfl)
set_option maxRecDepth 100000 in
theorem ok3b : LoopOk C3 l3b.C := l3b.ok (fun x k c => (c.R x.j.toNat 1).n = (x.c.R x.j.toNat 1).n) (by kernel_rfl)
  (fun its x h hc => by
    replace h : d3i its = some x := h
    unfold d3i at h
    split at h
    · cases h
      obtain ⟨h0, h1, h2⟩ := c3i_iff.1 hc
      dsimp only at h1
      subst h1
      rfl
    · cases h)
  (fun x hc => ltbig (c3i_iff.1 hc).2.2)
  (fun x hc => rfl)
  (fun x k c hc hk hI => by
    show ((c.setR x.j.toNat 1 ((c.R x.j.toNat 1).setS k 0 _)).R x.j.toNat 1).n = _
    rw [sR_1]; exact hI)
  (fun q ⟨n, m, a, j, k0, l, t, c0⟩ k c hc hk hI R K => by
    obtain ⟨h0, h1, h2⟩ := c3i_iff.1 hc
    dsimp only at h0 h1 h2
    replace hI : (c.R j.toNat 1).n = (c0.R j.toNat 1).n := hI
    replace hk : k < (c.R j.toNat 1).n := hI ▸ hk
    rw [← hI] at h2
    refine (r3b R K q n m a j k l t c).trans ?_
    rw [Int.toNat_natCast, Nat.zero_add k, Nat.zero_add j.toNat, gd k _ hk, ltd k _ hk, wsb (by omega), ij j a h0]
    rfl)
  (fun q ⟨n, m, a, j, k0, l, t, c0⟩ c hc hI R K => by
    obtain ⟨h0, h1, h2⟩ := c3i_iff.1 hc
    dsimp only at h0
    replace hI : (c.R j.toNat 1).n = (c0.R j.toNat 1).n := hI
    refine (r3b R K q n m a j (c0.R j.toNat 1).n l t c).trans ?_
    rw [Nat.zero_add j.toNat, ← hI, ltn, ij j a h0]
    rfl)
/-- As long in all its slices. -/
def sz (c d : Row) : Prop := c.n = d.n ∧ ∀ e, (c.R e 1).n = (d.R e 1).n ∧ (c.R e 2).n = (d.R e 2).n
theorem sz.trans {c d e : Row} (h : sz c d) (g : sz d e) : sz c e := ⟨h.1.trans g.1, fun i => ⟨(h.2 i).1.trans (g.2 i).1, (h.2 i).2.trans (g.2 i).2⟩⟩
theorem sz_a (i k : Nat) (c : Row) : sz (nx3a i k c) c := by
  unfold nx3a
  refine ⟨rfl, fun e => ⟨?_, ?_⟩⟩
  · rw [sR_no _ _ _ _ (by omega)]
  · rw [sR_at]
    by_cases h : e = i ∧ 2 = 2
    · rw [if_pos h, h.1]; rfl
    · rw [if_neg h]
theorem sz_b (i k : Nat) (c : Row) : sz (nx3b i k c) c := by
  unfold nx3b
  refine ⟨rfl, fun e => ⟨?_, ?_⟩⟩
  · rw [sR_at]
    by_cases h : e = i ∧ 1 = 1
    · rw [if_pos h, h.1]; rfl
    · rw [if_neg h]
  · rw [sR_no _ _ _ _ (by omega)]
theorem sz_fa (i : Nat) (c : Row) : sz (fa3 i c) c := fold_inv (Inv := fun _ r => sz r c) (len := (c.R i 2).n) (fun k r _ h => (sz_a i k r).trans h) (by omega) ⟨rfl, fun _ => ⟨rfl, rfl⟩⟩
theorem sz_fb (i : Nat) (c : Row) : sz (fb3 i c) c := fold_inv (Inv := fun _ r => sz r c) (len := (c.R i 1).n) (fun k r _ h => (sz_b i k r).trans h) (by omega) ⟨rfl, fun _ => ⟨rfl, rfl⟩⟩
theorem sz_3 (i : Nat) (c : Row) : sz (nx3 i c) c := (sz_fb i (fa3 i c)).trans (sz_fa i c)
set_option maxRecDepth 100000 in
theorem ok3 : LoopOk C3 l3.C := l3.ok (fun x k c => sz c x.c) (by kernel_rfl)
  (fun its x h hc => by
    replace h : d3 its = some x := h
    unfold d3 at h
    split at h
    · cases h
      obtain ⟨⟨h0, h1⟩, h2⟩ := c3_iff.1 hc
      dsimp only at h0
      subst h0
      rfl
    · cases h)
  (fun x hc => by
    obtain ⟨⟨h0, h1⟩, h2⟩ := c3_iff.1 hc
    exact ltbig (show x.a ≤ big by rw [h1]; exact (bgL_iff.1 h2).1))
  (fun x hc => ⟨rfl, fun _ => ⟨rfl, rfl⟩⟩)
  (fun x k c hc hk hI => (sz_3 k c).trans hI)
  (fun q ⟨n, m, a, j, k0, l, t, c0⟩ k c hc hk hI R K => by
    obtain ⟨⟨h0, h1⟩, h2⟩ := c3_iff.1 hc
    obtain ⟨h3, h4⟩ := bgL_iff.1 h2
    dsimp only at h0 h1 h3 h4
    replace hk : k < a := hk
    replace hI : sz c c0 := hI
    obtain ⟨g1, g2⟩ := h4 k (by omega)
    refine (r3 R K q n m a k l t c).trans ?_
    rw [Int.toNat_natCast, ltd k a hk, wsb (by omega)]
    rw [show c3i ⟨n, m, a, k, 0, l, t, c⟩ 2 = true from c3i_iff.2 ⟨⟨by show (0 : Int) ≤ (k : Int); omega, by show (k : Int) < (a : Int); omega⟩, rfl, by show (c.R (k : Int).toNat 2).n ≤ big; rw [Int.toNat_natCast, (hI.2 k).2]; exact g2⟩]
    rw [show c3i ⟨n, m, a, k, 0, l, t, fldN (nx3a k) (c.R k 2).n 0 c⟩ 1 = true from c3i_iff.2 ⟨⟨by show (0 : Int) ≤ (k : Int); omega, by show (k : Int) < (a : Int); omega⟩, rfl, by show ((fa3 k c).R (k : Int).toNat 1).n ≤ big; rw [Int.toNat_natCast, ((sz_fa k c).2 k).1, (hI.2 k).1]; exact g1⟩]
    rfl)
  (fun q ⟨n, m, a, j, k0, l, t, c0⟩ c hc hI R K => by
    refine (r3 R K q n m a a l t c).trans ?_
    rw [ltn]
    rfl)
theorem C3_ok : CxOk C3 := mkCx_ok enter mixed (fun p h => by
  simp only [GL, List.mem_cons, List.not_mem_nil, or_false] at h
  rcases h with rfl | rfl | rfl | rfl | rfl | rfl | rfl | rfl | rfl | rfl
  · exact den_great
  · exact den_twin
  · exact den_names
  · exact den_Names
  · exact den_rename
  · exact den_Rename
  · exact den_check
  · exact den_Check
  · exact den_sameN
  · exact den_sameL) (fun l h => by
  simp only [List.mem_cons, List.not_mem_nil, or_false] at h
  rcases h with rfl | rfl | rfl
  · exact ok3
  · exact ok3a
  · exact ok3b)
theorem t3' (l : Row) (s t : ByteArray) : evF C3 6 3 [.slice ksL l, .v (.string s), .v (.string t)] =
    br (decide (l.n ≤ big)) (br (greB l) (some [D.v (.bool (true))]) (br (decide ((↑s.size : Int) > 100)) (some [D.v (.bool (true))]) (br (decide ((↑t.size : Int) > 100)) (some [D.v (.bool (true))]) (br (okL l) (br (decide (l.n > 200) || okL l) (br (decide (l.n > 200) || okL l) (br ((decide (l.n > 200) || okL l) && decide (t.size ≤ 1000000)) (br ((decide (l.n > 200) || okL l) && decide (t.size ≤ 1000000)) (br (decide (l.n > 200) || okL l) (br (decide (l.n > 200) || okL l) (br (naE l != naE l) (some [D.v (.bool (false))]) (br (decide ((naO l).n ≤ big)) (br (!saNB (wiR (naO l)) (wiR (nqO l))) (some [D.v (.bool (false))]) (br (naE l != naE l) (some [D.v (.bool (false))]) (br (bgL (wiR (rsX l s t))) (br (!saLB (wiR (rsX l s t)) (wiR (rqX l s t))) (some [D.v (.bool (false))]) (br (reE l s t != reE l s t) (some [D.v (.bool (false))]) (br (c3 ⟨l.n, (twR l).n, (rsX l s t).n, 0, 0, l, twR l, rsX l s t⟩) (br (bgL l) (some [D.v (.bool (saLB l (twR l)))]) (none)) (none)))) (none)))) (none))) (none)) (none)) (none)) (none)) (none)) (none)) (none))))) (none) := by kernel_rfl
theorem bytesSelf (x : ByteArray) : (x == x) = true := by
  show (x.data == x.data) = true
  exact beq_self_eq_true _
theorem saNB_self (a : Row) : saNB a a = true := by
  unfold saNB
  rw [decide_eq_true rfl, Bool.true_and, Bool.not_eq_true', anyF_false]
  intro i _ _
  unfold neK
  rw [bytesSelf, beq_self_eq_true (a.I i 1)]; rfl
theorem na_nq (l : Row) : saNB (wiR (naO l)) (wiR (nqO l)) = true := by
  cases h : (naE l != 0)
  · rw [nq_same h]; exact saNB_self _
  · have h1 : naO l = .nil := by
      unfold naE naO at *
      by_cases hl : l.n > 200
      · rw [decide_eq_true hl]; rfl
      · rw [decide_eq_false hl] at h ⊢
        show knO l = .nil
        unfold knO
        cases hk : (knR l).1
        · rw [cond_false, knE, hk] at h; cases h
        · rfl
    have h2 : nqO l = .nil := by unfold nqO; rw [h]; rfl
    rw [h1, h2]; rfl
theorem rs_big {l : Row} (h : okL l = true) (s t : ByteArray) : bgL (rsX l s t) = true := by
  unfold rsX
  cases reE l s t == 0
  · rfl
  · obtain ⟨h1, h2⟩ := rs_rn l s t
    obtain ⟨h3, h4⟩ := bgL_iff.1 (ok_big h)
    refine bgL_iff.2 ⟨by show (rsR l s t).n ≤ big; rw [h1]; exact h3, fun i hi => ?_⟩
    obtain ⟨_, ⟨e1, _⟩, e2, _⟩ := h2 i hi
    show ((rsR l s t).R i 1).n ≤ big ∧ ((rsR l s t).R i 2).n ≤ big
    rw [e1, e2]
    exact h4 i hi
theorem rs_rq (l : Row) (s t : ByteArray) : saLB (wiR (rsX l s t)) (wiR (rqX l s t)) = true := by
  refine saLB_iff.2 ?_
  unfold rsX rqX
  cases reE l s t == 0
  · exact ⟨rfl, fun i hi => lnE.rfl'⟩
  · exact rn_same (rs_rn l s t) (rq_rn l s t)
theorem law_checks (l : Row) (s t : ByteArray) (hl : l.n ≤ big) : evF C3 6 3 [.slice ksL l, .v (.string s), .v (.string t)] = some [.v (.bool true)] := by
  refine (t3' l s t).trans ?_
  rw [decide_eq_true hl]
  cases hg : greB l
  · have hok := gre_ok hg
    have hb := ok_big hok
    by_cases h1 : (s.size : Int) > 100
    · rw [decide_eq_true h1]; rfl
    · rw [decide_eq_false h1]
      by_cases h2 : (t.size : Int) > 100
      · rw [decide_eq_true h2]; rfl
      · rw [decide_eq_false h2, hok, Bool.or_true, decide_eq_true (show t.size ≤ 1000000 by omega), bne_self_eq_false, bne_self_eq_false, na_nq, rs_rq, hb, show bgL (wiR (rsX l s t)) = true from rs_big hok s t, c3_iff.2 ⟨⟨rfl, rfl⟩, rs_big hok s t⟩, saLB_iff.2 (twR_same l).symm]
        rw [decide_eq_true (show (naO l).n ≤ big from by
          have h3 := kn_n l
          have h4 : (naO l).n ≤ (knO l).n := by
            unfold naO
            cases decide (l.n > 200)
            · exact Nat.le_refl _
            · exact Nat.zero_le _
          omega)]
        rfl
  · rfl
theorem wf_big {ks : List CK} {r : Row} (h : WfR ks r) : r.n ≤ big := by
  cases h with
  | mk h _ => exact h

theorem own : ownKnob Try.prog.godebug = none := by kernel_rfl
theorem laidOut : laidOutB Try.prog = true := by kernel_rfl
set_option maxRecDepth 100000 in
theorem scriptChecks_lifted (os : Os) (started : os.Started) (H : Type) (enc : TypeId × Value → H) :
    ReturnsInHanded {} Try.checked os 3 .any (Rows.scriptChecksSpec.pre6 enc Try.prog Try.f3 Rows.scriptChecksRow.domain false) (Rows.scriptChecksSpec.post enc Try.prog Try.f3 false true false false) :=
  lifted_true (C := C3) C3_ok (K := Try.checked) rfl (f := 3) (d := 5) (e := 6) (fn := Try.f3) (t4 := 4) (sh := [(false, [.slice [.int .u8, .slice [.str], .slice [.int .i64]]]), (false, [.str]), (false, [.str])]) own (by kernel_rfl) Try.func3 laidOut (by kernel_rfl) (by kernel_rfl) Try.underlying4 rfl
    (fun H ds h => by
      have h : ds.length = 3 := h
      match ds, h with
      | [d1, d2, d3], _ => rfl)
    (by kernel_rfl)
    (fun Ds h => by
      cases h with
      | one c h =>
      cases c with
      | slice w0_0 =>
      cases h with
      | one c h =>
      cases c with
      | str w1_0 =>
      cases h with
      | one c h =>
      cases c with
      | str w2_0 =>
      cases h
      exact law_checks _ _ _ (wf_big w0_0))
    started (ChangeSpec.witness6 (enc := enc) (C := Try.checked) false ⟨#[], #[.slice none 0 0, .string .empty, .string .empty], []⟩ 8 (by kernel_rfl) (by kernel_rfl) (by kernel_rfl) (by kernel_rfl))

theorem scriptChecks_over : Rows.scriptChecksRow.holds Try.pinned (OpenSpec.ofChange Rows.scriptChecksSpec) :=
  OpenClaim.holds_of_wide 3 Try.f3 rfl rfl rfl rfl rfl rfl rfl ⟨rfl, rfl, rfl, rfl, rfl⟩ rfl rfl rfl rfl rfl (by kernel_rfl) Try.func3 (by kernel_rfl)
    (of_decide_eq_true (by kernel_rfl)) (by unfold Func.isWrapper; first | (rw [if_pos (by decide +kernel)]; kernel_rfl) | (rw [if_neg (by decide +kernel)]; exact ⟨rfl, rfl⟩))
    (fun os started H enc _ => scriptChecks_lifted os started H enc)

theorem scriptChecks_said : Rows.ScriptChecksSaid := scriptChecks_over
#print axioms scriptChecks_said

end Go.Proofs.Ytopdfmhlgkbaaaa

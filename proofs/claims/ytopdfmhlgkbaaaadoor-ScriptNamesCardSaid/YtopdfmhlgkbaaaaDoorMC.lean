/- Texts T15 T16 T17 T18 T19 T20 T21 T22 in one. No conditions. -/
import Derived.WalkKit
import Derived.BigCall
import Derived.Shelf.Strings.MapGrows
import Derived.Test.YtopdfmhlgkbaaaaDoorMB
/- The reading of a line. No conditions. -/
namespace Go.Proofs.YtopdfmhlgkbaaaaDoor
open Go.Ev Go.RowKit Go.Lib Go.Dec
set_option linter.all false
def psI (o : Row) (n : Int) : Row := (winOf o 0 o.n).app (winOf ((Row.zeros 1).setI 0 0 n) 0 1)
theorem psI_n (r : Row) (x : Int) : (psI r x).n = r.n + 1 := rfl
def nxA (t : Row) (s0 : ByteArray) (i : Nat) (w : Int) : Int := bif ((t.S i 0).toList == s0.toList) then (i : Int) + 1 else w
def nxB (r : Row) (e : Nat) (i : Nat) (a : Row × Row) : Row × Row := bif aiE (by_ (r.S (e + i) 0)) then (psC a.1 (r.S (e + i) 0), a.2) else (a.1, psI a.2 (aiN (by_ (r.S (e + i) 0))))
def p31a : PSt := { τ := [.v (.str)] ++ pu 1 ++ [.v (.c (.pointer (some ⟨0, 0, some 0⟩)))] ++ pu 1 ++ [.v (.sl 1), .v (.c (.pointer (some ⟨2, 0, some 0⟩)))] ++ pu 8 ++ [.v (.sl 3), .v (.int .i64), .v (.int .i64)] ++ pu 70, saved := [[]], mem := [.box [.v (.int .u8), .v (.c (.slice none (0) (0))), .v (.c (.slice none (0) (0)))], .row [.str] true, .box [.v (.int .u8), .v (.c (.slice none (0) (0))), .v (.c (.slice none (0) (0)))], .row [.str, .int .i64, .int .i64, .int .i64, .int .i64, .bool, .int .u8] true] }
def p31b : PSt := { τ := [.v (.str)] ++ pu 1 ++ [.v (.c (.pointer (some ⟨0, 0, some 0⟩)))] ++ pu 2 ++ [.v (.c (.pointer (some ⟨1, 0, some 0⟩)))] ++ pu 46 ++ [.v (.slw 2), .v (.int .i64), .v (.int .i64)] ++ pu 32, saved := [[]], mem := [.box [.v (.int .u8), .v (.c (.slice none (0) (0))), .v (.c (.slice none (0) (0)))], .box [.v (.int .u8), .v (.sl 3), .v (.sl 4)], .row [.str] true, .row [.str] true, .row [.int .i64] true] }
structure A31 where
  s : ByteArray
  n : Nat
  k : Nat
  len : Int
  j : Int
  w0 : Int
  r : Row
  w : Int
  t : Row
def d31a (its : List It) : Option A31 := match its with | [.s s, .n n, .n k, .i len, .i j, .i w0, .r r, .i w, .r t] => some ⟨s, n, k, len, j, w0, r, w, t⟩ | _ => none
def c31a (x : A31) : Bool := decide (x.k = 10 ∧ x.len = 10 ∧ x.j = 0 ∧ 1 ≤ x.n)
theorem c31a_iff {x : A31} : c31a x = true ↔ x.k = 10 ∧ x.len = 10 ∧ x.j = 0 ∧ 1 ≤ x.n := by unfold c31a; rw [decide_eq_true_eq]
def l31a : FoldL A31 Int where
  f := 31
  id := 4
  lv := [0, 2, 4, 5, 14, 15, 16]
  lx := [0, 2, 4, 5]
  p := p31a
  dat := d31a
  S := fun x i w => [.s x.s, .n x.n, .n 10, .i 10, .i i, .i x.w0, .r x.r, .i w, .r x.t]
  len := fun _ => 10
  cnd := fun x => c31a x
  ini := fun x => x.w
  nx := fun x => nxA x.t (x.r.S 0 0)
  Ke := fun x w K => K (.exit 0) ⟨[.string x.s] ++ us 1 ++ [.pointer (some ⟨0, 0, some 0⟩)] ++ us 1 ++ [.slice (some ⟨1, 0, some 0⟩) (x.n) (0), .pointer (some ⟨2, 0, some 0⟩)] ++ us 81, [[]], [some (.box [.int .u8 (x.w0), .slice none (0) (0), .slice none (0) (0)]), some (.row [.str] true x.r), some (.box [.int .u8 w, .slice none 0 0, .slice none 0 0])]⟩
structure B31 where
  s : ByteArray
  e : Nat
  n : Nat
  len : Int
  j : Int
  w0 : Int
  w : Int
  a : Nat
  b : Nat
  r : Row
  nm : Row
  nu : Row
def d31b (its : List It) : Option B31 := match its with | [.s s, .n e, .n n, .i len, .i j, .i w0, .i w, .n a, .n b, .r r, .r nm, .r nu] => some ⟨s, e, n, len, j, w0, w, a, b, r, nm, nu⟩ | _ => none
def c31b (x : B31) : Bool := decide (x.a = x.nm.n ∧ x.b = x.nu.n ∧ x.nm.n ≤ 1000000 ∧ x.nu.n ≤ 1000000) && (z3 x.n x.len x.j && !anyF (fun i => decide (4294967296 < (x.r.S (x.e + i) 0).size)) x.n 0)
theorem c31b_iff {x : B31} : c31b x = true ↔ (x.a = x.nm.n ∧ x.b = x.nu.n ∧ x.nm.n ≤ 1000000 ∧ x.nu.n ≤ 1000000) ∧ (x.len = x.n ∧ x.j = 0 ∧ x.n ≤ 1000000) ∧ ∀ i, i < x.n → (x.r.S (x.e + i) 0).size ≤ 4294967296 := by
  unfold c31b
  simp only [Bool.and_eq_true, decide_eq_true_eq, Bool.not_eq_true', anyF_false, Nat.zero_add, Nat.zero_le, forall_const, decide_eq_false_iff_not, Nat.not_lt, z3_iff]
def l31b : FoldL B31 (Row × Row) where
  f := 31
  id := 12
  lv := [0, 2, 5, 52, 53, 54, 5 + 10000 + 640000 * 10, 5 + 20000 + 640000 * 4]
  lx := [0, 2, 5]
  p := p31b
  dat := d31b
  S := fun x i a => [.s x.s, .n x.e, .n x.n, .i x.n, .i i, .i x.w0, .i x.w, .n a.1.n, .n a.2.n, .r x.r, .r a.1, .r a.2]
  len := fun x => x.n
  cnd := fun x => c31b x
  ini := fun x => (x.nm, x.nu)
  nx := fun x => nxB x.r x.e
  Ke := fun x a K => K (.exit 2) ⟨[.string x.s] ++ us 1 ++ [.pointer (some ⟨0, 0, some 0⟩)] ++ us 2 ++ [.pointer (some ⟨1, 0, some 0⟩)] ++ us 81, [[]], [some (.box [.int .u8 (x.w0), .slice none (0) (0), .slice none (0) (0)]), some (.box [.int .u8 x.w, .slice (some ⟨2, 0, some 0⟩) (a.1.n) (0), .slice (some ⟨3, 0, some 0⟩) (a.2.n) (0)]), some (.row [.str] true a.1), some (.row [.int .i64] true a.2)]⟩
noncomputable def C31 : Cx := mkCx Tryd.prog fns [(37, Fwords), (44, Fsplit), (45, Fatoi), (46, Fvalid), (25, Fwrite)] [l31a.C, l31b.C]
theorem r31a (R : St → Option (List D)) (K : X → St → Option (List D)) (q n k : Nat) (s : ByteArray) (len j w0 w : Int) (r t : Row) : bodyOf C31 31 4 q (Go.Ev.bst p31a [.s s, .n n, .n k, .i len, .i j, .i w0, .r r, .i w, .r t]) (rnd [0, 2, 4, 5, 14, 15, 16] (some [0, 2, 4, 5]) R K) =
    br (decide (j < len)) (br (decide (0 ≤ j) && decide (j < (↑k : Int))) (br (decide (0 ≤ 0) && decide (0 < (↑n : Int))) (br ((t.S (0 + j.toNat) 0).toList == (r.S 0 0).toList) (R ⟨[.string (s)] ++ us 1 ++ [.pointer (some ⟨0, 0, some 0⟩)] ++ us 1 ++ [.slice (some ⟨1, 0, some 0⟩) (n) (0), .pointer (some ⟨2, 0, some 0⟩)] ++ us 8 ++ [.slice (some ⟨3, 0, some 0⟩) (k) (0), i64 (len), i64 (IntKind.i64.wrap (j + 1))] ++ us 70, [[]], [some (.box [.int .u8 (w0), .slice none (0) (0), .slice none (0) (0)]), some (.row [.str] true (r)), some (.box [.int .u8 (IntKind.u8.wrap (IntKind.i64.wrap (j + 1))), .slice none (0) (0), .slice none (0) (0)]), some (.row [.str, .int .i64, .int .i64, .int .i64, .int .i64, .bool, .int .u8] true (t))]⟩) (R ⟨[.string (s)] ++ us 1 ++ [.pointer (some ⟨0, 0, some 0⟩)] ++ us 1 ++ [.slice (some ⟨1, 0, some 0⟩) (n) (0), .pointer (some ⟨2, 0, some 0⟩)] ++ us 8 ++ [.slice (some ⟨3, 0, some 0⟩) (k) (0), i64 (len), i64 (IntKind.i64.wrap (j + 1))] ++ us 70, [[]], [some (.box [.int .u8 (w0), .slice none (0) (0), .slice none (0) (0)]), some (.row [.str] true (r)), some (.box [.int .u8 (w), .slice none (0) (0), .slice none (0) (0)]), some (.row [.str, .int .i64, .int .i64, .int .i64, .int .i64, .bool, .int .u8] true (t))]⟩)) (none)) (none)) (K (.exit 0) ⟨[.string (s)] ++ us 1 ++ [.pointer (some ⟨0, 0, some 0⟩)] ++ us 1 ++ [.slice (some ⟨1, 0, some 0⟩) (n) (0), .pointer (some ⟨2, 0, some 0⟩)] ++ us 81, [[]], [some (.box [.int .u8 (w0), .slice none (0) (0), .slice none (0) (0)]), some (.row [.str] true (r)), some (.box [.int .u8 (w), .slice none (0) (0), .slice none (0) (0)])]⟩) := by kernel_rfl
theorem r31b (R : St → Option (List D)) (K : X → St → Option (List D)) (q e n a b : Nat) (s : ByteArray) (len j w w0 : Int) (r nm nu : Row) : bodyOf C31 31 12 q (Go.Ev.bst p31b [.s s, .n e, .n n, .i len, .i j, .i w0, .i w, .n a, .n b, .r r, .r nm, .r nu]) (rnd [0, 2, 5, 52, 53, 54, 5 + 10000 + 640000 * 10, 5 + 20000 + 640000 * 4] (some [0, 2, 5]) R K) =
    br (decide (j < len)) (br (decide (0 ≤ j) && decide (j < (↑n : Int))) (br (decide ((r.S (e + j.toNat) 0).size ≤ 4294967296)) (br (!aiE (by_ (r.S (e + j.toNat) 0))) (br (decide (b + (winOf ((Row.zeros 1).setI 0 0 (aiN (by_ (r.S (e + j.toNat) 0)))) 0 1).n ≤ 10000000000)) (R ⟨[.string (s)] ++ us 1 ++ [.pointer (some ⟨0, 0, some 0⟩)] ++ us 2 ++ [.pointer (some ⟨1, 0, some 0⟩)] ++ us 46 ++ [.slice (some ⟨2, e, some 0⟩) (n) (0), i64 (len), i64 (IntKind.i64.wrap (j + 1))] ++ us 32, [[]], [some (.box [.int .u8 (w0), .slice none (0) (0), .slice none (0) (0)]), some (.box [.int .u8 (w), .slice (some ⟨3, 0, some 0⟩) (a) (0), .slice (some ⟨4, 0, some 0⟩) (b + 1) (0)]), some (.row [.str] true (r)), some (.row [.str] true (nm)), some (.row [.int .i64] true ((winOf nu 0 b).app (winOf ((Row.zeros 1).setI 0 0 (aiN (by_ (r.S (e + j.toNat) 0)))) 0 1)))]⟩) (none)) (br (decide (a + (winOf ((Row.zeros 1).setS 0 0 (r.S (e + j.toNat) 0)) 0 1).n ≤ 10000000000)) (R ⟨[.string (s)] ++ us 1 ++ [.pointer (some ⟨0, 0, some 0⟩)] ++ us 2 ++ [.pointer (some ⟨1, 0, some 0⟩)] ++ us 46 ++ [.slice (some ⟨2, e, some 0⟩) (n) (0), i64 (len), i64 (IntKind.i64.wrap (j + 1))] ++ us 32, [[]], [some (.box [.int .u8 (w0), .slice none (0) (0), .slice none (0) (0)]), some (.box [.int .u8 (w), .slice (some ⟨3, 0, some 0⟩) (a + 1) (0), .slice (some ⟨4, 0, some 0⟩) (b) (0)]), some (.row [.str] true (r)), some (.row [.str] true ((winOf nm 0 a).app (winOf ((Row.zeros 1).setS 0 0 (r.S (e + j.toNat) 0)) 0 1))), some (.row [.int .i64] true (nu))]⟩) (none))) (none)) (none)) (K (.exit 2) ⟨[.string (s)] ++ us 1 ++ [.pointer (some ⟨0, 0, some 0⟩)] ++ us 2 ++ [.pointer (some ⟨1, 0, some 0⟩)] ++ us 81, [[]], [some (.box [.int .u8 (w0), .slice none (0) (0), .slice none (0) (0)]), some (.box [.int .u8 (w), .slice (some ⟨2, 0, some 0⟩) (a) (0), .slice (some ⟨3, 0, some 0⟩) (b) (0)]), some (.row [.str] true (nm)), some (.row [.int .i64] true (nu))]⟩) := by kernel_rfl

theorem u8w {i : Nat} (h : i < 10) : IntKind.u8.wrap ((i + 1 : Nat) : Int) = (i : Int) + 1 := (wrap_id (by simp [Lit.wf, IntKind.min, IntKind.max, IntKind.signed, IntKind.bits]; omega)).trans (by omega)
set_option maxRecDepth 100000 in
theorem ok31a : LoopOk C31 l31a.C := l31a.ok (fun x i w => True) (by kernel_rfl)
  (fun its x h hc => by
    replace h : d31a its = some x := h
    unfold d31a at h
    split at h
    · cases h
      obtain ⟨h1, h2, h3, h4⟩ := c31a_iff.1 hc
      dsimp only at h1 h2 h3
      subst h1 h2 h3
      rfl
    · cases h)
  (fun x hc => by show 10 < 18446744073709551616; omega)
  (fun x hc => trivial)
  (fun x i o hc hi hI => trivial)
  (fun q ⟨s, n, k, len, j, w0, r, w1, t⟩ i w hc hi hI R K => by
    obtain ⟨h1, h2, h3, h4⟩ := c31a_iff.1 hc
    dsimp only at h1 h2 h3 h4
    replace hi : i < 10 := hi
    refine (r31a R K q n 10 s 10 i w0 w r t).trans ?_
    rw [Int.toNat_natCast, Nat.zero_add i, gd i 10 hi, decide_eq_true (show (i : Int) < 10 by omega), wsn (by omega), u8w hi, decide_eq_true (show (0 : Int) < (n : Int) by omega)]
    show br true (br true (br true (br ((t.S i 0).toList == (r.S 0 0).toList) _ _) none) none) _ = R (Go.Ev.bst p31a (l31a.S ⟨s, n, k, len, j, w0, r, w1, t⟩ (i + 1) (bif ((t.S i 0).toList == (r.S 0 0).toList) then (i : Int) + 1 else w)))
    cases ((t.S i 0).toList == (r.S 0 0).toList) <;> rfl)
  (fun q ⟨s, n, k, len, j, w0, r, w1, t⟩ w hc hI R K => by
    refine (r31a R K q n 10 s 10 10 w0 w r t).trans ?_
    rfl)
set_option maxRecDepth 100000 in
theorem ok31b : LoopOk C31 l31b.C := l31b.ok (fun x i a => a.1.n ≤ 1000000 + i ∧ a.2.n ≤ 1000000 + i) (by kernel_rfl)
  (fun its x h hc => by
    replace h : d31b its = some x := h
    unfold d31b at h
    split at h
    · cases h
      obtain ⟨⟨h1, h2, h3, h4⟩, ⟨h5, h6, h7⟩, h8⟩ := c31b_iff.1 hc
      dsimp only at h1 h2 h5 h6
      subst h1 h2 h5 h6
      rfl
    · cases h)
  (fun x hc => by have := (c31b_iff.1 hc).2.1.2.2; show x.n < 18446744073709551616; omega)
  (fun x hc => by obtain ⟨_, _, h3, h4⟩ := (c31b_iff.1 hc).1; exact ⟨h3, h4⟩)
  (fun x i a hc hi hI => by
    obtain ⟨h1, h2⟩ := hI
    show (nxB x.r x.e i a).1.n ≤ 1000000 + (i + 1) ∧ (nxB x.r x.e i a).2.n ≤ 1000000 + (i + 1)
    unfold nxB
    cases aiE (by_ (x.r.S (x.e + i) 0))
    · exact ⟨by show a.1.n ≤ _; omega, by show a.2.n + 1 ≤ _; omega⟩
    · exact ⟨by show a.1.n + 1 ≤ _; omega, by show a.2.n ≤ _; omega⟩)
  (fun q ⟨s, e, n, len, j, w0, w, a0, b0, r, nm, nu⟩ i a hc hi hI R K => by
    obtain ⟨⟨h1, h2, h3, h4⟩, ⟨h5, h6, h7⟩, h8⟩ := c31b_iff.1 hc
    dsimp only at h1 h2 h3 h4 h5 h6 h7 h8
    obtain ⟨i1, i2⟩ := hI
    replace hi : i < n := hi
    refine (r31b R K q e n a.1.n a.2.n s n i w w0 r a.1 a.2).trans ?_
    rw [Int.toNat_natCast, gd i n hi, ltd i n hi, wsn (by omega), decide_eq_true (h8 i hi), decide_eq_true (show a.2.n + (winOf ((Row.zeros 1).setI 0 0 (aiN (by_ (r.S (e + i) 0)))) 0 1).n ≤ 10000000000 from (by show a.2.n + 1 ≤ _; omega)), decide_eq_true (show a.1.n + (winOf ((Row.zeros 1).setS 0 0 (r.S (e + i) 0)) 0 1).n ≤ 10000000000 from (by show a.1.n + 1 ≤ _; omega))]
    show br true (br true (br true (br (!aiE (by_ (r.S (e + i) 0))) _ _) none) none) _ = R (Go.Ev.bst p31b (l31b.S ⟨s, e, n, len, j, w0, w, a0, b0, r, nm, nu⟩ (i + 1) (bif aiE (by_ (r.S (e + i) 0)) then (psC a.1 (r.S (e + i) 0), a.2) else (a.1, psI a.2 (aiN (by_ (r.S (e + i) 0)))))))
    cases aiE (by_ (r.S (e + i) 0)) <;> rfl)
  (fun q ⟨s, e, n, len, j, w0, w, a0, b0, r, nm, nu⟩ a hc hI R K => by
    refine (r31b R K q e n a.1.n a.2.n s n n w w0 r a.1 a.2).trans ?_
    rw [ltn n]
    rfl)
theorem C31_ok : CxW C31 Wd := mkCx_okW enter mixed (fun p h => by
  simp only [List.mem_cons, List.not_mem_nil, or_false] at h
  rcases h with rfl | rfl | rfl | rfl | rfl
  · exact den_words.at _
  · exact den_split
  · exact den_atoi
  · exact den_valid.at _
  · exact den_write) (fun l h => by
  simp only [List.mem_cons, List.not_mem_nil, or_false] at h
  rcases h with rfl | rfl
  · exact ok31a
  · exact ok31b)
end Go.Proofs.YtopdfmhlgkbaaaaDoor
/- The reading of a line: what comes of it. No conditions. -/
namespace Go.Proofs.YtopdfmhlgkbaaaaDoor
open Go.Ev Go.RowKit Go.Lib Go.Dec
set_option linter.all false
def rdV (w : Int) (nm nu : Row) : List D := [.agg [.v (u8 w), .slice ksS nm, .slice ksI nu]]
def tEnd (s : ByteArray) (w : Int) (nm nu : Row) : Option (List D) :=
  br (smN nm nm.n && decide (nu.n ≤ 1000000)) (br (vaB w nm nu) (br (decide (1 ≤ w ∧ w ≤ 10) && wsB nm nu) (some (rdV w nm nu ++ [.v (.bool ((txt (wrL w nm nu)).toList == s.toList))])) none) (some (rdV w nm nu ++ [.v (.bool false)]))) none
def tB (s : ByteArray) (w : Int) (r : Row) (n : Nat) : Option (List D) :=
  br (c31b ⟨s, 1, n, n, 0, 0, w, 0, 0, r, .nil, .nil⟩) (tEnd s w (winOf (fldN (nxB r 1) n 0 (.nil, .nil)).1 0 (fldN (nxB r 1) n 0 (.nil, .nil)).1.n) (winOf (fldN (nxB r 1) n 0 (.nil, .nil)).2 0 (fldN (nxB r 1) n 0 (.nil, .nil)).2.n)) none
def tN (s : ByteArray) (w : Int) (r : Row) : Option (List D) :=
  br (decide (0 ≤ (r.n : Int)) && decide ((r.n : Int) ≤ (r.n : Int))) (br (decide ((0 : Int) ≤ 1) && decide ((1 : Int) ≤ (((r.n : Int).toNat : Nat) : Int))) (tB s w r ((r.n : Int).toNat - 1)) none) none
def cut3 (r : Row) : Row := (winOf r 0 2).app (winOf r 3 ((r.n : Int).toNat - 3))
def tF (s : ByteArray) (w : Int) (r : Row) : Option (List D) :=
  br (decide ((0 : Int) ≤ 2) && decide ((2 : Int) ≤ (r.n : Int))) (br (decide (0 ≤ (r.n : Int)) && decide ((r.n : Int) ≤ (r.n : Int))) (br (decide ((0 : Int) ≤ 3) && decide ((3 : Int) ≤ (((r.n : Int).toNat : Nat) : Int))) (br (decide (2 - 0 + (winOf r (0 + 3) ((r.n : Int).toNat - 3)).n ≤ 10000000000)) (br (decide (0 ≤ (((cut3 r).n : Nat) : Int)) && decide ((((cut3 r).n : Nat) : Int) ≤ (((cut3 r).n : Nat) : Int))) (br (decide ((0 : Int) ≤ 1) && decide ((1 : Int) ≤ (((((cut3 r).n : Nat) : Int).toNat : Nat) : Int))) (tB s w (cut3 r) ((((cut3 r).n : Nat) : Int).toNat - 1)) none) none) none) none) none) none
def tT (s : ByteArray) (r : Row) (w : Int) : Option (List D) :=
  br (w == 4) (br (decide ((r.n : Int) > 2)) (br (decide ((0 : Int) ≤ 2) && decide ((2 : Int) < (r.n : Int))) (br ((r.S 2 0).toList == sFor.toList) (tF s w r) (tN s w r)) none) (tN s w r)) (tN s w r)
def rdR (s : ByteArray) : Row := rowS (splS s sSp)
theorem u31 (s : ByteArray) : evF C31 6 31 [.v (.string s)] =
    br (decide (s.size < 4294967281) && decide (1 ≤ sSp.size)) (br (c31a ⟨s, (rdR s).n, 10, 10, 0, 0, rdR s, 0, Wt⟩) (tT s (rdR s) (fldN (nxA Wt ((rdR s).S 0 0)) 10 0 0)) none) none := by kernel_rfl
end Go.Proofs.YtopdfmhlgkbaaaaDoor
/- The reading of a line: lists of what is read; the contract. No conditions. -/
namespace Go.Proofs.YtopdfmhlgkbaaaaDoor
open Go.Ev Go.RowKit Go.Lib Go.Dec
set_option linter.all false
def ints (r : Row) (n : Nat) : List Int := (List.range n).map fun e => r.I e 0
theorem psI_lo (r : Row) (x : Int) {i : Nat} (h : i < r.n) : (psI r x).I i 0 = r.I i 0 := congrFun (app_at (winOf r 0 r.n) (winOf ((Row.zeros 1).setI 0 0 x) 0 1) (i := i) h).1.1 0
theorem psI_hi (r : Row) (x : Int) : (psI r x).I r.n 0 = x := by
  refine (congrFun (app_nx (winOf r 0 r.n) (winOf ((Row.zeros 1).setI 0 0 x) 0 1) (i := r.n) (Nat.lt_irrefl _)).1.1 0).trans ?_
  rw [show r.n - (winOf r 0 r.n).n = 0 from Nat.sub_self _]
  rfl
theorem ints_psI (r : Row) (x : Int) : ints (psI r x) (psI r x).n = ints r r.n ++ [x] := by
  unfold ints
  rw [psI_n, List.range_succ, List.map_append]
  congr 1
  · refine List.map_congr_left fun e he => ?_
    exact psI_lo r x (List.mem_range.1 he)
  · show [(psI r x).I r.n 0] = [x]
    rw [psI_hi]
theorem ints_len (r : Row) (n : Nat) : (ints r n).length = n := by simp [ints]
theorem strs_len (r : Row) (n : Nat) : (strs r n).length = n := by simp [strs]
theorem strs_mem {r : Row} {n i : Nat} (h : i < n) : r.S i 0 ∈ strs r n := List.mem_map.2 ⟨i, List.mem_range.2 h, rfl⟩
theorem ints_mem {r : Row} {n i : Nat} (h : i < n) : r.I i 0 ∈ ints r n := List.mem_map.2 ⟨i, List.mem_range.2 h, rfl⟩
def nmsL (l : List ByteArray) : List ByteArray := l.filter fun p => aiE (by_ p)
def nusL (l : List ByteArray) : List Int := (l.filter fun p => !aiE (by_ p)).map fun p => aiN (by_ p)
theorem nxB_lists (r : Row) (e : Nat) : ∀ (m i : Nat) (a : Row × Row), strs (fldN (nxB r e) m i a).1 (fldN (nxB r e) m i a).1.n = strs a.1 a.1.n ++ nmsL ((List.range' i m).map fun j => r.S (e + j) 0) ∧
    ints (fldN (nxB r e) m i a).2 (fldN (nxB r e) m i a).2.n = ints a.2 a.2.n ++ nusL ((List.range' i m).map fun j => r.S (e + j) 0)
  | 0, i, a => by simp [fldN, nmsL, nusL]
  | m + 1, i, a => by
    obtain ⟨h1, h2⟩ := nxB_lists r e m (i + 1) (nxB r e i a)
    have e1 : fldN (nxB r e) (m + 1) i a = fldN (nxB r e) m (i + 1) (nxB r e i a) := rfl
    rw [e1, h1, h2, List.range'_succ, List.map_cons]
    unfold nxB nmsL nusL
    rw [List.filter_cons, List.filter_cons]
    cases he : aiE (by_ (r.S (e + i) 0))
    · refine ⟨rfl, ?_⟩
      show ints (psI a.2 _) (psI a.2 _).n ++ _ = _
      rw [ints_psI, List.append_assoc]
      rfl
    · refine ⟨?_, rfl⟩
      show strs (psC a.1 _) (psC a.1 _).n ++ _ = _
      rw [strs_psC, List.append_assoc]
      rfl
theorem tail_strs (r : Row) : ((List.range' 0 (r.n - 1)).map fun j => r.S (1 + j) 0) = (strs r r.n).tail := by
  unfold strs
  cases h : r.n with
  | zero => rfl
  | succ n =>
    rw [Nat.add_sub_cancel, ← List.range_eq_range', List.range_succ_eq_map, List.map_cons, List.tail_cons, List.map_map]
    refine List.map_congr_left fun j _ => ?_
    show r.S (1 + j) 0 = r.S (j + 1) 0
    rw [Nat.add_comm]
theorem strs_rowS (l : List ByteArray) : strs (rowS l) l.length = l := by
  refine List.ext_getElem (by simp [strs]) fun i h1 h2 => ?_
  simp only [strs, List.getElem_map, List.getElem_range]
  show l.getD i .empty = l[i]
  rw [List.getD_eq_getElem?_getD, List.getElem?_eq_getElem h2]; rfl
theorem cut3_n (r : Row) (h : 2 < r.n) : (cut3 r).n = r.n - 1 := by
  show 2 + ((r.n : Int).toNat - 3) = _
  omega
theorem strs_cut3 (r : Row) (h : 2 < r.n) : strs (cut3 r) (cut3 r).n = (strs r r.n).take 2 ++ (strs r r.n).drop 3 := by
  refine List.ext_getElem (by simp [strs, cut3_n r h]; omega) fun i h1 h2 => ?_
  have hl : i < r.n - 1 := by rw [strs_len, cut3_n r h] at h1; exact h1
  rw [List.getElem_append]
  have e1 : (strs (cut3 r) (cut3 r).n)[i] = (cut3 r).S i 0 := by simp [strs]
  rw [e1]
  by_cases hi : i < 2
  · have h3 : i < (winOf r 0 2).n := hi
    rw [dif_pos (by simp [strs]; omega)]
    refine (congrFun (app_at (winOf r 0 2) _ h3).1.2 0).trans ?_
    show r.S i 0 = _
    simp [strs]
  · rw [dif_neg (by simp [strs]; omega)]
    refine (congrFun (app_nx (winOf r 0 2) (winOf r 3 ((r.n : Int).toNat - 3)) (i := i) hi).1.2 0).trans ?_
    show r.S (3 + (i - 2)) 0 = _
    simp [strs]
    congr 1
    omega
/-- The pieces are no longer than the text, and not many more. -/
theorem pieces_len (k : UInt8) : ∀ l : List UInt8, (pieces k l).length ≤ l.length + 1 ∧ ∀ p ∈ pieces k l, p.length ≤ l.length
  | [] => ⟨by simp [pieces], by simp [pieces]⟩
  | c :: r => by
    obtain ⟨h1, h2⟩ := pieces_len k r
    unfold pieces
    split
    · exact ⟨by simp; omega, fun p hp => by
        rcases List.mem_cons.1 hp with rfl | hp
        · simp
        · have := h2 p hp; simp; omega⟩
    · split
      · exact ⟨by simp, fun p hp => by simp at hp; subst hp; simp⟩
      · rename_i q qs hq
        rw [hq] at h1 h2
        exact ⟨by simp at h1 ⊢; omega, fun p hp => by
          rcases List.mem_cons.1 hp with rfl | hp
          · have := h2 q (by simp); simp; omega
          · have := h2 p (by simp [hp]); simp; omega⟩
theorem splS_len (s : ByteArray) : (splS s sSp).length ≤ s.size + 1 ∧ splS s sSp ≠ [] ∧ ∀ p ∈ splS s sSp, p.size ≤ s.size := by
  have h := splS_pieces 32 s.size s (Nat.le_refl _)
  have h : (splS s sSp).map by_ = pieces 32 (by_ s) := h
  obtain ⟨h1, h2⟩ := pieces_len 32 (by_ s)
  rw [← h, List.length_map, ← size_by] at h1
  refine ⟨h1, fun he => ?_, fun p hp => ?_⟩
  · rw [he] at h; exact pieces_ne 32 (by_ s) h.symm
  · rw [size_by p, size_by s]
    exact h2 (by_ p) (by rw [← h]; exact List.mem_map.2 ⟨p, hp, rfl⟩)
def rdW (s : ByteArray) : Int := fldN (nxA Wt ((rdR s).S 0 0)) 10 0 0
def rdF (s : ByteArray) : Bool := rdW s == 4 && (decide (2 < (rdR s).n) && ((rdR s).S 2 0).toList == sFor.toList)
def rdC (s : ByteArray) : Row := bif rdF s then cut3 (rdR s) else rdR s
def rdA (s : ByteArray) : Row × Row := fldN (nxB (rdC s) 1) ((rdC s).n - 1) 0 (.nil, .nil)
def rdN (s : ByteArray) : Row := winOf (rdA s).1 0 (rdA s).1.n
def rdU (s : ByteArray) : Row := winOf (rdA s).2 0 (rdA s).2.n
/-- The pieces behind the word. -/
def rdP (s : ByteArray) : List ByteArray := bif rdF s then ((splS s sSp).take 2 ++ (splS s sSp).drop 3).tail else (splS s sSp).tail
theorem rdC_strs (s : ByteArray) : strs (rdC s) (rdC s).n = bif rdF s then (splS s sSp).take 2 ++ (splS s sSp).drop 3 else splS s sSp := by
  unfold rdC
  cases h : rdF s
  · exact strs_rowS (splS s sSp)
  · unfold rdF at h
    simp only [Bool.and_eq_true, decide_eq_true_eq] at h
    show strs (cut3 (rdR s)) (cut3 (rdR s)).n = _
    rw [strs_cut3 _ h.2.1]
    show (strs (rowS (splS s sSp)) (splS s sSp).length).take 2 ++ (strs (rowS (splS s sSp)) (splS s sSp).length).drop 3 = _
    rw [strs_rowS]
    rfl
theorem rd_lists (s : ByteArray) : strs (rdN s) (rdN s).n = nmsL (rdP s) ∧ ints (rdU s) (rdU s).n = nusL (rdP s) := by
  obtain ⟨h1, h2⟩ := nxB_lists (rdC s) 1 ((rdC s).n - 1) 0 (.nil, .nil)
  rw [tail_strs, rdC_strs] at h1 h2
  have e : (bif rdF s then (splS s sSp).take 2 ++ (splS s sSp).drop 3 else splS s sSp).tail = rdP s := by unfold rdP; cases rdF s <;> rfl
  rw [e] at h1 h2
  exact ⟨h1, h2⟩
theorem rdP_len (s : ByteArray) : (rdP s).length ≤ s.size ∧ ∀ p ∈ rdP s, p.size ≤ s.size := by
  obtain ⟨h1, h2, h3⟩ := splS_len s
  unfold rdP
  cases rdF s
  · exact ⟨by show (splS s sSp).tail.length ≤ _; rw [List.length_tail]; omega, fun p hp => h3 p (List.mem_of_mem_tail hp)⟩
  · exact ⟨by show ((splS s sSp).take 2 ++ (splS s sSp).drop 3).tail.length ≤ _; rw [List.length_tail, List.length_append, List.length_take, List.length_drop]; omega, fun p hp => by
      rcases List.mem_append.1 (List.mem_of_mem_tail hp) with h | h
      · exact h3 p (List.mem_of_mem_take h)
      · exact h3 p (List.mem_of_mem_drop h)⟩
/-- A valid line may be written. -/
theorem has_le (w : Int) : (hasS w).b ≤ 10 ∧ (hasS w).d ≤ 90 := by
  unfold hasS hasL
  repeat unfold pick
  cases w == 1 <;> cases w == 2 <;> cases w == 3 <;> cases w == 4 <;> cases w == 5 <;> cases w == 6 <;> cases w == 8 <;> cases w == 10 <;> exact ⟨by decide, by decide⟩
theorem va_ws {w : Int} {nm nu : Row} (h : vaB w nm nu = true) : (1 ≤ w ∧ w ≤ 10) ∧ wsB nm nu = true := by
  unfold vaB at h
  simp only [Bool.and_eq_true, decide_eq_true_eq, Bool.not_eq_true', anyF_false, Nat.zero_add, Nat.zero_le, forall_const] at h
  obtain ⟨hw, hr, hn, hu, _⟩ := h
  obtain ⟨_, r1, _, r2⟩ := ranB_iff.1 hr
  obtain ⟨q1, q2⟩ := has_le w
  refine ⟨hw, wsB_iff.2 ⟨⟨by omega, by omega⟩, fun i hi => ?_, fun i hi => ?_⟩⟩
  · have := hn i hi
    unfold badN nmB at this
    simp only [Bool.not_eq_false', Bool.and_eq_true, decide_eq_true_eq] at this
    omega
  · have := hu i hi
    unfold badU at this
    simp only [Bool.or_eq_false_iff, decide_eq_false_iff_not] at this
    unfold dcA
    simp only [Bool.and_eq_true, decide_eq_true_eq]
    omega
def rdB (s : ByteArray) : Bool := vaB (rdW s) (rdN s) (rdU s) && (txt (wrL (rdW s) (rdN s) (rdU s))).toList == s.toList
def Fread : List D → Option (Bool × List D)
  | [.v (.string s)] => some (decide (s.size ≤ 1000000), [.agg [.v (u8 (rdW s)), .slice ksS (rdN s), .slice ksI (rdU s)], .v (.bool (rdB s))])
  | _ => none
theorem tEnd_is (s : ByteArray) (h : s.size ≤ 1000000) : tEnd s (rdW s) (rdN s) (rdU s) = some [.agg [.v (u8 (rdW s)), .slice ksS (rdN s), .slice ksI (rdU s)], .v (.bool (rdB s))] := by
  obtain ⟨h1, h2⟩ := rd_lists s
  obtain ⟨h3, h4⟩ := rdP_len s
  have n1 : (rdN s).n ≤ 1000000 := by
    have := congrArg List.length h1
    rw [strs_len] at this
    rw [this]
    exact Nat.le_trans (List.length_filter_le _ _) (by omega)
  have n2 : (rdU s).n ≤ 1000000 := by
    have := congrArg List.length h2
    rw [ints_len] at this
    rw [this]
    unfold nusL
    rw [List.length_map]
    exact Nat.le_trans (List.length_filter_le _ _) (by omega)
  have n3 : smN (rdN s) (rdN s).n = true := smN_iff.2 ⟨n1, fun i hi => by
    have h5 := strs_mem (r := rdN s) hi
    rw [h1] at h5
    have := h4 _ (List.mem_filter.1 h5).1
    omega⟩
  unfold tEnd rdB
  rw [n3, decide_eq_true n2]
  cases hv : vaB (rdW s) (rdN s) (rdU s)
  · rfl
  · obtain ⟨h6, h7⟩ := va_ws hv
    rw [h7, decide_eq_true h6]
    rfl
theorem tB_is (s : ByteArray) (h : s.size ≤ 1000000) : tB s (rdW s) (rdC s) ((rdC s).n - 1) = some [.agg [.v (u8 (rdW s)), .slice ksS (rdN s), .slice ksI (rdU s)], .v (.bool (rdB s))] := by
  unfold tB
  have hm := rdC_strs s
  obtain ⟨h1, h2, h3⟩ := splS_len s
  have hl := congrArg List.length hm
  rw [strs_len] at hl
  have hc : c31b ⟨s, 1, (rdC s).n - 1, (((rdC s).n - 1 : Nat) : Int), 0, 0, rdW s, 0, 0, rdC s, .nil, .nil⟩ = true := c31b_iff.2 ⟨⟨rfl, rfl, Nat.zero_le _, Nat.zero_le _⟩, ⟨rfl, rfl, by
      show (rdC s).n - 1 ≤ 1000000
      rw [hl]
      cases rdF s
      · show (splS s sSp).length - 1 ≤ _; omega
      · show ((splS s sSp).take 2 ++ (splS s sSp).drop 3).length - 1 ≤ _; rw [List.length_append, List.length_take, List.length_drop]; omega⟩, fun i hi => by
      replace hi : i < (rdC s).n - 1 := hi
      show ((rdC s).S (1 + i) 0).size ≤ _
      have h5 := strs_mem (r := rdC s) (n := (rdC s).n) (i := 1 + i) (by omega)
      rw [hm] at h5
      have h6 : (rdC s).S (1 + i) 0 ∈ splS s sSp := by
        cases hf : rdF s
        · rw [hf] at h5; exact h5
        · rw [hf] at h5
          rcases List.mem_append.1 h5 with h | h
          · exact List.mem_of_mem_take h
          · exact List.mem_of_mem_drop h
      have := h3 _ h6
      omega⟩
  rw [hc]
  exact tEnd_is s h
theorem den_read : DenW Tryd.prog Wd 31 Fread := evF_denW C31_ok fun ds rs h => by
  unfold Fread at h
  split at h
  · rename_i s
    simp only [Option.some.injEq, Prod.mk.injEq, decide_eq_true_eq] at h
    obtain ⟨h0, rfl⟩ := h
    obtain ⟨h1, h2, h3⟩ := splS_len s
    have hn : 1 ≤ (rdR s).n := by
      show 1 ≤ (splS s sSp).length
      cases hs : splS s sSp with
      | nil => exact absurd hs h2
      | cons a l => simp
    have hn2 : (rdR s).n ≤ 1000001 := by show (splS s sSp).length ≤ _; omega
    have key := tB_is s h0
    refine (u31 s).trans ?_
    rw [decide_eq_true (show s.size < 4294967281 by omega), c31a_iff.2 ⟨rfl, rfl, rfl, hn⟩]
    show tT s (rdR s) (rdW s) = _
    have eN : rdF s = false → tN s (rdW s) (rdR s) = some [.agg [.v (u8 (rdW s)), .slice ksS (rdN s), .slice ksI (rdU s)], .v (.bool (rdB s))] := fun hf => by
      unfold tN
      rw [decide_eq_true (show (0 : Int) ≤ ((rdR s).n : Int) by omega), decide_eq_true (show ((rdR s).n : Int) ≤ ((rdR s).n : Int) by omega), Int.toNat_natCast, decide_eq_true (show (1 : Int) ≤ ((rdR s).n : Int) by omega)]
      have e : rdC s = rdR s := by unfold rdC; rw [hf]; rfl
      rw [e] at key
      exact key
    unfold tT
    cases h4 : rdW s == 4
    · exact eN (by unfold rdF; rw [h4]; rfl)
    · by_cases h5 : 2 < (rdR s).n
      · rw [decide_eq_true (show ((rdR s).n : Int) > 2 by omega)]
        cases h6 : ((rdR s).S 2 0).toList == sFor.toList
        · exact eN (by unfold rdF; rw [h4, h6, Bool.and_false]; rfl)
        · have hf : rdF s = true := by unfold rdF; rw [h4, h6, decide_eq_true h5]; rfl
          have e : rdC s = cut3 (rdR s) := by unfold rdC; rw [hf]; rfl
          have hc := cut3_n _ h5
          show tF s (rdW s) (rdR s) = _
          unfold tF
          rw [decide_eq_true (show (2 : Int) ≤ ((rdR s).n : Int) by omega), decide_eq_true (show (0 : Int) ≤ ((rdR s).n : Int) by omega), decide_eq_true (show ((rdR s).n : Int) ≤ ((rdR s).n : Int) by omega), Int.toNat_natCast, decide_eq_true (show (3 : Int) ≤ ((rdR s).n : Int) by omega), Int.toNat_natCast,
            decide_eq_true (show 2 - 0 + (winOf (rdR s) (0 + 3) ((rdR s).n - 3)).n ≤ 10000000000 from (by show 2 - 0 + ((rdR s).n - 3) ≤ _; omega)), decide_eq_true (show (0 : Int) ≤ ((cut3 (rdR s)).n : Int) by omega), decide_eq_true (show ((cut3 (rdR s)).n : Int) ≤ ((cut3 (rdR s)).n : Int) by omega), decide_eq_true (show (1 : Int) ≤ ((cut3 (rdR s)).n : Int) by omega)]
          rw [e] at key
          exact key
      · rw [decide_eq_false (show ¬ ((rdR s).n : Int) > 2 by omega)]
        exact eN (by unfold rdF; rw [decide_eq_false h5, Bool.false_and, Bool.and_false])
  · cases h
end Go.Proofs.YtopdfmhlgkbaaaaDoor
/- Parse. No conditions. -/
namespace Go.Proofs.YtopdfmhlgkbaaaaDoor
open Go.Ev Go.RowKit Go.Lib Go.Dec
set_option linter.all false
def oneB (s : ByteArray) : ByteArray := txt (sp 10 (by_ s)).1
def restB (s : ByteArray) : ByteArray := txt ((sp 10 (by_ s)).2.getD [])
def okB (s : ByteArray) : Bool := (sp 10 (by_ s)).2.isSome
def lnF : Nat → List UInt8 → Nat
  | 0, _ => 0
  | _ + 1, [] => 0
  | f + 1, c :: r => lnF f ((sp 10 (c :: r)).2.getD []) + 1
theorem sp_lt (k c : UInt8) (r : List UInt8) : ((sp k (c :: r)).2.getD []).length < (c :: r).length := by
  obtain ⟨_, _, h3⟩ := sp_take k (c :: r)
  cases h : (sp k (c :: r)).2 with
  | none => simp
  | some y =>
    obtain ⟨h4, h5, _⟩ := h3 y h
    show y.length < _
    rw [← h5, List.length_drop]
    omega
theorem lnF_eq : ∀ (f g : Nat) (l : List UInt8), l.length ≤ f → l.length ≤ g → lnF f l = lnF g l
  | 0, 0, l, _, _ => rfl
  | 0, g + 1, [], _, _ => rfl
  | 0, g + 1, c :: r, h, _ => by simp at h
  | f + 1, 0, [], _, _ => rfl
  | f + 1, 0, c :: r, _, h => by simp at h
  | f + 1, g + 1, [], _, _ => rfl
  | f + 1, g + 1, c :: r, h1, h2 => by
    have := sp_lt 10 c r
    simp only [List.length_cons] at h1 h2 this
    show lnF f _ + 1 = lnF g _ + 1
    rw [lnF_eq f g _ (by omega) (by omega)]
theorem lnF_le : ∀ (f : Nat) (l : List UInt8), lnF f l ≤ f
  | 0, _ => Nat.le_refl _
  | f + 1, [] => Nat.zero_le _
  | f + 1, c :: r => Nat.succ_le_succ (lnF_le f _)
/-- In how many lines a text is cut. -/
def lnN (s : ByteArray) : Nat := lnF s.size (by_ s)
theorem rest_size {s : ByteArray} (h : by_ s ≠ []) : (restB s).size < s.size := by
  unfold restB
  rw [txt_size, size_by s]
  cases hb : by_ s with
  | nil => exact absurd hb h
  | cons c r => exact sp_lt 10 c r
theorem lnN_rest {s : ByteArray} (h : by_ s ≠ []) : lnN s = lnN (restB s) + 1 := by
  have h1 := rest_size h
  unfold lnN
  cases hb : by_ s with
  | nil => exact absurd hb h
  | cons c r =>
    have hs : s.size = (s.size - 1) + 1 := by have := size_by s; rw [hb, List.length_cons] at this; omega
    rw [hs]
    show lnF (s.size - 1) _ + 1 = lnF (restB s).size (by_ (restB s)) + 1
    have e : by_ (restB s) = (sp 10 (c :: r)).2.getD [] := by unfold restB; rw [by_txt, hb]
    rw [e]
    congr 1
    refine lnF_eq _ _ _ ?_ ?_
    · rw [← e, ← size_by]; omega
    · rw [← e, ← size_by]; exact Nat.le_refl _
theorem lnN_nil {s : ByteArray} (h : by_ s = []) : lnN s = 0 := by
  unfold lnN
  rw [size_by, h]; rfl
theorem lnN_zero {s : ByteArray} (h : lnN s = 0) : by_ s = [] := by
  cases hb : by_ s with
  | nil => rfl
  | cons c r => have := lnN_rest (s := s) (by rw [hb]; simp); omega
theorem lnN_le (s : ByteArray) : lnN s ≤ s.size := lnF_le _ _
def lnS (s : ByteArray) : Row := lnR (rdW s) (winOf (rdN s) 0 (rdN s).n) (winOf (rdU s) 0 (rdU s).n)
def stP (_ : Nat) (a : ByteArray × Row) : Bool := !okB a.1 || !rdB (oneB a.1)
def nxP (_ : Nat) (a : ByteArray × Row) : ByteArray × Row := (restB a.1, pushL a.2 (lnS (oneB a.1)))
def p11 : PSt := { τ := [.v (.str)] ++ pu 3 ++ [.v (.sl 0)] ++ pu 39, saved := [[]], mem := [.deep ksL] }
def d11 (its : List It) : Option (ByteArray × Nat × Row) := match its with | [.s s, .n n, .r l] => some (s, n, l) | _ => none
def c11 (x : ByteArray × Nat × Row) : Bool := decide (x.2.1 = x.2.2.n ∧ x.1.size ≤ 1000000 ∧ x.2.2.n = 0)
theorem c11_iff {x : ByteArray × Nat × Row} : c11 x = true ↔ x.2.1 = x.2.2.n ∧ x.1.size ≤ 1000000 ∧ x.2.2.n = 0 := by unfold c11; rw [decide_eq_true_eq]
def l11 : RunL (ByteArray × Nat × Row) (ByteArray × Row) where
  f := 11
  id := 4
  lv := [0, 4, 2062936850004]
  lx := [2, 3, 4]
  p := p11
  dat := d11
  S := fun _ _ a => [.s a.1, .n a.2.n, .r a.2]
  len := fun x => lnN x.1
  cnd := c11
  ini := fun x => (x.1, x.2.2)
  stop := fun _ => stP
  nx := fun _ => nxP
  Kb := fun _ _ a K => K .ret ⟨us 2 ++ [.slice none 0 0, i64 12, .slice (some ⟨0, 0, some 0⟩) (a.2.n) (0)] ++ us 39, [[]], [some (.deep ksL a.2 none)]⟩
  Ke := fun _ a K => K (.exit 0) ⟨us 4 ++ [.slice (some ⟨0, 0, some 0⟩) (a.2.n) (0)] ++ us 39, [[]], [some (.deep ksL a.2 none)]⟩
noncomputable def C11 : Cx := mkCx Tryd.prog fns [(30, Fcut), (31, Fread), (15, Fcheck)] [l11.C]
theorem r11 (R : St → Option (List D)) (K : X → St → Option (List D)) (q n : Nat) (s : ByteArray) (l : Row) : bodyOf C11 11 4 q (Go.Ev.bst p11 [.s s, .n n, .r l]) (rnd [0, 4, 2062936850004] (some [2, 3, 4]) R K) =
    br (!s.toList == { data := { toList := [] : Array UInt8 } : ByteArray }.toList) (br (decide (s.size < 4294967281)) (br (decide ((txt (cut (by_ s) (by_ { data := #[10] : ByteArray })).fst).size ≤ 1000000)) (br (!(cut (by_ s) (by_ { data := #[10] : ByteArray })).snd.2) (K .ret ⟨us 2 ++ [.slice none (0) (0), i64 (12), .slice (some ⟨0, 0, some 0⟩) (n) (0)] ++ us 39, [[]], [some (.deep [.int .u8, .slice [.str], .slice [.int .i64]] (l) none)]⟩) (br (!rdB (txt (cut (by_ s) (by_ { data := #[10] : ByteArray })).1)) (K .ret ⟨us 2 ++ [.slice none (0) (0), i64 (12), .slice (some ⟨0, 0, some 0⟩) (n) (0)] ++ us 39, [[]], [some (.deep [.int .u8, .slice [.str], .slice [.int .i64]] (l) none)]⟩) (br (decide (n + 1 ≤ 10000000000)) (R ⟨[.string (txt (cut (by_ s) (by_ { data := #[10] : ByteArray })).snd.1)] ++ us 3 ++ [.slice (some ⟨0, 0, some 0⟩) (n + 1) (0)] ++ us 39, [[]], [some (.deep [.int .u8, .slice [.str], .slice [.int .i64]] ((winOf l 0 n).app (winOf ((((Row.zeros 1).setI 0 0 (rdW (txt (cut (by_ s) (by_ { data := #[10] : ByteArray })).1))).setR 0 1 (winOf (rdN (txt (cut (by_ s) (by_ { data := #[10] : ByteArray })).1)) 0 (rdN (txt (cut (by_ s) (by_ { data := #[10] : ByteArray })).1)).n)).setR 0 2 (winOf (rdU (txt (cut (by_ s) (by_ { data := #[10] : ByteArray })).1)) 0 (rdU (txt (cut (by_ s) (by_ { data := #[10] : ByteArray })).1)).n)) 0 1)) none)]⟩) (none)))) (none)) (none)) (K (.exit 0) ⟨us 4 ++ [.slice (some ⟨0, 0, some 0⟩) (n) (0)] ++ us 39, [[]], [some (.deep [.int .u8, .slice [.str], .slice [.int .i64]] (l) none)]⟩) := by kernel_rfl
def paR (s : ByteArray) : Bool × Nat × ByteArray × Row := runS stP nxP (lnN s) 0 (s, .nil)
def paL (s : ByteArray) : Row := winOf (paR s).2.2.2 0 (paR s).2.2.2.n
theorem u11 (s : ByteArray) : evF C11 6 11 [.v (.string s)] =
    br (decide ((s.size : Int) > 20000)) (some [.slice ksL .nil, .v (i64 4)]) (br (c11 (s, 0, .nil)) (br (paR s).1 (some [.slice ksL .nil, .v (i64 12)]) (br (decide ((paL s).n > 200) || okL (paL s)) (br (naE (paL s) != 0) (some [.slice ksL .nil, .v (i64 (naE (paL s)))]) (some [.slice ksL (paL s), .v (i64 0)])) none)) none) := by kernel_rfl
theorem cutN (s : ByteArray) : cut (by_ s) (by_ ⟨#[10]⟩) = ((sp 10 (by_ s)).1, (sp 10 (by_ s)).2.getD [], (sp 10 (by_ s)).2.isSome) := cut_sp 10 (by_ s)
theorem one_size (s : ByteArray) : (oneB s).size ≤ s.size := by
  unfold oneB
  rw [txt_size, size_by s]
  have := (sp_take 10 (by_ s)).1
  have h := congrArg List.length this
  rw [List.length_take] at h
  omega
theorem rest_le (s : ByteArray) : (restB s).size ≤ s.size := by
  by_cases h : by_ s = []
  · unfold restB
    rw [h, txt_size]
    exact Nat.zero_le _
  · exact Nat.le_of_lt (rest_size h)
theorem win_win (r : Row) (n : Nat) : winOf (winOf r 0 n) 0 n = winOf r 0 n := rfl
theorem pl_lo (o ln : Row) {i : Nat} (h : i < o.n) : (pushL o ln).I i = o.I i ∧ (pushL o ln).R i = o.R i := by
  obtain ⟨⟨h1, _⟩, h2⟩ := app_at (winOf o 0 o.n) ln (i := i) h
  exact ⟨h1, h2⟩
theorem pl_hi (o : Row) (w : Int) (nm nu : Row) : (pushL o (lnR w nm nu)).I o.n 0 = w ∧ (pushL o (lnR w nm nu)).R o.n 1 = nm ∧ (pushL o (lnR w nm nu)).R o.n 2 = nu := by
  obtain ⟨⟨h1, _⟩, h2⟩ := app_nx (winOf o 0 o.n) (lnR w nm nu) (i := o.n) (Nat.lt_irrefl _)
  have e : o.n - (winOf o 0 o.n).n = 0 := Nat.sub_self _
  rw [e] at h1 h2
  unfold pushL
  rw [h1, h2]
  exact ⟨rfl, rfl, rfl⟩
structure InvP (s : ByteArray) (j : Nat) (a : ByteArray × Row) : Prop where
  size : a.1.size ≤ s.size
  cnt : lnN a.1 + j = lnN s
  n : a.2.n = j
  va : ∀ i, i < j → vaL a.2 i = true
theorem stP_false {j : Nat} {a : ByteArray × Row} (h : stP j a = false) : okB a.1 = true ∧ rdB (oneB a.1) = true := by
  unfold stP at h
  rw [Bool.or_eq_false_iff] at h
  exact ⟨by simpa using h.1, by simpa using h.2⟩
theorem InvP.nx {s : ByteArray} {j : Nat} {a : ByteArray × Row} (hj : j < lnN s) (h : InvP s j a) (hs : stP j a = false) : InvP s (j + 1) (nxP j a) := by
  have hc := h.cnt
  have hne : by_ a.1 ≠ [] := fun he => by have := lnN_nil he; omega
  have hr := lnN_rest hne
  refine ⟨Nat.le_trans (rest_le a.1) h.size, ?_, ?_, fun i hi => ?_⟩
  · show lnN (restB a.1) + (j + 1) = _; omega
  · show a.2.n + 1 = j + 1; rw [h.n]
  · show vaL (pushL a.2 (lnS (oneB a.1))) i = true
    unfold vaL
    by_cases hij : i < j
    · obtain ⟨e1, e2⟩ := pl_lo a.2 (lnS (oneB a.1)) (i := i) (by rw [h.n]; exact hij)
      rw [e1, e2]
      exact h.va i hij
    · have hij : i = a.2.n := by rw [h.n]; omega
      subst hij
      obtain ⟨e1, e2, e3⟩ := pl_hi a.2 (rdW (oneB a.1)) (winOf (rdN (oneB a.1)) 0 (rdN (oneB a.1)).n) (winOf (rdU (oneB a.1)) 0 (rdU (oneB a.1)).n)
      unfold lnS
      rw [e1, e2, e3]
      have := (stP_false hs).2
      unfold rdB at this
      exact (Bool.and_eq_true_iff.1 this).1
theorem InvP.ini (s : ByteArray) (l : Row) (h : l.n = 0) : InvP s 0 (s, l) := ⟨Nat.le_refl _, rfl, h, fun i hi => absurd hi (Nat.not_lt_zero i)⟩
theorem ne_nil {s : ByteArray} (h : by_ s ≠ []) : (!s.toList == { data := { toList := [] : Array UInt8 } : ByteArray }.toList) = true := by
  rw [toList_by, toList_by]
  cases hb : by_ s with
  | nil => exact absurd hb h
  | cons c r => rfl
theorem is_nil {s : ByteArray} (h : by_ s = []) : (!s.toList == { data := { toList := [] : Array UInt8 } : ByteArray }.toList) = false := by
  rw [toList_by, toList_by, h]
  rfl
set_option maxRecDepth 100000 in
theorem ok11 : LoopOk C11 l11.C := l11.ok (fun x => InvP x.1) (by kernel_rfl)
  (fun its x h hc => by
    replace h : d11 its = some x := h
    unfold d11 at h
    split at h
    · cases h
      obtain ⟨h1, h2, h3⟩ := c11_iff.1 hc
      dsimp only at h1
      subst h1
      rfl
    · cases h)
  (fun x hc => by have := (c11_iff.1 hc).2.1; have := lnN_le x.1; show lnN x.1 < 18446744073709551616; omega)
  (fun x hc => InvP.ini x.1 x.2.2 (c11_iff.1 hc).2.2)
  (fun x j a hc hj hI hs => InvP.nx hj hI hs)
  (fun q ⟨s0, n, l⟩ j a hc hj hI R K => by
    obtain ⟨h1, h2, h3⟩ := c11_iff.1 hc
    dsimp only at h1 h2 h3
    replace hj : j < lnN s0 := hj
    replace hI : InvP s0 j a := hI
    have hsz := hI.size
    have hn := hI.n
    have hc' := hI.cnt
    have hne : by_ a.1 ≠ [] := fun he => by have := lnN_nil he; omega
    have hl := lnN_le s0
    refine (r11 R K q a.2.n a.1 a.2).trans ?_
    rw [cutN, ne_nil hne, decide_eq_true (show a.1.size < 4294967281 by omega), decide_eq_true (show (txt (sp 10 (by_ a.1)).1).size ≤ 1000000 from Nat.le_trans (one_size a.1) (by omega)), decide_eq_true (show a.2.n + 1 ≤ 10000000000 by omega)]
    show br true (br true (br true (br (!okB a.1) _ (br (!rdB (oneB a.1)) _ (br true _ none))) none) none) _ = br (!okB a.1 || !rdB (oneB a.1)) _ _
    cases okB a.1 <;> cases rdB (oneB a.1) <;> rfl)
  (fun q ⟨s0, n, l⟩ a hc hI R K => by
    replace hI : InvP s0 (lnN s0) a := hI
    have h0 := lnN_zero (s := a.1) (by have := hI.cnt; omega)
    refine (r11 R K q a.2.n a.1 a.2).trans ?_
    rw [is_nil h0]
    rfl)
theorem C11_ok : CxW C11 Wd := mkCx_okW enter mixed (fun p h => by
  simp only [List.mem_cons, List.not_mem_nil, or_false] at h
  rcases h with rfl | rfl | rfl
  · exact den_cut
  · exact den_read
  · exact den_check.at _) (fun l h => by
  simp only [List.mem_cons, List.not_mem_nil, or_false] at h
  subst h
  exact ok11)
def paE (s : ByteArray) : Int := bif decide (20000 < s.size) then 4 else bif (paR s).1 then 12 else naE (paL s)
def paO (s : ByteArray) : Row := bif decide (20000 < s.size) || ((paR s).1 || naE (paL s) != 0) then .nil else paL s
def Fparse : List D → Option (Bool × List D)
  | [.v (.string s)] => some (decide (s.size ≤ 1000000), [.slice ksL (paO s), .v (i64 (paE s))])
  | _ => none
theorem pa_inv (s : ByteArray) : InvP s (paR s).2.1 (paR s).2.2 ∧ ((paR s).1 = true → (paR s).2.1 < lnN s ∧ stP (paR s).2.1 (paR s).2.2 = true) ∧ ((paR s).1 = false → (paR s).2.1 = lnN s) :=
  runS_inv (Inv := InvP s) (len := lnN s) (fun j a hj hI hs => hI.nx hj hs) (by omega) (InvP.ini s .nil rfl)
theorem vaL_lnB {l : Row} {i : Nat} (h : vaL l i = true) : lnB l i = true := by
  unfold vaL at h
  obtain ⟨_, h2⟩ := va_ws h
  obtain ⟨⟨h3, h4⟩, h5, _⟩ := wsB_iff.1 h2
  unfold lnB
  rw [Bool.and_eq_true, decide_eq_true_eq]
  exact ⟨smN_iff.2 ⟨by omega, fun j hj => by have := h5 j hj; omega⟩, by omega⟩
theorem paL_va (s : ByteArray) : ∀ i, i < (paL s).n → vaL (paL s) i = true := fun i hi => by
  obtain ⟨h1, _⟩ := pa_inv s
  have hn := h1.n
  exact h1.va i (by replace hi : i < (paR s).2.2.2.n := hi; omega)
theorem paL_ok (s : ByteArray) (h : s.size ≤ 1000000) : okL (paL s) = true := by
  obtain ⟨h1, h2, h3⟩ := pa_inv s
  refine okL_iff.2 ⟨?_, fun i hi => vaL_lnB (paL_va s i hi)⟩
  have hn : (paL s).n = (paR s).2.1 := h1.n
  have := h1.cnt
  have := lnN_le s
  omega
theorem den_parse : DenW Tryd.prog Wd 11 Fparse := evF_denW C11_ok fun ds rs h => by
  unfold Fparse at h
  split at h
  · rename_i s
    simp only [Option.some.injEq, Prod.mk.injEq, decide_eq_true_eq] at h
    obtain ⟨h0, rfl⟩ := h
    refine (u11 s).trans ?_
    rw [c11_iff.2 ⟨rfl, h0, rfl⟩, paL_ok s h0, Bool.or_true]
    unfold paO paE
    by_cases h2 : 20000 < s.size
    · rw [decide_eq_true (show (s.size : Int) > 20000 by omega), decide_eq_true h2]; rfl
    · rw [decide_eq_false (show ¬ (s.size : Int) > 20000 by omega), decide_eq_false h2]
      cases (paR s).1
      · cases hn : naE (paL s) != 0
        · have : naE (paL s) = 0 := by simpa using hn
          rw [this]; rfl
        · rfl
      · rfl
  · cases h
end Go.Proofs.YtopdfmhlgkbaaaaDoor
/- Text, walked by hand. No conditions. -/
namespace Go.Proofs.YtopdfmhlgkbaaaaDoor
open Go.Ev Go.RowKit Go.Lib Go.Dec
set_option linter.all false
/-- The text of the first n lines. -/
def teL (l : Row) : Nat → List UInt8
  | 0 => []
  | n + 1 => teL l n ++ (wrL (l.I n 0) (l.R n 1) (l.R n 2) ++ [10])
theorem cells_txt (x : List UInt8) : Lib.strCells (txt x ++ ⟨#[10]⟩) = Lib.byteCells (x ++ [10]) := by
  show Lib.byteCells (by_ (txt x ++ ⟨#[10]⟩)) = _
  rw [by_app, by_txt]
  rfl
set_option maxHeartbeats 4000000 in
set_option maxRecDepth 1000000 in
theorem text_walk (l : Row) (w : World) (a : Option Addr) (cap b off : Nat) (c1 c2 : Nat → Value) (ec : Int) (ha : 0 < l.n → a = some ⟨b, off, none⟩)
    (h0 : ∀ e, e < l.n → w.cell? ⟨b, off + e * 3, none⟩ = some (.int .u8 (l.I e 0)) ∧ w.cell? ⟨b, off + e * 3 + 1, none⟩ = some (c1 e) ∧ w.cell? ⟨b, off + e * 3 + 2, none⟩ = some (c2 e)) (hb : 0 < l.n → b < w.heap.size)
    (hsl : ∀ e, e < l.n → (∃ a n c, c1 e = .slice a n c) ∧ ∃ a n c, c2 e = .slice a n c)
    (hchk : Calls Tryd.prog 15 #[.slice a l.n cap] w fun e w' => e = .returned (.int .i64 ec) ∧ Below w.heap.size w w')
    (hwr : ec = 0 → ∀ e, e < l.n → ∀ w', Below w.heap.size w w' → Calls Tryd.prog 25 #[.agg #[.int .u8 (l.I e 0), c1 e, c2 e]] w' fun x w'' => x = .returned (.string (txt (wrL (l.I e 0) (l.R e 1) (l.R e 2)))) ∧ Below w'.heap.size w' w'')
    (hlen : ec = 0 → ∀ n, n ≤ l.n → (teL l n).length ≤ 1000000000000) (hn : ec = 0 → l.n ≤ 1000000) :
    Calls Tryd.prog 9 #[.slice a l.n cap] w fun e w' => e = .returned (.tuple #[.string (bif ec != 0 then .empty else bif decide (20000 < (teL l l.n).length) then .empty else txt (teL l l.n)), .int .i64 (bif ec != 0 then ec else bif decide (20000 < (teL l l.n).length) then 4 else 0)]) ∧ Below w.heap.size w w' := by
  go_enter Tryd.func9, Tryd.ntmps9
  go_wp2_with (go_at_call 15; refine hchk.mono ?_)
  rintro e w1 ⟨rfl, hb1⟩
  by_cases hec : ec = 0
  rotate_left
  · have hec2 : (ec != 0) = true := by simpa using hec
    go_wp2
    go_ret2
    rw [hec2]
    exact ⟨rfl, hb1⟩
  · replace hwr := hwr hec
    replace hlen := hlen hec
    replace hn := hn hec
    subst hec
    go_wp2
    go_loopw [15] (fun i wr => ∃ k : Nat, i = .int .i64 k ∧ k ≤ l.n ∧ Lib.IsBuilderF 58 5 w1.heap.size w1.heap.size (Lib.byteCells (teL l k)) wr ∧ Below w1.heap.size w1 wr) (fun i _ => l.n - (RowKit.intOf i).toNat)
    case atStart =>
      exact ⟨0, rfl, Nat.zero_le _, Lib.IsBuilderF.of (Lib.fresh_isBuilder 58 5 w1), (Below.refl _ w1).alloc (Nat.le_refl _) _⟩
    case round =>
      obtain ⟨k, rfl, hk, hI, hbw⟩ := hrel
      by_cases hp : k < l.n
      · have ha' := ha (by omega)
        subst ha'
        obtain ⟨g0, g1, g2⟩ := h0 k hp
        have hbs := hb (by omega)
        have hbl := hb1.trans (hbw.mono hb1.size)
        have d0 : wr.cell? ⟨b, off + k * 3, none⟩ = some (.int .u8 (l.I k 0)) := by rw [← g0]; exact hbl.cell hbs
        have d1 : wr.cell? ⟨b, off + k * 3 + 1, none⟩ = some (c1 k) := by rw [← g1]; exact hbl.cell hbs
        have d2 : wr.cell? ⟨b, off + k * 3 + 2, none⟩ = some (c2 k) := by rw [← g2]; exact hbl.cell hbs
        obtain ⟨⟨a1, n1, p1, e1⟩, a2, n2, p2, e2⟩ := hsl k hp
        have hw := hwr k hp
        rw [e1] at d1
        rw [e2] at d2
        rw [e1, e2] at hw
        clear h0 g0 g1 g2 hsl hwr
        go_wp2_with (first | (go_at_call 25; refine (hw _ ?_).mono ?_))
        · exact hbl.alloc hbl.size _
        intro e w2 he hb2
        subst he
        have hI2 := (hI.alloc (.cells #[.int .u8 (l.I k 0), .slice a1 n1 p1, .slice a2 n2 p2] 45)).below (W' := w2) (by simpa using hb2)
        have hb3 : Below w1.heap.size w1 w2 := (hbw.alloc hbw.size _).trans (hb2.mono (by have := hbw.size; omega))
        have hsz := hb3.size
        have hl1 := hlen k (by omega)
        have hl2 := hlen (k + 1) (by omega)
        simp only [teL, List.length_append, List.length_cons, List.length_nil] at hl2
        go_wp2_with (first | (go_at_call 24; refine (Tryd.Builder_WriteString_k w1.heap.size w1.heap.size _ _ _ hI2 ?_ hsz).mono ?_))
        · rename_i hbad
          exfalso
          rw [txt_size] at hbad
          omega
        · rw [Lib.byteCells_length, ByteArray.size_append, txt_size]
          show _ + (_ + 1) ≤ _
          omega
        rintro e w3 ⟨rfl, h3, b3, _⟩
        go_wp2
        go_roundw
        case rel =>
          refine ⟨k + 1, by go_num, by omega, ?_, hb3.trans b3⟩
          rw [show teL l (k + 1) = teL l k ++ (wrL (l.I k 0) (l.R k 1) (l.R k 2) ++ [10]) from rfl, Lib.byteCells_append]
          rw [cells_txt] at h3
          exact Or.inr h3
        case measure =>
          simp [RowKit.intOf]
          omega
      · have hkn : k = l.n := by omega
        subst hkn
        clear h0 hsl hwr
        have hle := hlen l.n (Nat.le_refl _)
        go_wp2_with (first | (go_at_call 26; refine (Tryd.Builder_Len_f w1.heap.size w1.heap.size _ _ hI).mono ?_))
        rintro e w2 ⟨rfl, rfl⟩
        have hsz := hbw.size
        rw [Lib.byteCells_length]
        by_cases hbig : 20000 < (teL l l.n).length
        · have hb2 : decide (20000 < (teL l l.n).length) = true := decide_eq_true hbig
          go_wp2
          go_ret2
          rw [hb2]
          exact ⟨rfl, hb1.trans (hbw.mono hb1.size)⟩
        · have hb2 : decide (20000 < (teL l l.n).length) = false := decide_eq_false hbig
          go_wp2_with (first | (go_at_call 27; refine (Tryd.Builder_String_any_k w1.heap.size w1.heap.size _ _ hI hsz).mono ?_))
          rintro e w3 ⟨rfl, _, b3, _⟩
          go_wp2
          go_ret2
          rw [hb2]
          exact ⟨rfl, hb1.trans ((hbw.trans b3).mono hb1.size)⟩
end Go.Proofs.YtopdfmhlgkbaaaaDoor
/- Text: its contract. No conditions. -/
namespace Go.Proofs.YtopdfmhlgkbaaaaDoor
open Go.Ev Go.RowKit Go.Lib Go.Dec
set_option linter.all false
theorem kn_va {l : Row} (h : (knR l).1 = false) : ∀ i, i < l.n → vaL l i = true := by
  obtain ⟨h1, _, h3⟩ := runS_inv (stop := stK l) (nx := nxK l) (Inv := fun j _ => ∀ i, i < j → vaL l i = true) (len := l.n) (fun j a hj hI hs i hi => by
    by_cases hij : i < j
    · exact hI i hij
    · have : i = j := by omega
      subst this
      exact stK_va hs) (m := l.n) (j := 0) (a := .nil) (by omega) (fun i hi => absurd hi (Nat.not_lt_zero i))
  intro i hi
  exact h1 i (by have := h3 h; unfold knR at *; omega)
theorem na_zero {l : Row} (h : naE l = 0) : l.n ≤ 200 ∧ (knR l).1 = false ∧ ∀ i, i < l.n → vaL l i = true := by
  obtain ⟨h1, _, h3⟩ := na_le (l := l) (by rw [h]; rfl)
  have hk : (knR l).1 = false := by
    cases hc : (knR l).1
    · rfl
    · exfalso
      rw [h3] at h
      unfold knE at h
      rw [hc] at h
      unfold erK at h
      cases h4 : vaL l (knR l).2.1 <;> cases h5 : newB (l.I (knR l).2.1 0) <;> (simp only [h4, h5, cond_true, cond_false] at h; revert h; decide)
  exact ⟨h1, hk, kn_va hk⟩
theorem wr_len {w : Int} {nm nu : Row} (h : vaB w nm nu = true) : (wrL w nm nu).length ≤ 20000000 := by
  obtain ⟨hw, hs⟩ := va_ws h
  exact (ny_size (word_size hw) hs).2
theorem te_len {l : Row} (h : ∀ i, i < l.n → vaL l i = true) : ∀ n, n ≤ l.n → (teL l n).length ≤ n * 20000001
  | 0, _ => Nat.zero_le _
  | n + 1, hn => by
    have h1 := te_len h n (by omega)
    have h2 := wr_len (show vaB (l.I n 0) (l.R n 1) (l.R n 2) = true from h n (by omega))
    show (teL l n ++ (wrL (l.I n 0) (l.R n 1) (l.R n 2) ++ [10])).length ≤ _
    rw [List.length_append, List.length_append, List.length_singleton]
    omega
def teE (l : Row) : Int := bif naE l != 0 then naE l else bif decide (20000 < (teL l l.n).length) then 4 else 0
def teS (l : Row) : ByteArray := bif naE l != 0 then .empty else bif decide (20000 < (teL l l.n).length) then .empty else txt (teL l l.n)
def Ftext : List D → Option (Bool × List D)
  | [.slice [.int .u8, .slice [.str], .slice [.int .i64]] l] => some (decide (l.n > 200) || okL l, [.v (.string (teS l)), .v (i64 (teE l))])
  | _ => none
set_option maxRecDepth 100000 in
theorem den_text : DenW Tryd.prog Wd 9 Ftext := by
  intro wb hwb ds rs hF w hbw args vs mem ρ hfrom hm hl hv
  unfold Ftext at hF
  split at hF
  · rename_i l
    simp only [Option.some.injEq, Prod.mk.injEq] at hF
    obtain ⟨h0, rfl⟩ := hF
    have hck := den_check wb [.slice ksL l] [.v (i64 (naE l))] (by show some (decide (l.n > 200) || okL l, _) = _; rw [h0]) w hbw args vs mem ρ hfrom hm hl hv
    replace hfrom : fromDs false [D.slice ksL l] [] = some (vs, mem) := hfrom
    have e1 : vs = [.slice (some ⟨0, 0, some 0⟩) l.n 0] ∧ mem = [some (.row ksL false l)] := by
      have : fromDs false [D.slice ksL l] [] = some ([.slice (some ⟨0, 0, some 0⟩) l.n 0], [some (.row ksL false l)]) := rfl
      rw [this] at hfrom
      simp only [Option.some.injEq, Prod.mk.injEq] at hfrom
      exact ⟨hfrom.1.symm, hfrom.2.symm⟩
    obtain ⟨rfl, rfl⟩ := e1
    obtain ⟨c, rfl⟩ : ∃ c, args = [c] := List.length_eq_one_iff.1 hl.symm
    have hc := hv 0 _ c rfl rfl
    obtain ⟨L, hL, hn, hz, _, hrd, _⟩ := hm.blk 0 _ rfl
    cases hc with
    | sliceDead _ h2 => rw [hL] at h2; cases h2
    | @slice _ _ _ M a cap _ h2 h3 h4 h5 h6 =>
    have hML : M = L := by rw [hL] at h2; cases h2; rfl
    subst hML
    have ha : 0 < l.n → a = some ⟨M.b, M.off, none⟩ := fun h => by
      rw [h5 h]
      show some (Loc.adr M 0 0) = _
      unfold Loc.adr
      rw [Nat.zero_mul, Nat.add_zero]
    -- the cells
    obtain ⟨v, hv1, hv2⟩ : ∃ v : Nat → Nat → Value, (∀ e j k, e < l.n → ksL[j]? = some k → w.cell? ⟨M.b, M.off + e * 3 + j, none⟩ = some (v e j)) ∧ ∀ e j k, e < l.n → ksL[j]? = some k → CellR (Ev.okB [some (.row ksL false l)] ρ w) w k l e j (v e j) := by
      by_cases hpos : 0 < l.n
      · obtain ⟨_, hr⟩ := hrd hpos
        cases hr with
        | mk v g1 g2 => exact ⟨v, g1, g2⟩
      · exact ⟨fun _ _ => unk, fun e j k he => by omega, fun e j k he => by omega⟩
    have hslice : ∀ e j sub, e < l.n → ksL[j]? = some (.slice sub) → ∃ a n c, v e j = .slice a n c := fun e j sub he hk => by
      have h := hv2 e j _ he hk
      generalize v e j = y at h ⊢
      cases h with
      | slice0 _ => exact ⟨_, _, _, rfl⟩
      | slice _ _ _ _ => exact ⟨_, _, _, rfl⟩
    have hv0 : ∀ e, e < l.n → v e 0 = .int .u8 (l.I e 0) := fun e he => by
      have h := hv2 e 0 _ he (show ksL[0]? = some (.int .u8) from rfl)
      generalize v e 0 = y at h
      cases h
      rfl
    refine (text_walk l w a cap M.b M.off (fun e => v e 1) (fun e => v e 2) (naE l) ha (fun e he => ⟨?_, hv1 e 1 _ he rfl, hv1 e 2 _ he rfl⟩) (fun h => ((hrd h).1 rfl).1) (fun e he => ⟨hslice e 1 [.str] he rfl, hslice e 2 [.int .i64] he rfl⟩)
      (hck.mono fun e w' ⟨cv, he, hb, us, mem', ρ', hf, _, hcv⟩ => ?_) (fun hz e he w' hb => ?_) (fun hz n hn => ?_) (fun hz => ?_)).mono fun e w' ⟨he, hb⟩ => ?_
    · have := hv1 e 0 _ he (show ksL[0]? = some (.int .u8) from rfl)
      rw [Nat.add_zero, hv0 e he] at this
      exact this
    · have e2 : us = [i64 (naE l)] := by
        have : fromDs true [D.v (i64 (naE l))] [] = some ([i64 (naE l)], []) := rfl
        rw [this] at hf
        simp only [Option.some.injEq, Prod.mk.injEq] at hf
        exact hf.1.symm
      subst e2
      have hcv : V ρ' mem'.length (.int .i64 (naE l)) cv := hcv
      cases hcv
      exact ⟨he, hb⟩
    · -- a line is written
      obtain ⟨_, _, hva⟩ := na_zero hz
      have hve : vaB (l.I e 0) (l.R e 1) (l.R e 2) = true := hva e he
      obtain ⟨hw, hws⟩ := va_ws hve
      have hmem0 : MemR [] (fun _ => none) w'.heap.size w' := ⟨fun id b h => by simp at h, fun _ _ => rfl, fun i j b h => by obtain ⟨_, _, h1, _⟩ := h; cases h1⟩
      obtain ⟨ρ2, k1, k2, k3, k4, k5⟩ := viewVals_sound (ok := Ev.okB [] (fun _ => none) w') (r := l) (e := e) (cv := v e) ksL 0 [] _ _ _ (rfl : viewVals l e ksL 0 [] = some ([.int .u8 (l.I e 0), .slice (some ⟨0, 0, some 0⟩) (l.R e 1).n 0, .slice (some ⟨1, 0, some 0⟩) (l.R e 2).n 0], [some (.row ksS false (l.R e 1)), some (.row ksI false (l.R e 2))])) hmem0 (fun b hb => hb) (fun i k hk => by
        have := hv2 e i k he hk
        rw [Nat.zero_add]
        exact this.mono fun b hb' => ⟨⟨Nat.lt_of_lt_of_le hb'.1 hb.size, fun id ho => by obtain ⟨_, _, h1, _⟩ := ho; cases h1⟩, hb.block b hb'.1⟩)
      have hw2 := den_write wb hwb [.agg [.v (u8 (l.I e 0)), .slice ksS (l.R e 1), .slice ksI (l.R e 2)]] [.v (str (wrL (l.I e 0) (l.R e 1) (l.R e 2)))] (by
        show some (decide (1 ≤ l.I e 0 ∧ l.I e 0 ≤ 10) && wsB (l.R e 1) (l.R e 2), _) = _
        rw [decide_eq_true hw, hws]
        rfl) w' (hbw.trans (hb.mono hbw.size)) [.agg #[.int .u8 (l.I e 0), v e 1, v e 2]] [.agg #[.int .u8 (l.I e 0), .slice (some ⟨0, 0, some 0⟩) (l.R e 1).n 0, .slice (some ⟨1, 0, some 0⟩) (l.R e 2).n 0]] [some (.row ksS false (l.R e 1)), some (.row ksI false (l.R e 2))] ρ2 rfl k1 rfl (fun i x c hx hc => by
          match i, hx, hc with
          | 0, hx, hc =>
            simp at hx hc
            subst hx hc
            refine .agg rfl fun j x y hx hy => ?_
            match j, hx, hy with
            | 0, hx, hy => simp at hx hy; subst hx hy; exact .int
            | 1, hx, hy => simp at hx hy; subst hx hy; exact k5 1 _ rfl
            | 2, hx, hy => simp at hx hy; subst hx hy; exact k5 2 _ rfl)
      refine hw2.mono fun x w'' ⟨cv, he', hb', us, mem', ρ', hf, _, hcv⟩ => ?_
      have e2 : us = [str (wrL (l.I e 0) (l.R e 1) (l.R e 2))] := by
        have : fromDs true [D.v (str (wrL (l.I e 0) (l.R e 1) (l.R e 2)))] [] = some ([str (wrL (l.I e 0) (l.R e 1) (l.R e 2))], []) := rfl
        rw [this] at hf
        simp only [Option.some.injEq, Prod.mk.injEq] at hf
        exact hf.1.symm
      subst e2
      have hcv : V ρ' mem'.length (.string (txt (wrL (l.I e 0) (l.R e 1) (l.R e 2)))) cv := hcv
      cases hcv
      exact ⟨he', hb'⟩
    · obtain ⟨h8, _, hva⟩ := na_zero hz
      have := te_len hva n hn
      omega
    · have := (na_zero hz).1
      omega
    · refine ⟨_, he, hb, [.string (teS l), i64 (teE l)], [], fun _ => none, rfl, ⟨fun id b h => by simp at h, fun _ _ => rfl, fun i j b h => by obtain ⟨_, _, h1, _⟩ := h; cases h1⟩, ?_⟩
      refine .tuple rfl fun j x y hx hy => ?_
      match j, hx, hy with
      | 0, hx, hy => simp at hx hy; subst hx hy; exact .str
      | 1, hx, hy => simp at hx hy; subst hx hy; exact .int
  · cases hF
end Go.Proofs.YtopdfmhlgkbaaaaDoor
/- What is written of a line is read as that line. No conditions. -/
namespace Go.Proofs.YtopdfmhlgkbaaaaDoor
open Go.Ev Go.RowKit Go.Lib Go.Dec
set_option linter.all false
theorem nm_spec {s : ByteArray} (h : nmB s = true) : (∃ c r, by_ s = c :: r ∧ 97 ≤ c.toNat) ∧ ∀ d ∈ by_ s, 45 ≤ d.toNat := by
  unfold nmB at h
  simp only [Bool.and_eq_true, decide_eq_true_eq, Bool.not_eq_true', anyF_false, Nat.zero_add, Nat.zero_le, forall_const] at h
  obtain ⟨⟨h1, h2⟩, h3⟩ := h
  have key : ∀ i, i < s.size → (97 ≤ ((by_ s).getD i 0).toNat) ∨ (i ≠ 0 ∧ 45 ≤ ((by_ s).getD i 0).toNat) := fun i hi => by
    have h4 := h3 i hi
    unfold bad16 at h4
    have e : (Go.Ev.bytesRow s).I i 0 = ((((by_ s).getD i 0).toNat : Nat) : Int) := by rw [← getD_by]; rfl
    rw [e, decide_eq_false_iff_not] at h4
    by_cases h5 : 97 ≤ ((by_ s).getD i 0).toNat ∧ ((by_ s).getD i 0).toNat ≤ 122
    · exact .inl h5.1
    · by_cases h6 : i = 0
      · exact (h4 ⟨by omega, .inl h6⟩).elim
      · refine .inr ⟨h6, ?_⟩
        refine Classical.byContradiction fun h7 => h4 ⟨by omega, .inr (by omega)⟩
  constructor
  · cases hb : by_ s with
    | nil => have h9 := size_by s; rw [hb] at h9; have h9 : s.size = 0 := h9; omega
    | cons c r =>
      refine ⟨c, r, rfl, ?_⟩
      rcases key 0 h1 with h | h
      · rw [hb] at h; exact h
      · exact absurd rfl h.1
  · intro d hd
    obtain ⟨i, hi, rfl⟩ := List.getElem_of_mem hd
    have hi' : i < s.size := by rw [size_by]; exact hi
    have h5 := key i hi'
    rw [List.getD_eq_getElem?_getD, List.getElem?_eq_getElem hi, Option.getD_some] at h5
    omega
theorem word_spec {w : Int} (h : 1 ≤ w ∧ w ≤ 10) : ∀ c ∈ by_ (wordS w), c ≠ 32 ∧ c ≠ 10 := by
  have : w = 1 ∨ w = 2 ∨ w = 3 ∨ w = 4 ∨ w = 5 ∨ w = 6 ∨ w = 7 ∨ w = 8 ∨ w = 9 ∨ w = 10 := by omega
  have key : ∀ s : ByteArray, ((by_ s).all fun c => c != 32 && c != 10) = true → ∀ c ∈ by_ s, c ≠ 32 ∧ c ≠ 10 := fun s hs c hc => by
    have := List.all_eq_true.1 hs c hc
    simpa using this
  rcases this with rfl | rfl | rfl | rfl | rfl | rfl | rfl | rfl | rfl | rfl <;> exact key _ (by kernel_rfl)
theorem ne_of_toNat {c : UInt8} (h : 45 ≤ c.toNat) : c ≠ 32 ∧ c ≠ 10 := ⟨fun he => by rw [he] at h; exact absurd h (by decide), fun he => by rw [he] at h; exact absurd h (by decide)⟩
theorem itoa_spec (n : Int) : ∀ c ∈ itoa n, c ≠ 32 ∧ c ≠ 10 := fun c hc => by
  refine ne_of_toNat ?_
  unfold itoa at hc
  split at hc
  · rcases List.mem_cons.1 hc with rfl | hc
    · decide
    · have := dec_digit _ _ (Nat.le_refl _) c hc; omega
  · have := dec_digit _ _ (Nat.le_refl _) c hc; omega
structure OkLn (w : Int) (nm nu : Row) : Prop where
  pw : 1 ≤ w ∧ w ≤ 10
  pn : ∀ i, i < nm.n → nmB (nm.S i 0) = true
  pu : ∀ i, i < nu.n → -1000000000 ≤ nu.I i 0 ∧ nu.I i 0 ≤ 1000000000
  ps : w = 4 → 2 ≤ nm.n
theorem va_okln {w : Int} {nm nu : Row} (h : vaB w nm nu = true) : OkLn w nm nu := by
  unfold vaB at h
  simp only [Bool.and_eq_true, decide_eq_true_eq, Bool.not_eq_true', anyF_false, Nat.zero_add, Nat.zero_le, forall_const] at h
  obtain ⟨hw, hr, hn, hu, _⟩ := h
  refine ⟨hw, fun i hi => ?_, fun i hi => ?_, fun h4 => ?_⟩
  · have := hn i hi
    unfold badN at this
    simpa using this
  · have := hu i hi
    unfold badU at this
    simp only [Bool.or_eq_false_iff, decide_eq_false_iff_not] at this
    omega
  · subst h4
    have h1 : (2 : Int) ≤ (nm.n : Int) := (ranB_iff.1 hr).1
    omega
theorem strs_succ (r : Row) (n : Nat) : strs r (n + 1) = strs r n ++ [r.S n 0] := by
  unfold strs
  rw [List.range_succ, List.map_append]
  rfl
theorem ints_succ (r : Row) (n : Nat) : ints r (n + 1) = ints r n ++ [r.I n 0] := by
  unfold ints
  rw [List.range_succ, List.map_append]
  rfl
theorem nmL_ne {w : Int} (h : w ≠ 4) (nm : Row) : ∀ n, nmL w nm n = strs nm n
  | 0 => rfl
  | n + 1 => by
    rw [nmL_succ, strs_succ, nmL_ne h nm n]
    have : forB w n = false := by unfold forB; rw [beq_eq_false_iff_ne.2 h, Bool.false_and]
    rw [this]
    rfl
theorem nmL_4 (nm : Row) : ∀ n, nmL 4 nm (n + 2) = nm.S 0 0 :: sFor :: (strs nm (n + 2)).tail
  | 0 => rfl
  | n + 1 => by
    rw [nmL_succ, nmL_4 nm n, strs_succ nm (n + 2), List.tail_append_of_ne_nil (by intro he; have := congrArg List.length he; rw [strs_len] at this; simp at this)]
    have : forB 4 (n + 2) = false := by
      unfold forB
      rw [beq_eq_false_iff_ne.2 (show ((n + 2 : Nat) : Int) ≠ 1 by omega), Bool.and_false]
    rw [this]
    rfl
theorem strs_head (r : Row) (n : Nat) : strs r (n + 1) = r.S 0 0 :: (strs r (n + 1)).tail := by
  unfold strs
  rw [List.range_succ_eq_map, List.map_cons, List.tail_cons]
theorem wrP_mem {w : Int} {nm nu : Row} : ∀ p ∈ wrP w nm nu, p = sFor ∨ (∃ i, i < nm.n ∧ p = nm.S i 0) ∨ ∃ i, i < nu.n ∧ p = ddP (nu.I i 0) := fun p hp => by
  unfold wrP at hp
  rcases List.mem_append.1 hp with h | h
  · unfold nmL at h
    obtain ⟨i, hi, h⟩ := List.mem_flatMap.1 h
    have hi := List.mem_range.1 hi
    cases hf : forB w i
    · rw [hf] at h
      simp at h
      exact .inr (.inl ⟨i, hi, h⟩)
    · rw [hf] at h
      simp at h
      rcases h with h | h
      · exact .inl h
      · exact .inr (.inl ⟨i, hi, h⟩)
  · unfold nuL at h
    obtain ⟨i, hi, rfl⟩ := List.mem_map.1 h
    exact .inr (.inr ⟨i, List.mem_range.1 hi, rfl⟩)
theorem OkLn.chars {w : Int} {nm nu : Row} (h : OkLn w nm nu) : ∀ p ∈ wordS w :: wrP w nm nu, ∀ c ∈ by_ p, c ≠ 32 ∧ c ≠ 10 := fun p hp => by
  rcases List.mem_cons.1 hp with rfl | hp
  · exact word_spec h.pw
  · rcases wrP_mem p hp with rfl | ⟨i, hi, rfl⟩ | ⟨i, hi, rfl⟩
    · intro c hc
      have : ((by_ sFor).all fun c => c != 32 && c != 10) = true := by kernel_rfl
      simpa using List.all_eq_true.1 this c hc
    · exact fun c hc => ne_of_toNat ((nm_spec (h.pn i hi)).2 c hc)
    · exact itoa_spec _
/-- The pieces of what is written. -/
theorem OkLn.split {w : Int} {nm nu : Row} (h : OkLn w nm nu) : splS (txt (wrL w nm nu)) sSp = wordS w :: wrP w nm nu := by
  have h1 : (splS (txt (wrL w nm nu)) sSp).map by_ = pieces 32 (by_ (txt (wrL w nm nu))) := splS_pieces 32 _ _ (Nat.le_refl _)
  have h2 : pieces 32 (by_ (txt (wrL w nm nu))) = by_ (wordS w) :: (wrP w nm nu).map by_ := by
    rw [by_txt]
    unfold wrL
    refine pieces_join 32 _ _ fun p hp c hc => ?_
    rw [← List.map_cons (f := by_)] at hp
    obtain ⟨q, hq, rfl⟩ := List.mem_map.1 hp
    exact (h.chars q hq c hc).1
  rw [h2, ← List.map_cons (f := by_)] at h1
  exact (List.map_inj_right (fun a b hab => by_inj hab)).1 h1
theorem rdW_word {w : Int} (h : 1 ≤ w ∧ w ≤ 10) : fldN (nxA Wt (wordS w)) 10 0 0 = w := by
  have : w = 1 ∨ w = 2 ∨ w = 3 ∨ w = 4 ∨ w = 5 ∨ w = 6 ∨ w = 7 ∨ w = 8 ∨ w = 9 ∨ w = 10 := by omega
  rcases this with rfl | rfl | rfl | rfl | rfl | rfl | rfl | rfl | rfl | rfl <;> (show @Eq Int _ _; kernel_rfl)
theorem OkLn.rdW {w : Int} {nm nu : Row} (h : OkLn w nm nu) : rdW (txt (wrL w nm nu)) = w := by
  unfold Go.Proofs.YtopdfmhlgkbaaaaDoor.rdW
  have : (rdR (txt (wrL w nm nu))).S 0 0 = wordS w := by
    show (splS (txt (wrL w nm nu)) sSp).getD 0 .empty = _
    rw [h.split]
    rfl
  rw [this]
  exact rdW_word h.pw
theorem OkLn.rdP {w : Int} {nm nu : Row} (h : OkLn w nm nu) : rdP (txt (wrL w nm nu)) = strs nm nm.n ++ nuL nu nu.n := by
  have hs := h.split
  have hS : ∀ i, (rdR (txt (wrL w nm nu))).S i 0 = (wordS w :: wrP w nm nu).getD i .empty := fun i => by
    show (splS (txt (wrL w nm nu)) sSp).getD i .empty = _
    rw [hs]
  have hn : (rdR (txt (wrL w nm nu))).n = (wordS w :: wrP w nm nu).length := by
    show (splS (txt (wrL w nm nu)) sSp).length = _
    rw [hs]
  unfold Go.Proofs.YtopdfmhlgkbaaaaDoor.rdP rdF
  rw [h.rdW, hs, hS, hn]
  by_cases h4 : w = 4
  · subst h4
    obtain ⟨m, hm⟩ : ∃ m, nm.n = m + 2 := ⟨nm.n - 2, by have := h.ps rfl; omega⟩
    unfold wrP
    rw [hm, nmL_4]
    have hh : strs nm (m + 2) = nm.S 0 0 :: (strs nm (m + 2)).tail := strs_head nm (m + 1)
    generalize (strs nm (m + 2)).tail = tl at hh ⊢
    rw [hh, decide_eq_true (p := 2 < (wordS 4 :: (nm.S 0 0 :: sFor :: tl ++ nuL nu nu.n)).length) (by simp)]
    show (bif true && (true && (sFor.toList == sFor.toList)) then (nm.S 0 0 :: (tl ++ nuL nu nu.n)) else _) = _
    rw [beq_self_eq_true sFor.toList]
    rfl
  · rw [beq_eq_false_iff_ne.2 h4, Bool.false_and]
    unfold wrP
    rw [nmL_ne h4]
    rfl
theorem aiE_itoa {n : Int} (h : -1000000000 ≤ n ∧ n ≤ 1000000000) : aiE (itoa n) = false ∧ aiN (itoa n) = n := by
  unfold aiE aiN
  rw [atoi_itoa n (by omega) (by omega)]
  exact ⟨rfl, rfl⟩
theorem aiE_name {s : ByteArray} (h : nmB s = true) : aiE (by_ s) = true := by
  obtain ⟨⟨c, r, hb, hc⟩, _⟩ := nm_spec h
  unfold aiE
  rw [hb, atoi_name hc]
theorem OkLn.lists {w : Int} {nm nu : Row} (h : OkLn w nm nu) : nmsL (strs nm nm.n ++ nuL nu nu.n) = strs nm nm.n ∧ nusL (strs nm nm.n ++ nuL nu nu.n) = ints nu nu.n := by
  have h1 : ∀ p ∈ strs nm nm.n, aiE (by_ p) = true := fun p hp => by
    obtain ⟨i, hi, rfl⟩ := List.mem_map.1 hp
    exact aiE_name (h.pn i (List.mem_range.1 hi))
  have h2 : ∀ p ∈ nuL nu nu.n, aiE (by_ p) = false := fun p hp => by
    unfold nuL at hp
    obtain ⟨i, hi, rfl⟩ := List.mem_map.1 hp
    exact (aiE_itoa (h.pu i (List.mem_range.1 hi))).1
  unfold nmsL nusL
  rw [List.filter_append, List.filter_append, List.filter_eq_self.2 h1, List.filter_eq_nil_iff.2 (fun p hp => by rw [h2 p hp]; decide), List.filter_eq_nil_iff.2 (fun p hp => by rw [h1 p hp]; decide), List.filter_eq_self.2 (fun p hp => by rw [h2 p hp]; rfl), List.append_nil, List.nil_append]
  refine ⟨rfl, ?_⟩
  unfold nuL ints
  rw [List.map_map]
  refine List.map_congr_left fun i hi => ?_
  exact (aiE_itoa (h.pu i (List.mem_range.1 hi))).2
/-- What is read of what is written. -/
theorem OkLn.read {w : Int} {nm nu : Row} (h : OkLn w nm nu) : Go.Proofs.YtopdfmhlgkbaaaaDoor.rdW (txt (wrL w nm nu)) = w ∧ strs (rdN (txt (wrL w nm nu))) (rdN (txt (wrL w nm nu))).n = strs nm nm.n ∧ ints (rdU (txt (wrL w nm nu))) (rdU (txt (wrL w nm nu))).n = ints nu nu.n := by
  obtain ⟨h1, h2⟩ := rd_lists (txt (wrL w nm nu))
  obtain ⟨h3, h4⟩ := h.lists
  rw [h1, h2, h.rdP, h3, h4]
  exact ⟨h.rdW, rfl, rfl⟩
end Go.Proofs.YtopdfmhlgkbaaaaDoor
/- The text of lines is parsed as these lines. No conditions. -/
namespace Go.Proofs.YtopdfmhlgkbaaaaDoor
open Go.Ev Go.RowKit Go.Lib Go.Dec
set_option linter.all false
theorem strs_eq {a b : Row} (h : strs a a.n = strs b b.n) : a.n = b.n ∧ ∀ i, i < a.n → a.S i 0 = b.S i 0 := by
  have hn := congrArg List.length h
  rw [strs_len, strs_len] at hn
  refine ⟨hn, fun i hi => ?_⟩
  have h1 : (strs a a.n)[i]? = some (a.S i 0) := by simp [strs, hi]
  have h2 : (strs b b.n)[i]? = some (b.S i 0) := by simp [strs, show i < b.n by omega]
  rw [h, h2] at h1
  exact (Option.some.inj h1).symm
theorem ints_eq {a b : Row} (h : ints a a.n = ints b b.n) : a.n = b.n ∧ ∀ i, i < a.n → a.I i 0 = b.I i 0 := by
  have hn := congrArg List.length h
  rw [ints_len, ints_len] at hn
  refine ⟨hn, fun i hi => ?_⟩
  have h1 : (ints a a.n)[i]? = some (a.I i 0) := by simp [ints, hi]
  have h2 : (ints b b.n)[i]? = some (b.I i 0) := by simp [ints, show i < b.n by omega]
  rw [h, h2] at h1
  exact (Option.some.inj h1).symm
/-- The same names, the same numbers. -/
structure SmL (nm nu nm' nu' : Row) : Prop where
  a : nm.n = nm'.n
  b : ∀ i, i < nm.n → nm.S i 0 = nm'.S i 0
  c : nu.n = nu'.n
  d : ∀ i, i < nu.n → nu.I i 0 = nu'.I i 0
theorem SmL.symm {nm nu nm' nu' : Row} (h : SmL nm nu nm' nu') : SmL nm' nu' nm nu := ⟨h.a.symm, fun i hi => (h.b i (by rw [h.a]; exact hi)).symm, h.c.symm, fun i hi => (h.d i (by rw [h.c]; exact hi)).symm⟩
theorem twi_congr {a b : Row} {k : Nat} (h : ∀ i, i < k → a.S i 0 = b.S i 0) : anyF (twi a) k 0 = anyF (twi b) k 0 := anyF_congr fun i _ hi => by
  unfold twi
  refine anyF_congr fun j _ hj => ?_
  rw [h i (by omega), h j (by omega)]
theorem SmL.va {nm nu nm' nu' : Row} (h : SmL nm nu nm' nu') (w : Int) : vaB w nm nu = vaB w nm' nu' := by
  unfold vaB
  rw [h.a, h.c]
  have e1 : anyF (badN nm) nm'.n 0 = anyF (badN nm') nm'.n 0 := anyF_congr fun i _ hi => by
    unfold badN
    rw [h.b i (by rw [h.a]; omega)]
  have e2 : anyF (badU nu) nu'.n 0 = anyF (badU nu') nu'.n 0 := anyF_congr fun i _ hi => by
    unfold badU
    rw [h.d i (by rw [h.c]; omega)]
  have e3 : twB (difR w nm) = twB (difR w nm') := by
    unfold difR
    rw [h.a]
    cases w == 4
    · exact twi_congr (k := nm'.n) fun i hi => h.b i (by rw [h.a]; exact hi)
    · exact twi_congr (k := nm'.n - 1) fun i hi => h.b (1 + i) (by rw [h.a]; omega)
  rw [e1, e2, e3]
theorem SmL.wr {nm nu nm' nu' : Row} (h : SmL nm nu nm' nu') (w : Int) : wrL w nm nu = wrL w nm' nu' := by
  have e1 : ∀ n, n ≤ nm.n → nmL w nm n = nmL w nm' n := by
    intro n
    induction n with
    | zero => intro _; rfl
    | succ n ih =>
      intro hn
      rw [nmL_succ, nmL_succ, ih (by omega), h.b n (by omega)]
  have e2 : ∀ n, n ≤ nu.n → nuL nu n = nuL nu' n := by
    intro n
    induction n with
    | zero => intro _; rfl
    | succ n ih =>
      intro hn
      rw [nuL_succ, nuL_succ, ih (by omega), h.d n (by omega)]
  unfold wrL wrP
  rw [e1 nm.n (Nat.le_refl _), e2 nu.n (Nat.le_refl _), h.a, h.c]
/-- A valid line's text is read as that line. -/
theorem rd_valid {w : Int} {nm nu : Row} (h : vaB w nm nu = true) : rdW (txt (wrL w nm nu)) = w ∧ SmL (rdN (txt (wrL w nm nu))) (rdU (txt (wrL w nm nu))) nm nu ∧ rdB (txt (wrL w nm nu)) = true := by
  obtain ⟨h1, h2, h3⟩ := (va_okln h).read
  obtain ⟨a, b⟩ := strs_eq h2
  obtain ⟨c, d⟩ := ints_eq h3
  have hS : SmL (rdN (txt (wrL w nm nu))) (rdU (txt (wrL w nm nu))) nm nu := ⟨a, b, c, d⟩
  refine ⟨h1, hS, ?_⟩
  unfold rdB
  rw [h1, hS.va w, hS.wr w, h]
  simp
/-- What is read well was written so. -/
theorem rd_back {s : ByteArray} (h : rdB s = true) : vaB (rdW s) (rdN s) (rdU s) = true ∧ txt (wrL (rdW s) (rdN s) (rdU s)) = s := by
  unfold rdB at h
  rw [Bool.and_eq_true] at h
  exact ⟨h.1, eqS_iff.1 h.2⟩
/-- The text of m lines from i on. -/
def teG (l : Row) : Nat → Nat → List UInt8
  | 0, _ => []
  | m + 1, i => wrL (l.I i 0) (l.R i 1) (l.R i 2) ++ 10 :: teG l m (i + 1)
theorem teG_snoc (l : Row) : ∀ m i, teG l (m + 1) i = teG l m i ++ (wrL (l.I (i + m) 0) (l.R (i + m) 1) (l.R (i + m) 2) ++ [10])
  | 0, i => rfl
  | m + 1, i => by
    show wrL (l.I i 0) (l.R i 1) (l.R i 2) ++ 10 :: teG l (m + 1) (i + 1) = (wrL (l.I i 0) (l.R i 1) (l.R i 2) ++ 10 :: teG l m (i + 1)) ++ _
    rw [teG_snoc l m (i + 1), List.append_assoc, show i + 1 + m = i + (m + 1) by omega]
    rfl
theorem teL_G (l : Row) : ∀ n, teL l n = teG l n 0
  | 0 => rfl
  | n + 1 => by rw [teG_snoc, ← teL_G l n, Nat.zero_add]; rfl
theorem wr_no10 {w : Int} {nm nu : Row} (h : OkLn w nm nu) : ∀ c ∈ wrL w nm nu, c ≠ 10 := fun c hc => by
  unfold wrL at hc
  rcases List.mem_append.1 hc with hc | hc
  · exact (word_spec h.pw c hc).2
  · obtain ⟨l, hl, hc⟩ := List.mem_flatten.1 hc
    obtain ⟨q, hq, rfl⟩ := List.mem_map.1 hl
    obtain ⟨p, hp, rfl⟩ := List.mem_map.1 hq
    rcases List.mem_cons.1 hc with rfl | hc
    · decide
    · exact (h.chars p (List.mem_cons_of_mem _ hp) c hc).2
def accF (l : Row) : Nat → Nat → Row → Row
  | 0, _, acc => acc
  | m + 1, i, acc => accF l m (i + 1) (pushL acc (lnS (txt (wrL (l.I i 0) (l.R i 1) (l.R i 2)))))
theorem sp_line {x y : List UInt8} (h : ∀ c ∈ x, c ≠ 10) : okB (txt (x ++ 10 :: y)) = true ∧ oneB (txt (x ++ 10 :: y)) = txt x ∧ restB (txt (x ++ 10 :: y)) = txt y := by
  unfold okB oneB restB
  rw [by_txt, sp_app 10 x y h]
  exact ⟨rfl, rfl, rfl⟩
theorem run_lines (l : Row) (y : List UInt8) : ∀ (m i j k : Nat) (acc : Row), (∀ e, i ≤ e → e < i + m → vaL l e = true) → runS stP nxP (m + k) j (txt (teG l m i ++ y), acc) = runS stP nxP k (j + m) (txt y, accF l m i acc)
  | 0, i, j, k, acc, _ => by rw [Nat.zero_add]; rfl
  | m + 1, i, j, k, acc, h => by
    have hv : vaB (l.I i 0) (l.R i 1) (l.R i 2) = true := h i (Nat.le_refl _) (by omega)
    have e : teG l (m + 1) i ++ y = wrL (l.I i 0) (l.R i 1) (l.R i 2) ++ 10 :: (teG l m (i + 1) ++ y) := by
      show (wrL (l.I i 0) (l.R i 1) (l.R i 2) ++ 10 :: teG l m (i + 1)) ++ y = _
      rw [List.append_assoc]
      rfl
    obtain ⟨s1, s2, s3⟩ := sp_line (x := wrL (l.I i 0) (l.R i 1) (l.R i 2)) (y := teG l m (i + 1) ++ y) (wr_no10 (va_okln hv))
    rw [e, show m + 1 + k = (m + k) + 1 by omega]
    have hst : stP j (txt (wrL (l.I i 0) (l.R i 1) (l.R i 2) ++ 10 :: (teG l m (i + 1) ++ y)), acc) = false := by
      unfold stP
      rw [s1, s2, (rd_valid hv).2.2]
      rfl
    rw [runS_s hst]
    rw [show nxP j (txt (wrL (l.I i 0) (l.R i 1) (l.R i 2) ++ 10 :: (teG l m (i + 1) ++ y)), acc) = (txt (teG l m (i + 1) ++ y), pushL acc (lnS (txt (wrL (l.I i 0) (l.R i 1) (l.R i 2))))) by unfold nxP; rw [s2, s3]]
    rw [run_lines l y m (i + 1) (j + 1) k _ (fun e h1 h2 => h e (by omega) (by omega)), show j + 1 + m = j + (m + 1) by omega]
    rfl
theorem lnN_lines (l : Row) (y : List UInt8) : ∀ (m i : Nat), (∀ e, i ≤ e → e < i + m → vaL l e = true) → lnN (txt (teG l m i ++ y)) = m + lnN (txt y)
  | 0, i, _ => by rw [Nat.zero_add]; rfl
  | m + 1, i, h => by
    have hv : vaB (l.I i 0) (l.R i 1) (l.R i 2) = true := h i (Nat.le_refl _) (by omega)
    have e : teG l (m + 1) i ++ y = wrL (l.I i 0) (l.R i 1) (l.R i 2) ++ 10 :: (teG l m (i + 1) ++ y) := by
      show (wrL (l.I i 0) (l.R i 1) (l.R i 2) ++ 10 :: teG l m (i + 1)) ++ y = _
      rw [List.append_assoc]
      rfl
    obtain ⟨s1, s2, s3⟩ := sp_line (x := wrL (l.I i 0) (l.R i 1) (l.R i 2)) (y := teG l m (i + 1) ++ y) (wr_no10 (va_okln hv))
    rw [e, lnN_rest (by rw [by_txt]; simp), s3, lnN_lines l y m (i + 1) fun e h1 h2 => h e (by omega) (by omega)]
    omega
/-- What is gathered: the lines. -/
theorem accF_spec (l : Row) : ∀ (m i : Nat) (acc : Row), (∀ e, i ≤ e → e < i + m → vaL l e = true) → (accF l m i acc).n = acc.n + m ∧ (∀ e, e < acc.n → (accF l m i acc).I e = acc.I e ∧ (accF l m i acc).R e = acc.R e) ∧
    ∀ e, e < m → (accF l m i acc).I (acc.n + e) 0 = l.I (i + e) 0 ∧ SmL ((accF l m i acc).R (acc.n + e) 1) ((accF l m i acc).R (acc.n + e) 2) (l.R (i + e) 1) (l.R (i + e) 2)
  | 0, i, acc, _ => ⟨rfl, fun e he => ⟨rfl, rfl⟩, fun e he => absurd he (Nat.not_lt_zero e)⟩
  | m + 1, i, acc, h => by
    have hv : vaB (l.I i 0) (l.R i 1) (l.R i 2) = true := h i (Nat.le_refl _) (by omega)
    obtain ⟨h1, h2, h3⟩ := accF_spec l m (i + 1) (pushL acc (lnS (txt (wrL (l.I i 0) (l.R i 1) (l.R i 2))))) (fun e h1 h2 => h e (by omega) (by omega))
    have hn : (pushL acc (lnS (txt (wrL (l.I i 0) (l.R i 1) (l.R i 2))))).n = acc.n + 1 := rfl
    obtain ⟨r1, r2, _⟩ := rd_valid hv
    refine ⟨by show (accF l m (i + 1) _).n = _; rw [h1, hn]; omega, fun e he => ?_, fun e he => ?_⟩
    · obtain ⟨g1, g2⟩ := h2 e (by rw [hn]; omega)
      obtain ⟨g3, g4⟩ := pl_lo acc (lnS (txt (wrL (l.I i 0) (l.R i 1) (l.R i 2)))) he
      exact ⟨g1.trans g3, g2.trans g4⟩
    · cases e with
      | zero =>
        obtain ⟨g1, g2⟩ := h2 acc.n (by rw [hn]; omega)
        obtain ⟨g3, g4, g5⟩ := pl_hi acc (rdW (txt (wrL (l.I i 0) (l.R i 1) (l.R i 2)))) (winOf (rdN (txt (wrL (l.I i 0) (l.R i 1) (l.R i 2)))) 0 (rdN (txt (wrL (l.I i 0) (l.R i 1) (l.R i 2)))).n) (winOf (rdU (txt (wrL (l.I i 0) (l.R i 1) (l.R i 2)))) 0 (rdU (txt (wrL (l.I i 0) (l.R i 1) (l.R i 2)))).n)
        show (accF l m (i + 1) _).I acc.n 0 = _ ∧ SmL ((accF l m (i + 1) _).R acc.n 1) ((accF l m (i + 1) _).R acc.n 2) _ _
        rw [g1, g2]
        unfold lnS
        rw [g3, g4, g5, r1]
        exact ⟨rfl, r2⟩
      | succ e =>
        obtain ⟨g1, g2⟩ := h3 e (by omega)
        rw [hn] at g1 g2
        rw [show acc.n + (e + 1) = acc.n + 1 + e by omega, show i + (e + 1) = i + 1 + e by omega]
        exact ⟨g1, g2⟩
/-- The lines of a text of valid lines. -/
theorem pa_lines {l : Row} (h : ∀ i, i < l.n → vaL l i = true) : (paR (txt (teL l l.n))).1 = false ∧ saL (paL (txt (teL l l.n))) l := by
  have hh : ∀ e, 0 ≤ e → e < 0 + l.n → vaL l e = true := fun e _ he => h e (by omega)
  have e1 : txt (teL l l.n) = txt (teG l l.n 0 ++ []) := by rw [teL_G, List.append_nil]
  have e2 : paR (txt (teL l l.n)) = (false, 0 + l.n, txt [], accF l l.n 0 .nil) := by
    unfold paR
    rw [e1, lnN_lines l [] l.n 0 hh, run_lines l [] l.n 0 0 _ .nil hh, lnN_nil (s := txt []) rfl]
    rfl
  have e3 : paL (txt (teL l l.n)) = winOf (accF l l.n 0 .nil) 0 (accF l l.n 0 .nil).n := by unfold paL; rw [e2]
  obtain ⟨h1, _, h3⟩ := accF_spec l l.n 0 .nil hh
  have h1 : (accF l l.n 0 .nil).n = l.n := h1.trans (Nat.zero_add _)
  refine ⟨by rw [e2], ?_⟩
  rw [e3]
  refine ⟨h1, fun i hi => ?_⟩
  replace hi : i < (accF l l.n 0 .nil).n := hi
  obtain ⟨g1, g2⟩ := h3 i (by omega)
  rw [Nat.zero_add] at g1 g2
  have g0 : Row.nil.n + i = i := Nat.zero_add i
  rw [g0] at g1 g2
  exact ⟨g1, ⟨g2.a, g2.b⟩, g2.c, g2.d⟩
end Go.Proofs.YtopdfmhlgkbaaaaDoor

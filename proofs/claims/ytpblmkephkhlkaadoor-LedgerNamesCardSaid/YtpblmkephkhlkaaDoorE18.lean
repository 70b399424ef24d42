/- Package ledger: Settle's inner function: the first party of a group whose balance has a sign. No conditions. -/
import Derived.Test.YtpblmkephkhlkaaDoorE11
import Derived.Test.YtpblmkephkhlkaaDoorEvZa
namespace Go.Proofs.YtpblmkephkhlkaaDoor
open Go.Ev
set_option linter.all false
def ksS : List CK := [.slice ks1]
/-- The first party of a group whose balance has a sign; -1: there is none. -/
def ffF (l g : Row) (gr sg : Int) : Nat → Nat → Int
  | 0, _ => -1
  | m + 1, j => if g.I j 0 = gr ∧ wi (l.I j 0 * sg) > 0 then (j : Int) else ffF l g gr sg m (j + 1)
theorem ffF_ge (l g : Row) (gr sg : Int) : ∀ m j, ffF l g gr sg m j = -1 ∨ (j : Int) ≤ ffF l g gr sg m j
  | 0, j => .inl rfl
  | m + 1, j => by
    unfold ffF
    split
    · right; omega
    · rcases ffF_ge l g gr sg m (j + 1) with h | h
      · exact .inl h
      · right; omega
def Sf (gr sg : Int) (n len : Nat) (j : Int) (l g : Row) : St := ⟨[i64 gr, i64 sg] ++ us 1 ++ [.pointer (some ⟨0, 0, some 0⟩)] ++ us 5 ++ [sl 1 n, i64 len, i64 j] ++ us 18, [[]], [some (.row ksS false g), Rb false l]⟩
def Sfr (j : Int) : St := ⟨us 6 ++ [i64 j] ++ us 23, [[]], []⟩
def Sfx : St := ⟨us 30, [[]], []⟩
def Gf (cd : Nat → Int → Nat → Bool) : List It → (X → St → Option (List D)) → Option (List D)
  | [.i gr, .i sg, .n n, .i len, .r g, .r l], k => br (cd n len (g.R 0 0).n) (br (decide (0 ≤ ffF l (g.R 0 0) gr sg n 0)) (k .ret (Sfr (ffF l (g.R 0 0) gr sg n 0))) (k (.exit 0) Sfx)) none
  | _, _ => none
def lf (cd : Nat → Int → Nat → Bool) : LoopC where
  f := 32
  id := 2
  lv := [0, 1, 3, 9, 10, 11]
  lx := [6]
  p := { τ := [.v (.int .i64), .v (.int .i64)] ++ pu 1 ++ [.v (.ptr 0 0)] ++ pu 5 ++ [.v (.sl 1), .v (.int .i64), .v (.c (i64 0))] ++ pu 18, saved := [[]], mem := [.row ksS false, .row ks1 false] }
  G := fun its => match its with
    | [.i gr, .i sg, .n 0, .n n, .i len, .r g, .r l] => Gf cd [.i gr, .i sg, .n n, .i len, .r g, .r l]
    | _ => fun _ => none
noncomputable def Cfg (cd : Nat → Int → Nat → Bool) : Cx := mkCx Tryd.prog fns [] [lf cd]
theorem roundf (cd : Nat → Int → Nat → Bool) (R : St → Option (List D)) (K : X → St → Option (List D)) (p : Nat) (gr sg : Int) (n len : Nat) (j : Int) (l g : Row) : evCode (Cfg cd) 32 true (inl (Cfg cd) (p + 4)) (lbody (Cfg cd).P 32 2) (Sf gr sg n len j l g) (rnd [0, 1, 3, 9, 10, 11] (some [6]) R K) =
    br (decide (j < (len : Int))) (br (decide (0 ≤ j) && decide (j < (n : Int))) (br (decide (0 ≤ j) && decide (j < ((g.R 0 0).n : Int))) (br ((g.R 0 0).I (0 + j.toNat) 0 == gr) (br (decide (wi (l.I (0 + j.toNat) 0 * sg) > 0)) (K .ret (Sfr j)) (R (Sf gr sg n len (wi (j + 1)) l g))) (R (Sf gr sg n len (wi (j + 1)) l g))) none) none) (K (.exit 0) Sfx) := by kernel_rfl
def inf (n : Nat) (len : Int) (m : Nat) : Bool := decide (len = n ∧ n ≤ 1000 ∧ n ≤ m)
noncomputable def Cf : Cx := Cfg inf
theorem gof {f : St → (X → St → Option (List D)) → Option (List D)} {lv : List Tmp} {lx : Option (List Tmp)} {gr sg : Int} {n : Nat} {l g : Row} (hn : n ≤ 1000) (hg : n ≤ (g.R 0 0).n)
    (hr : ∀ (j : Int) R K, f (Sf gr sg n n j l g) (rnd lv lx R K) = br (decide (j < (n : Int))) (br (decide (0 ≤ j) && decide (j < (n : Int))) (br (decide (0 ≤ j) && decide (j < ((g.R 0 0).n : Int))) (br ((g.R 0 0).I (0 + j.toNat) 0 == gr) (br (decide (wi (l.I (0 + j.toNat) 0 * sg) > 0)) (K .ret (Sfr j)) (R (Sf gr sg n n (wi (j + 1)) l g))) (R (Sf gr sg n n (wi (j + 1)) l g))) none) none) (K (.exit 0) Sfx)) (K : X → St → Option (List D)) :
    ∀ (m fu j : Nat), j + m = n → m < fu → rounds lv lx f fu (Sf gr sg n n j l g) K = br (decide (0 ≤ ffF l (g.R 0 0) gr sg m j)) (K .ret (Sfr (ffF l (g.R 0 0) gr sg m j))) (K (.exit 0) Sfx)
  | 0, fu + 1, j, h0, h1 => by
    rw [rnds1, hr, decide_eq_false (show ¬ (j : Int) < (n : Int) by omega), br_false]
    rfl
  | m + 1, fu + 1, j, h0, h1 => by
    rw [rnds1, hr, show (decide (0 ≤ (j : Int)) && decide ((j : Int) < (n : Int))) = true by simp only [Bool.and_eq_true, decide_eq_true_eq]; omega, show (decide (0 ≤ (j : Int)) && decide ((j : Int) < ((g.R 0 0).n : Int))) = true by simp only [Bool.and_eq_true, decide_eq_true_eq]; omega,
      decide_eq_true (show (j : Int) < (n : Int) by omega), br_true, br_true, br_true, Int.toNat_natCast, Nat.zero_add, wiN (n := (j : Int) + 1) (by omega) (by omega), show (j : Int) + 1 = ((j + 1 : Nat) : Int) by omega]
    have ih := gof hn hg hr K m fu (j + 1) (by omega) (by omega)
    unfold ffF
    by_cases c1 : (g.R 0 0).I j 0 = gr
    · rw [show ((g.R 0 0).I j 0 == gr) = true by simpa using c1, br_true]
      by_cases c2 : wi (l.I j 0 * sg) > 0
      · rw [decide_eq_true c2, br_true, if_pos ⟨c1, c2⟩, decide_eq_true (show (0 : Int) ≤ (j : Int) by omega), br_true]
      · rw [decide_eq_false c2, br_false, if_neg (fun h => c2 h.2)]
        exact ih
    · rw [show ((g.R 0 0).I j 0 == gr) = false by simpa using c1, br_false, if_neg (fun h => c1 h.1)]
      exact ih
set_option maxRecDepth 100000 in
theorem loopf : LoopOk Cf (lf inf) := ⟨by kernel_rfl, fun q its k rr h => by
  show rounds [0, 1, 3, 9, 10, 11] (some [6]) (evCode Cf 32 true (inl Cf (q + 4)) (lbody Cf.P 32 2)) 18446744073709551616 (Go.Ev.bst (lf inf).p its) k = some rr
  change (match its with
    | [.i gr, .i sg, .n 0, .n n, .i len, .r g, .r l] => Gf inf [.i gr, .i sg, .n n, .i len, .r g, .r l]
    | _ => fun _ => none) k = some rr at h
  split at h
  · rename_i gr sg n len g l
    change br (inf n len (g.R 0 0).n) _ _ = _ at h
    rcases br_some h with ⟨h1, h2⟩ | ⟨_, h2⟩
    · have h1 := of_decide_eq_true h1
      obtain ⟨rfl, h3, h4⟩ := h1
      rw [← h2]
      exact gof h3 h4 (fun j R K => roundf inf R K q gr sg n n j l g) k n _ 0 (by omega) (by omega)
    · cases h2
  · cases h⟩
theorem Cf_ok : CxOk Cf := mkCx_ok enter mixed (fun p h => by cases h) (fun l h => by
  simp only [List.mem_cons, List.not_mem_nil, or_false] at h
  rcases h with rfl
  exact loopf)
theorem tfirst (cd : Nat → Int → Nat → Bool) (gr sg : Int) (l g : Row) : evF (Cfg cd) 6 32 [.v (i64 gr), .v (i64 sg), .ptr ksS l, .ptr ksS g] = br (cd (l.R 0 0).n (l.R 0 0).n (g.R 0 0).n) (br (decide (0 ≤ ffF (l.R 0 0) (g.R 0 0) gr sg (l.R 0 0).n 0)) (some [.v (i64 (ffF (l.R 0 0) (g.R 0 0) gr sg (l.R 0 0).n 0))]) (some [.v (i64 (-1))])) none := by kernel_rfl
def Ffirst : List D → Option (Bool × List D)
  | [.v (.int .i64 gr), .v (.int .i64 sg), .ptr [.slice [.int .i64]] l, .ptr [.slice [.int .i64]] g] => some (decide ((l.R 0 0).n ≤ 1000 ∧ (l.R 0 0).n ≤ (g.R 0 0).n), [.v (i64 (ffF (l.R 0 0) (g.R 0 0) gr sg (l.R 0 0).n 0))])
  | _ => none
theorem den_first : Den Tryd.prog 32 Ffirst := evF_den Cf_ok fun ds rs h => by
  unfold Ffirst at h
  split at h
  · rename_i gr sg l g
    simp only [Option.some.injEq, Prod.mk.injEq] at h
    obtain ⟨h0, rfl⟩ := h
    have h0 := of_decide_eq_true h0
    refine (tfirst inf gr sg l g).trans ?_
    rw [show inf (l.R 0 0).n (l.R 0 0).n (g.R 0 0).n = true from decide_eq_true ⟨rfl, h0.1, h0.2⟩, br_true]
    rcases ffF_ge (l.R 0 0) (g.R 0 0) gr sg (l.R 0 0).n 0 with h | h
    · rw [h]; rfl
    · rw [decide_eq_true (show 0 ≤ ffF (l.R 0 0) (g.R 0 0) gr sg (l.R 0 0).n 0 by omega), br_true]
  · cases h
end Go.Proofs.YtpblmkephkhlkaaDoor

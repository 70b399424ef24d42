/- Sums of lists: what Sum gives, of the package and of the reference. No conditions. -/
import Derived.Test.YtofkkhdmjllcfaaDoorQ9
import Derived.Test.YtofkkhdmjllcfaaDoorL4
namespace Go.Proofs.YtofkkhdmjllcfaaDoor.Su
open Go.Ev Go.RowKit
set_option linter.all false
def ks2 : List CK := [.int .i64, .int .i64]
def Fck2 (ce : Int → Int → Int) : List D → Option (Bool × List D)
  | [.agg [.v (.int .i64 n), .v (.int .i64 d)]] => some (iR n && iR d, [.v (i64 (ce n d))])
  | _ => none
def Fad (an ad ae : Int → Int → Int → Int → Int) : List D → Option (Bool × List D)
  | [.agg [.v (.int .i64 n), .v (.int .i64 d)], .agg [.v (.int .i64 m), .v (.int .i64 e)]] => some (iR n && iR d && iR m && iR e, [.agg [.v (i64 (an n d m e)), .v (i64 (ad n d m e))], .v (i64 (ae n d m e))])
  | _ => none
def bx : Option Blk := some (.box [i64 0, i64 0])
def p1 : Value := .pointer (some ⟨1, 0, some 0⟩)
def S4a (len : Nat) (l : Int) (i : Int) (r : Row) : St := ⟨[.slice (some ⟨0, 0, some 0⟩) len 0] ++ us 1 ++ [.pointer (some ⟨1, 0, some 0⟩)] ++ us 13 ++ [.slice (some ⟨0, 0, some 0⟩) len 0, i64 l, i64 i] ++ us 30, [[]], [some (.row ks2 false r), some (.box [i64 0, i64 0])]⟩
def S4ax (len : Nat) (r : Row) : St := ⟨[.slice (some ⟨0, 0, some 0⟩) len 0] ++ us 1 ++ [.pointer (some ⟨1, 0, some 0⟩)] ++ us 46, [[]], [some (.row ks2 false r), some (.box [i64 0, i64 0])]⟩
def S4ar (len : Nat) (e : Int) (r : Row) : St := ⟨[.slice (some ⟨0, 0, some 0⟩) len 0] ++ us 1 ++ [.pointer (some ⟨1, 0, some 0⟩), i64 e] ++ us 45, [[]], [some (.row ks2 false r), some (.box [i64 0, i64 0])]⟩
def bd (r : Row) (j : Nat) : Bool := chkE (r.I j 0) (r.I j 1) != 0
def wf2 (r : Row) (len : Nat) : Bool := !anyF (fun j => !(iR (r.I j 0) && iR (r.I j 1))) len 0
def G4a : List It → (X → St → Option (List D)) → Option (List D)
  | [.n len, .n len2, .i l, .r r], k => br (decide (len2 = len ∧ l = (len : Int) ∧ len ≤ 1000) && wf2 r len) (br (anyF (bd r) len 0) (k .ret (S4ar len 8 r)) (k (.exit 0) (S4ax len r))) none
  | _, _ => none
def l4a : LoopC where
  f := 12
  id := 4
  lv := [0, 2, 16, 17, 18]
  lx := [0, 2, 3]
  p := { τ := [.v (.sl 0)] ++ pu 1 ++ [.v (.c (.pointer (some ⟨1, 0, some 0⟩)))] ++ pu 13 ++ [.v (.sl 0), .v (.int .i64), .v (.c (i64 0))] ++ pu 30, saved := [[]], mem := [.row ks2 false, .box [.v (.c (i64 0)), .v (.c (i64 0))]] }
  G := G4a
def S4b (len : Nat) (i : Int) (r : Row) : St := ⟨[.slice (some ⟨0, 0, some 0⟩) len 0] ++ us 1 ++ [.pointer (some ⟨1, 0, some 0⟩)] ++ us 1 ++ [i64 i] ++ us 48, [[]], [some (.row ks2 false r), some (.box [i64 0, i64 0])]⟩
def S4bx (len : Nat) (r : Row) : St := ⟨[.slice (some ⟨0, 0, some 0⟩) len 0] ++ us 1 ++ [.pointer (some ⟨1, 0, some 0⟩)] ++ us 50, [[]], [some (.row ks2 false r), some (.box [i64 0, i64 0])]⟩
def S4br (len : Nat) (e : Int) (r : Row) : St := ⟨[.slice (some ⟨0, 0, some 0⟩) len 0] ++ us 1 ++ [.pointer (some ⟨1, 0, some 0⟩), i64 e] ++ us 49, [[]], [some (.row ks2 false r), some (.box [i64 0, i64 0])]⟩
def G4b : List It → (X → St → Option (List D)) → Option (List D)
  | [.n len, .r r], k => br (decide (len ≤ 1000) && wf2 r len) (br (anyF (bd r) len 0) (k .ret (S4br len 8 r)) (k (.exit 0) (S4bx len r))) none
  | _, _ => none
def l4b : LoopC where
  f := 13
  id := 4
  lv := [0, 2, 4]
  lx := [0, 2, 3]
  p := { τ := [.v (.sl 0)] ++ pu 1 ++ [.v (.c (.pointer (some ⟨1, 0, some 0⟩)))] ++ pu 1 ++ [.v (.c (i64 0))] ++ pu 48, saved := [[]], mem := [.row ks2 false, .box [.v (.c (i64 0)), .v (.c (i64 0))]] }
  G := G4b
def S12 (len : Nat) (l i sn sd : Int) (r : Row) : St := ⟨us 2 ++ [.pointer (some ⟨0, 0, some 0⟩)] ++ us 4 ++ [.pointer (some ⟨1, 0, some 0⟩)] ++ us 22 ++ [.slice (some ⟨2, 0, some 0⟩) len 0, i64 l, i64 i] ++ us 16, [[]], [some (.box [i64 0, i64 0]), some (.box [i64 sn, i64 sd]), some (.row ks2 false r)]⟩
def S12x (sn sd : Int) : St := ⟨us 2 ++ [.pointer (some ⟨0, 0, some 0⟩)] ++ us 4 ++ [.pointer (some ⟨1, 0, some 0⟩)] ++ us 41, [[]], [some (.box [i64 0, i64 0]), some (.box [i64 sn, i64 sd])]⟩
def S12r (e sn sd : Int) : St := ⟨us 2 ++ [.pointer (some ⟨0, 0, some 0⟩), i64 e] ++ us 3 ++ [.pointer (some ⟨1, 0, some 0⟩)] ++ us 41, [[]], [some (.box [i64 0, i64 0]), some (.box [i64 sn, i64 sd])]⟩
def S10 (len : Nat) (i sn sd : Int) (r : Row) : St := ⟨[.slice (some ⟨0, 0, some 0⟩) len 0] ++ us 1 ++ [.pointer (some ⟨1, 0, some 0⟩)] ++ us 2 ++ [.pointer (some ⟨2, 0, some 0⟩), i64 i] ++ us 46, [[]], [some (.row ks2 false r), some (.box [i64 0, i64 0]), some (.box [i64 sn, i64 sd])]⟩
def S10x (sn sd : Int) : St := ⟨us 2 ++ [.pointer (some ⟨0, 0, some 0⟩)] ++ us 2 ++ [.pointer (some ⟨1, 0, some 0⟩)] ++ us 47, [[]], [some (.box [i64 0, i64 0]), some (.box [i64 sn, i64 sd])]⟩
def S10r (e sn sd : Int) : St := ⟨us 2 ++ [.pointer (some ⟨0, 0, some 0⟩), i64 e] ++ us 1 ++ [.pointer (some ⟨1, 0, some 0⟩)] ++ us 47, [[]], [some (.box [i64 0, i64 0]), some (.box [i64 sn, i64 sd])]⟩
/-- Sums from one on: whether one is out of range, the last sum, the error. -/
def smF (r : Row) : Nat → Nat → Int → Int → Bool × Int × Int × Int
  | 0, _, n, d => (false, n, d, 0)
  | m + 1, j, n, d => if adE n d (r.I j 0) (r.I j 1) = 0 then smF r m (j + 1) (adN n d (r.I j 0) (r.I j 1)) (adD n d (r.I j 0) (r.I j 1)) else (true, n, d, adE n d (r.I j 0) (r.I j 1))
def GSa : List It → (X → St → Option (List D)) → Option (List D)
  | [.n len, .i l, .r r], k => br (decide (l = (len : Int) ∧ len ≤ 1000) && wf2 r len && !anyF (bd r) len 0) (br (smF r len 0 0 1).1 (k .ret (S12r (smF r len 0 0 1).2.2.2 (smF r len 0 0 1).2.1 (smF r len 0 0 1).2.2.1)) (k (.exit 2) (S12x (smF r len 0 0 1).2.1 (smF r len 0 0 1).2.2.1))) none
  | _, _ => none
def GSb : List It → (X → St → Option (List D)) → Option (List D)
  | [.n len, .r r], k => br (decide (len ≤ 1000) && wf2 r len && !anyF (bd r) len 0) (br (smF r len 0 0 1).1 (k .ret (S10r (smF r len 0 0 1).2.2.2 (smF r len 0 0 1).2.1 (smF r len 0 0 1).2.2.1)) (k (.exit 2) (S10x (smF r len 0 0 1).2.1 (smF r len 0 0 1).2.2.1))) none
  | _, _ => none
def l12 : LoopC where
  f := 12
  id := 12
  lv := [2, 7, 30, 31, 32]
  lx := [2, 3, 7]
  p := { τ := pu 2 ++ [.v (.c (.pointer (some ⟨0, 0, some 0⟩)))] ++ pu 4 ++ [.v (.c (.pointer (some ⟨1, 0, some 0⟩)))] ++ pu 22 ++ [.v (.sl 2), .v (.int .i64), .v (.c (i64 0))] ++ pu 16, saved := [[]], mem := [.box [.v (.c (i64 0)), .v (.c (i64 0))], .box [.v (.c (i64 0)), .v (.c (i64 1))], .row ks2 false] }
  G := GSa
def l10 : LoopC where
  f := 13
  id := 10
  lv := [0, 2, 5, 6]
  lx := [2, 3, 5]
  p := { τ := [.v (.sl 0)] ++ pu 1 ++ [.v (.c (.pointer (some ⟨1, 0, some 0⟩)))] ++ pu 2 ++ [.v (.c (.pointer (some ⟨2, 0, some 0⟩))), .v (.c (i64 0))] ++ pu 46, saved := [[]], mem := [.row ks2 false, .box [.v (.c (i64 0)), .v (.c (i64 0))], .box [.v (.c (i64 0)), .v (.c (i64 1))]] }
  G := GSb
noncomputable def CSv (ce : Int → Int → Int) (an ad ae : Int → Int → Int → Int → Int) : Cx := mkCx Tryd.prog fns [(25, Fck2 ce), (27, Fck2 ce), (16, Fad an ad ae), (32, Fad an ad ae)] [l4a, l12, l4b, l10]
theorem round4a (ce : Int → Int → Int) (an ad ae : Int → Int → Int → Int → Int) (p : Nat) (R : St → Option (List D)) (K : X → St → Option (List D)) (len : Nat) (l : Int) (i : Nat) (r : Row) : evCode (CSv ce an ad ae) 12 true (inl (CSv ce an ad ae) (p + 4)) (lbody (CSv ce an ad ae).P 12 4) (S4a len l i r) (rnd [0, 2, 16, 17, 18] (some [0, 2, 3]) R K) =
    br (decide ((i : Int) < l)) (br (decide (0 ≤ (i : Int)) && decide ((i : Int) < (len : Int))) (br (iR (r.I (0 + i) 0) && iR (r.I (0 + i) 1)) (br (ce (r.I (0 + i) 0) (r.I (0 + i) 1) != 0) (K .ret (S4ar len (ce (r.I (0 + i) 0) (r.I (0 + i) 1)) r)) (R (S4a len l (IntKind.i64.wrap ((i : Int) + 1)) r))) none) none) (K (.exit 0) (S4ax len r)) := by kernel_rfl
theorem round4b (ce : Int → Int → Int) (an ad ae : Int → Int → Int → Int → Int) (p : Nat) (R : St → Option (List D)) (K : X → St → Option (List D)) (len : Nat) (i : Nat) (r : Row) : evCode (CSv ce an ad ae) 13 true (inl (CSv ce an ad ae) (p + 4)) (lbody (CSv ce an ad ae).P 13 4) (S4b len i r) (rnd [0, 2, 4] (some [0, 2, 3]) R K) =
    br (decide ((i : Int) < (len : Int))) (br (decide (0 ≤ (i : Int)) && decide ((i : Int) < (len : Int))) (br (iR (r.I (0 + i) 0) && iR (r.I (0 + i) 1)) (br (ce (r.I (0 + i) 0) (r.I (0 + i) 1) != 0) (br (decide (0 ≤ (i : Int)) && decide ((i : Int) < (len : Int))) (br (iR (r.I (0 + i) 0) && iR (r.I (0 + i) 1)) (K .ret (S4br len (ce (r.I (0 + i) 0) (r.I (0 + i) 1)) r)) none) none) (R (S4b len (IntKind.i64.wrap ((i : Int) + 1)) r))) none) none) (K (.exit 0) (S4bx len r)) := by kernel_rfl
theorem round12 (ce : Int → Int → Int) (an ad ae : Int → Int → Int → Int → Int) (p : Nat) (R : St → Option (List D)) (K : X → St → Option (List D)) (len : Nat) (l : Int) (i : Nat) (sn sd : Int) (r : Row) : evCode (CSv ce an ad ae) 12 true (inl (CSv ce an ad ae) (p + 4)) (lbody (CSv ce an ad ae).P 12 12) (S12 len l i sn sd r) (rnd [2, 7, 30, 31, 32] (some [2, 3, 7]) R K) =
    br (decide ((i : Int) < l)) (br (decide (0 ≤ (i : Int)) && decide ((i : Int) < (len : Int))) (br (iR sn && iR sd && iR (r.I (0 + i) 0) && iR (r.I (0 + i) 1)) (br (ae sn sd (r.I (0 + i) 0) (r.I (0 + i) 1) != 0) (K .ret (S12r (ae sn sd (r.I (0 + i) 0) (r.I (0 + i) 1)) sn sd)) (R (S12 len l (IntKind.i64.wrap ((i : Int) + 1)) (an sn sd (r.I (0 + i) 0) (r.I (0 + i) 1)) (ad sn sd (r.I (0 + i) 0) (r.I (0 + i) 1)) r))) none) none) (K (.exit 2) (S12x sn sd)) := by kernel_rfl
theorem round10 (ce : Int → Int → Int) (an ad ae : Int → Int → Int → Int → Int) (p : Nat) (R : St → Option (List D)) (K : X → St → Option (List D)) (len : Nat) (i : Nat) (sn sd : Int) (r : Row) : evCode (CSv ce an ad ae) 13 true (inl (CSv ce an ad ae) (p + 4)) (lbody (CSv ce an ad ae).P 13 10) (S10 len i sn sd r) (rnd [0, 2, 5, 6] (some [2, 3, 5]) R K) =
    br (decide ((i : Int) < (len : Int))) (br (decide (0 ≤ (i : Int)) && decide ((i : Int) < (len : Int))) (br (iR sn && iR sd && iR (r.I (0 + i) 0) && iR (r.I (0 + i) 1)) (br (ae sn sd (r.I (0 + i) 0) (r.I (0 + i) 1) != 0) (K .ret (S10r (ae sn sd (r.I (0 + i) 0) (r.I (0 + i) 1)) sn sd)) (R (S10 len (IntKind.i64.wrap ((i : Int) + 1)) (an sn sd (r.I (0 + i) 0) (r.I (0 + i) 1)) (ad sn sd (r.I (0 + i) 0) (r.I (0 + i) 1)) r))) none) none) (K (.exit 2) (S10x sn sd)) := by kernel_rfl
theorem wf2_at {r : Row} {len : Nat} (h : wf2 r len = true) {j : Nat} (hj : j < len) : (iR (r.I j 0) && iR (r.I j 1)) = true := by
  unfold wf2 at h
  have := anyF_false.1 (by simpa using h) j (Nat.zero_le _) (by omega)
  simpa using this
theorem chk_eight {n d : Int} (h : ¬ chkE n d = 0) : chkE n d = 8 := (chk_zero_or n d).resolve_left h
theorem good01 : goodR 0 1 := by decide
theorem good_iR {n d : Int} (h : goodR n d) : iR n = true ∧ iR d = true := by
  obtain ⟨h1, h2, _⟩ := h
  exact ⟨iR_iff.2 (by omega), iR_iff.2 (by omega)⟩
theorem go_sum {lv : List Tmp} {lx : Option (List Tmp)} {f : St → (X → St → Option (List D)) → Option (List D)} {S : Nat → Int → Int → St} {Sx : Int → Int → St} {Sr : Int → Int → Int → St} {len : Nat} {r : Row} (hl : len ≤ 1000) (hw : wf2 r len = true) (hb : anyF (bd r) len 0 = false)
    (hr : ∀ (i : Nat), i < len → ∀ sn sd R K, f (S i sn sd) (rnd lv lx R K) = br (iR sn && iR sd && iR (r.I (0 + i) 0) && iR (r.I (0 + i) 1)) (br (adE sn sd (r.I (0 + i) 0) (r.I (0 + i) 1) != 0) (K .ret (Sr (adE sn sd (r.I (0 + i) 0) (r.I (0 + i) 1)) sn sd)) (R (S (i + 1) (adN sn sd (r.I (0 + i) 0) (r.I (0 + i) 1)) (adD sn sd (r.I (0 + i) 0) (r.I (0 + i) 1))))) none)
    (he : ∀ sn sd R K, f (S len sn sd) (rnd lv lx R K) = K (.exit 2) (Sx sn sd)) (K : X → St → Option (List D)) :
    ∀ (m i : Nat) (sn sd : Int), i + m = len → goodR sn sd → ∀ F, m < F → rounds lv lx f F (S i sn sd) K = br (smF r m i sn sd).1 (K .ret (Sr (smF r m i sn sd).2.2.2 (smF r m i sn sd).2.1 (smF r m i sn sd).2.2.1)) (K (.exit 2) (Sx (smF r m i sn sd).2.1 (smF r m i sn sd).2.2.1))
  | 0, i, sn, sd, hi, _, F, hF => by
    obtain ⟨F, rfl⟩ : ∃ F', F = F' + 1 := ⟨F - 1, by omega⟩
    obtain rfl : i = len := by omega
    rw [rnds1, he]
    rfl
  | m + 1, i, sn, sd, hi, hg, F, hF => by
    obtain ⟨F, rfl⟩ : ∃ F', F = F' + 1 := ⟨F - 1, by omega⟩
    obtain ⟨g1, g2⟩ := good_iR hg
    have hge : goodR (r.I i 0) (r.I i 1) := chk_good (by
      have := anyF_false.1 hb i (Nat.zero_le _) (by omega)
      unfold bd at this
      simpa using this)
    have hw1 := wf2_at hw (show i < len by omega)
    rw [rnds1, hr i (by omega), Nat.zero_add, g1, g2, show (true && true && iR (r.I i 0) && iR (r.I i 1)) = true by simpa using hw1, br_true]
    unfold smF
    by_cases hE : adE sn sd (r.I i 0) (r.I i 1) = 0
    · rw [if_pos hE, hE, show ((0 : Int) != 0) = false from rfl, br_false]
      exact go_sum hl hw hb hr he K m (i + 1) _ _ (by omega) ((Ra.ad_is hg hge).zero hE).2.2.2.1 F (by omega)
    · rw [if_neg hE, show (adE sn sd (r.I i 0) (r.I i 1) != 0) = true by simpa using hE]
      rfl
set_option maxRecDepth 100000 in
theorem loop4a : LoopOk (CSv chkE adN adD adE) l4a := ⟨by kernel_rfl, fun q its k rr h => by
  show rounds [0, 2, 16, 17, 18] (some [0, 2, 3]) (evCode (CSv chkE adN adD adE) 12 true (inl (CSv chkE adN adD adE) (q + 4)) (lbody (CSv chkE adN adD adE).P 12 4)) 18446744073709551616 (bst l4a.p its) k = some rr
  change G4a its k = some rr at h
  unfold G4a at h
  split at h
  · rename_i len len2 l r
    rcases br_some h with ⟨h1, h2⟩ | ⟨_, h2⟩
    · simp only [Bool.and_eq_true, decide_eq_true_eq] at h1
      obtain ⟨⟨k1, k2, k3⟩, k4⟩ := h1
      subst k1; subst k2
      rw [← h2]
      exact rounds_scan (S := fun j => S4a len2 len2 j r) (len := len2) (bad := bd r) (Kb := fun K => K .ret (S4ar len2 8 r)) (Ke := fun K => K (.exit 0) (S4ax len2 r))
        (fun j hj R K => by
          rw [round4a, decide_eq_true (show (j : Int) < (len2 : Int) by omega), br_true, decide_eq_true (show (0 : Int) ≤ (j : Int) by omega), Bool.true_and, br_true, Nat.zero_add, wf2_at k4 hj, br_true, wrapI_id (n := (j : Int) + 1) (by omega) (by omega), show (j : Int) + 1 = ((j + 1 : Nat) : Int) by omega]
          unfold bd
          by_cases hc : chkE (r.I j 0) (r.I j 1) = 0
          · rw [show (chkE (r.I j 0) (r.I j 1) != 0) = false by simpa using hc]; rfl
          · rw [chk_eight hc])
        (fun R K => by
          rw [round4a, decide_eq_false (show ¬ (len2 : Int) < (len2 : Int) by omega)]; rfl) k len2 0 (by omega) _ (by omega)
    · cases h2
  · cases h⟩
set_option maxRecDepth 100000 in
theorem loop4b : LoopOk (CSv chkE adN adD adE) l4b := ⟨by kernel_rfl, fun q its k rr h => by
  show rounds [0, 2, 4] (some [0, 2, 3]) (evCode (CSv chkE adN adD adE) 13 true (inl (CSv chkE adN adD adE) (q + 4)) (lbody (CSv chkE adN adD adE).P 13 4)) 18446744073709551616 (bst l4b.p its) k = some rr
  change G4b its k = some rr at h
  unfold G4b at h
  split at h
  · rename_i len r
    rcases br_some h with ⟨h1, h2⟩ | ⟨_, h2⟩
    · simp only [Bool.and_eq_true, decide_eq_true_eq] at h1
      obtain ⟨k3, k4⟩ := h1
      rw [← h2]
      exact rounds_scan (S := fun j => S4b len j r) (len := len) (bad := bd r) (Kb := fun K => K .ret (S4br len 8 r)) (Ke := fun K => K (.exit 0) (S4bx len r))
        (fun j hj R K => by
          rw [round4b, decide_eq_true (show (j : Int) < (len : Int) by omega), br_true, decide_eq_true (show (0 : Int) ≤ (j : Int) by omega), Bool.true_and, br_true, Nat.zero_add, wf2_at k4 hj, br_true, wrapI_id (n := (j : Int) + 1) (by omega) (by omega), show (j : Int) + 1 = ((j + 1 : Nat) : Int) by omega]
          unfold bd
          by_cases hc : chkE (r.I j 0) (r.I j 1) = 0
          · rw [show (chkE (r.I j 0) (r.I j 1) != 0) = false by simpa using hc]; rfl
          · rw [chk_eight hc]; rfl)
        (fun R K => by
          rw [round4b, decide_eq_false (show ¬ (len : Int) < (len : Int) by omega)]; rfl) k len 0 (by omega) _ (by omega)
    · cases h2
  · cases h⟩
set_option maxRecDepth 100000 in
theorem loop12 : LoopOk (CSv chkE adN adD adE) l12 := ⟨by kernel_rfl, fun q its k rr h => by
  show rounds [2, 7, 30, 31, 32] (some [2, 3, 7]) (evCode (CSv chkE adN adD adE) 12 true (inl (CSv chkE adN adD adE) (q + 4)) (lbody (CSv chkE adN adD adE).P 12 12)) 18446744073709551616 (bst l12.p its) k = some rr
  change GSa its k = some rr at h
  unfold GSa at h
  split at h
  · rename_i len l r
    rcases br_some h with ⟨h1, h2⟩ | ⟨_, h2⟩
    · simp only [Bool.and_eq_true, decide_eq_true_eq, Bool.not_eq_true'] at h1
      obtain ⟨⟨⟨k1, k2⟩, k3⟩, k4⟩ := h1
      subst k1
      rw [← h2]
      exact go_sum (S := fun i sn sd => S12 len len i sn sd r) (Sx := S12x) (Sr := S12r) k2 k3 k4 (fun i hi sn sd R K => by
        rw [round12, decide_eq_true (show (i : Int) < (len : Int) by omega), br_true, decide_eq_true (show (0 : Int) ≤ (i : Int) by omega), Bool.true_and, br_true, wrapI_id (n := (i : Int) + 1) (by omega) (by omega), show (i : Int) + 1 = ((i + 1 : Nat) : Int) by omega])
        (fun sn sd R K => by rw [round12, decide_eq_false (show ¬ (len : Int) < (len : Int) by omega)]; rfl) k len 0 0 1 (by omega) good01 _ (by omega)
    · cases h2
  · cases h⟩
set_option maxRecDepth 100000 in
theorem loop10 : LoopOk (CSv chkE adN adD adE) l10 := ⟨by kernel_rfl, fun q its k rr h => by
  show rounds [0, 2, 5, 6] (some [2, 3, 5]) (evCode (CSv chkE adN adD adE) 13 true (inl (CSv chkE adN adD adE) (q + 4)) (lbody (CSv chkE adN adD adE).P 13 10)) 18446744073709551616 (bst l10.p its) k = some rr
  change GSb its k = some rr at h
  unfold GSb at h
  split at h
  · rename_i len r
    rcases br_some h with ⟨h1, h2⟩ | ⟨_, h2⟩
    · simp only [Bool.and_eq_true, decide_eq_true_eq, Bool.not_eq_true'] at h1
      obtain ⟨⟨k2, k3⟩, k4⟩ := h1
      rw [← h2]
      exact go_sum (S := fun i sn sd => S10 len i sn sd r) (Sx := S10x) (Sr := S10r) k2 k3 k4 (fun i hi sn sd R K => by
        rw [round10, decide_eq_true (show (i : Int) < (len : Int) by omega), br_true, decide_eq_true (show (0 : Int) ≤ (i : Int) by omega), Bool.true_and, br_true, wrapI_id (n := (i : Int) + 1) (by omega) (by omega), show (i : Int) + 1 = ((i + 1 : Nat) : Int) by omega])
        (fun sn sd R K => by rw [round10, decide_eq_false (show ¬ (len : Int) < (len : Int) by omega)]; rfl) k len 0 0 1 (by omega) good01 _ (by omega)
    · cases h2
  · cases h⟩
theorem CS_ok : CxOk (CSv chkE adN adD adE) := mkCx_ok enter mixed (fun p h => by
  simp only [List.mem_cons, List.not_mem_nil, or_false] at h
  rcases h with rfl | rfl | rfl | rfl
  · exact den_chk
  · exact den_chkr
  · exact den_addp
  · exact den_addr) (fun l h => by
  simp only [List.mem_cons, List.not_mem_nil, or_false] at h
  rcases h with rfl | rfl | rfl | rfl
  · exact loop4a
  · exact loop12
  · exact loop4b
  · exact loop10)
def suT (r : Row) : Option (List D) := br (anyF (bd r) r.n 0) (some [.agg [.v (i64 0), .v (i64 0)], .v (i64 8)]) (br (wf2 r r.n && !anyF (bd r) r.n 0) (br (smF r r.n 0 0 1).1 (some [.agg [.v (i64 0), .v (i64 0)], .v (i64 (smF r r.n 0 0 1).2.2.2)]) (some [.agg [.v (i64 (smF r r.n 0 0 1).2.1), .v (i64 (smF r r.n 0 0 1).2.2.1)], .v (i64 0)])) none)
theorem tsum (ce : Int → Int → Int) (an ad ae : Int → Int → Int → Int → Int) (r : Row) : evF (CSv ce an ad ae) 6 12 [.slice [.int .i64, .int .i64] r] =
    br (decide ((↑r.n : Int) > 100)) (some [.agg [.v (i64 (0)), .v (i64 (0))], .v (i64 (4))]) (br (decide (r.n = r.n ∧ (↑r.n : Int) = (↑r.n : Int) ∧ r.n ≤ 1000) && wf2 r r.n) (br (anyF (bd r) r.n 0) (some [.agg [.v (i64 (0)), .v (i64 (0))], .v (i64 (8))]) (br (decide ((↑r.n : Int) = (↑r.n : Int) ∧ r.n ≤ 1000) && wf2 r r.n && !anyF (bd r) r.n 0) (br ((smF r r.n 0 0 1).1) (some [.agg [.v (i64 (0)), .v (i64 (0))], .v (i64 ((smF r r.n 0 0 1).snd.snd.2))]) (some [.agg [.v (i64 ((smF r r.n 0 0 1).snd.1)), .v (i64 ((smF r r.n 0 0 1).snd.snd.1))], .v (i64 (0))])) (none))) (none)) := by kernel_rfl
theorem tsumr (ce : Int → Int → Int) (an ad ae : Int → Int → Int → Int → Int) (r : Row) : evF (CSv ce an ad ae) 6 13 [.slice [.int .i64, .int .i64] r] =
    br (decide ((↑r.n : Int) > 100)) (some [.agg [.v (i64 (0)), .v (i64 (0))], .v (i64 (4))]) (br (decide (r.n ≤ 1000) && wf2 r r.n) (br (anyF (bd r) r.n 0) (some [.agg [.v (i64 (0)), .v (i64 (0))], .v (i64 (8))]) (br (decide (r.n ≤ 1000) && wf2 r r.n && !anyF (bd r) r.n 0) (br ((smF r r.n 0 0 1).1) (some [.agg [.v (i64 (0)), .v (i64 (0))], .v (i64 ((smF r r.n 0 0 1).snd.snd.2))]) (some [.agg [.v (i64 ((smF r r.n 0 0 1).snd.1)), .v (i64 ((smF r r.n 0 0 1).snd.snd.1))], .v (i64 (0))])) (none))) (none)) := by kernel_rfl
end Go.Proofs.YtofkkhdmjllcfaaDoor.Su

/- What is counted in the law AppealBound: the loop, and what stays true of it. No conditions. -/
import Derived.Test.YtlejhkmkdajneaaA13
namespace Go.Proofs.Ytlejhkmkdajneaa
open Go.Ev
set_option linter.all false
structure Ct where
  dn : Int
  lv : Int
  bk : Int
  aw : Int
def ctS (k cents : Int) (c : Ct) : Ct :=
  if k = 1 ∨ k = 4 then ⟨IntKind.i64.wrap (c.dn + 1), c.lv, c.bk, cents⟩ else if k = 3 then ⟨IntKind.i64.wrap (c.dn + 1), c.lv, c.bk, c.aw⟩
  else if k = 2 then ⟨c.dn, IntKind.i64.wrap (c.lv + 1), c.bk, c.aw⟩ else if k = 5 then ⟨c.dn, IntKind.i64.wrap (c.lv - 1), IntKind.i64.wrap (c.bk + 1), c.aw⟩ else c
def ctR (s : Row) : Nat → Nat → Ct → Ct
  | 0, _, c => c
  | m + 1, j, c => ctR s m (j + 1) (ctS (s.I (0 + j) 0) (s.I (0 + j) 3) c)
def S5 (l r : Int) (len : Nat) (b n : Int) (c : Ct) (j : Int) (s : Row) (e : Ms) : St := ⟨[i64 l] ++ us 1 ++ [i64 r] ++ us 1 ++ [.slice (some ⟨0, 0, some 0⟩) len 0] ++ us 6 ++ [.bool true] ++ us 2 ++ [i64 b] ++ us 1 ++ [.pointer (some ⟨1, 0, some 0⟩), i64 n] ++ us 1 ++ [i64 c.dn, i64 c.lv, i64 c.bk, i64 c.aw, i64 j] ++ us 115, [[]], [some (.row ksV false s), boxC e]⟩
def S5x (l r b : Int) (c : Ct) (e : Ms) : St := ⟨[i64 l] ++ us 1 ++ [i64 r] ++ us 8 ++ [.bool true] ++ us 2 ++ [i64 b] ++ us 1 ++ [.pointer (some ⟨0, 0, some 0⟩)] ++ us 2 ++ [i64 c.dn, i64 c.lv, i64 c.bk, i64 c.aw] ++ us 116, [[]], [boxC e]⟩
def G5 : List It → (X → St → Option (List D)) → Option (List D)
  | [.i l, .i r, .n len, .i b, .i n, .r s, .i lv, .i ds_, .i rm, .i cl, .i lev, .i st, .i day, .i due, .i rd, .b w0, .b w1, .i aw], k =>
    br (decide (0 ≤ n) && decide (n ≤ (len : Int)) && decide (len ≤ 1000)) (k (.exit 0) (S5x l r b (ctR s n.toNat 0 ⟨0, 0, 0, 0⟩) ⟨lv, ds_, rm, cl, lev, st, day, due, rd, w0, w1, aw⟩)) none
  | _, _ => none
def l5 : LoopC where
  f := 5
  id := 11
  lv := [0, 2, 4, 11, 14, 16, 17, 19, 20, 21, 22, 23]
  lx := [0, 2, 10, 11, 14, 16, 19, 20, 21, 22]
  p := { τ := [.v (.int .i64)] ++ pu 1 ++ [.v (.int .i64)] ++ pu 1 ++ [.v (.sl 0)] ++ pu 6 ++ [.v (.c (.bool true))] ++ pu 2 ++ [.v (.int .i64)] ++ pu 1 ++ [.v (.c (.pointer (some ⟨1, 0, some 0⟩))), .v (.int .i64)] ++ pu 1 ++ [.v (.c (i64 0)), .v (.c (i64 0)), .v (.c (i64 0)), .v (.c (i64 0)), .v (.c (i64 0))] ++ pu 115, saved := [[]], mem := [.row ksV false, boxP] }
  G := G5
noncomputable def C12 : Cx := mkCx Try.prog fns [(25, Ftrue), (10, Fop), (23, Frp), (16, Fbd), (18, Fchk)] [l5]
theorem round5 (q : Nat) (R : St → Option (List D)) (K : X → St → Option (List D)) (l r : Int) (len : Nat) (b n : Int) (c : Ct) (j : Nat) (s : Row) (e : Ms) :
   evCode C12 5 true (inl C12 (q + 4)) (lbody C12.P 5 11) (S5 l r len b n c j s e) (rnd [0, 2, 4, 11, 14, 16, 17, 19, 20, 21, 22, 23] (some [0, 2, 10, 11, 14, 16, 19, 20, 21, 22]) R K) =
   br (decide ((j : Int) < n)) (br (decide (0 ≤ (j : Int)) && decide ((j : Int) < (len : Int)))
     (br (s.I (0 + j) 0 == 1) (br (s.I (0 + j) 0 == 1) (br (decide (0 ≤ (j : Int)) && decide ((j : Int) < (len : Int))) (R (S5 l r len b n ⟨IntKind.i64.wrap (c.dn + 1), c.lv, c.bk, s.I (0 + j) 3⟩ (IntKind.i64.wrap (j + 1)) s e)) none)
         (br (s.I (0 + j) 0 == 3) (R (S5 l r len b n ⟨IntKind.i64.wrap (c.dn + 1), c.lv, c.bk, c.aw⟩ (IntKind.i64.wrap (j + 1)) s e)) (br (s.I (0 + j) 0 == 2) (R (S5 l r len b n ⟨c.dn, IntKind.i64.wrap (c.lv + 1), c.bk, c.aw⟩ (IntKind.i64.wrap (j + 1)) s e)) (br (s.I (0 + j) 0 == 5) (R (S5 l r len b n ⟨c.dn, IntKind.i64.wrap (c.lv - 1), IntKind.i64.wrap (c.bk + 1), c.aw⟩ (IntKind.i64.wrap (j + 1)) s e)) (R (S5 l r len b n c (IntKind.i64.wrap (j + 1)) s e))))))
       (br (s.I (0 + j) 0 == 4) (br (decide (0 ≤ (j : Int)) && decide ((j : Int) < (len : Int))) (R (S5 l r len b n ⟨IntKind.i64.wrap (c.dn + 1), c.lv, c.bk, s.I (0 + j) 3⟩ (IntKind.i64.wrap (j + 1)) s e)) none)
         (br (s.I (0 + j) 0 == 3) (R (S5 l r len b n ⟨IntKind.i64.wrap (c.dn + 1), c.lv, c.bk, c.aw⟩ (IntKind.i64.wrap (j + 1)) s e)) (br (s.I (0 + j) 0 == 2) (R (S5 l r len b n ⟨c.dn, IntKind.i64.wrap (c.lv + 1), c.bk, c.aw⟩ (IntKind.i64.wrap (j + 1)) s e)) (br (s.I (0 + j) 0 == 5) (R (S5 l r len b n ⟨c.dn, IntKind.i64.wrap (c.lv - 1), IntKind.i64.wrap (c.bk + 1), c.aw⟩ (IntKind.i64.wrap (j + 1)) s e)) (R (S5 l r len b n c (IntKind.i64.wrap (j + 1)) s e))))))) none)
     (K (.exit 0) (S5x l r b c e)) := by kernel_rfl
theorem runL_ct {α κ : Type} (s : Row) (E : Ct → κ → Option α) (K : κ) : ∀ (m j : Nat) (c : Ct), runL (fun j c R _ => R (ctS (s.I (0 + j) 0) (s.I (0 + j) 3) c)) E K m j c = E (ctR s m j c) K
  | 0, _, _ => rfl
  | m + 1, j, c => runL_ct s E K m (j + 1) _
set_option maxRecDepth 100000 in
theorem loop5 : LoopOk C12 l5 := ⟨by kernel_rfl, fun q its k rr h => by
  show rounds [0, 2, 4, 11, 14, 16, 17, 19, 20, 21, 22, 23] (some [0, 2, 10, 11, 14, 16, 19, 20, 21, 22]) (evCode C12 5 true (inl C12 (q + 4)) (lbody C12.P 5 11)) 18446744073709551616 (bst l5.p its) k = some rr
  change G5 its k = some rr at h
  unfold G5 at h
  split at h
  · rename_i l r len b n s lv ds_ rm cl lev st day due rd w0 w1 aw
    rcases br_some h with ⟨h1, h2⟩ | ⟨_, h2⟩
    · simp only [Bool.and_eq_true, decide_eq_true_eq] at h1
      obtain ⟨⟨h0, h1⟩, h3⟩ := h1
      obtain ⟨nn, rfl⟩ : ∃ nn : Nat, n = nn := ⟨n.toNat, by omega⟩
      rw [← h2]
      have key := rounds_run (lv := [0, 2, 4, 11, 14, 16, 17, 19, 20, 21, 22, 23]) (lx := some [0, 2, 10, 11, 14, 16, 19, 20, 21, 22]) (f := evCode C12 5 true (inl C12 (q + 4)) (lbody C12.P 5 11)) (S := fun j c => S5 l r len b nn c j s ⟨lv, ds_, rm, cl, lev, st, day, due, rd, w0, w1, aw⟩) (len := nn)
        (T := fun j c R _ => R (ctS (s.I (0 + j) 0) (s.I (0 + j) 3) c)) (E := fun c K => K (.exit 0) (S5x l r b c ⟨lv, ds_, rm, cl, lev, st, day, due, rd, w0, w1, aw⟩))
        (fun j hj c R K => by
          rw [round5, wrap64 (n := (j : Int) + 1) (by omega) (by omega), show decide ((j : Int) < (nn : Int)) = true by simpa using hj, show (decide (0 ≤ (j : Int))) = true by simp, show decide ((j : Int) < (len : Int)) = true from decide_eq_true (by omega)]
          generalize s.I (0 + j) 0 = kk
          simp only [Bool.and_self, br_true]
          unfold ctS
          by_cases e1 : kk = 1
          · rw [show (kk == 1) = true by simpa using e1, if_pos (.inl e1)]; rfl
          · rw [show (kk == 1) = false by simpa using e1]
            by_cases e4 : kk = 4
            · rw [show (kk == 4) = true by simpa using e4, if_pos (.inr e4)]; rfl
            · rw [show (kk == 4) = false by simpa using e4, if_neg (by omega)]
              by_cases e3 : kk = 3
              · rw [show (kk == 3) = true by simpa using e3, if_pos e3]; rfl
              · rw [show (kk == 3) = false by simpa using e3, if_neg e3]
                by_cases e2 : kk = 2
                · rw [show (kk == 2) = true by simpa using e2, if_pos e2]; rfl
                · rw [show (kk == 2) = false by simpa using e2, if_neg e2]
                  by_cases e5 : kk = 5
                  · rw [show (kk == 5) = true by simpa using e5, if_pos e5]; rfl
                  · rw [show (kk == 5) = false by simpa using e5, if_neg e5]; rfl)
        (fun c R K => by
          rw [round5, show decide ((nn : Int) < (nn : Int)) = false by simp]
          rfl) (fun j c R R' K hR => hR _) k nn 0 ⟨0, 0, 0, 0⟩ (by omega) 18446744073709551616 (by omega)
      rw [runL_ct] at key
      exact key
    · cases h2
  · cases h⟩
theorem C12_ok : CxOk C12 := mkCx_ok enter mixed (fun p h => by
  simp only [List.mem_cons, List.not_mem_nil, or_false] at h
  rcases h with rfl | rfl | rfl | rfl | rfl
  · exact den_alive
  · exact den_op
  · exact den_rp
  · exact den_bd
  · exact den_chk) (fun l h => by
  simp only [List.mem_singleton] at h
  subst h
  exact loop5)
theorem tbound (l d r cl : Int) (s : Row) : evF C12 6 5 [.v (i64 l), .v (i64 d), .v (i64 r), .v (i64 cl), .slice ksV s] =
    br (opE l d r cl 0 != 0) (some [.v (.bool (true))]) (br (decide ((↑s.n : Int) > 100)) (some [.v (.bool (true))]) (br (chkE (opC l d r cl 0) != 0) (some [.v (.bool (false))]) (br (decide ((↑(rpR { lv := (opC l d r cl 0).lv, ds := (opC l d r cl 0).ds, rm := (opC l d r cl 0).rm, cl := (opC l d r cl 0).cl, lev := (opC l d r cl 0).lev, st := (opC l d r cl 0).st, day := (opC l d r cl 0).day, due := (opC l d r cl 0).due, rd := (opC l d r cl 0).rd, w0 := (opC l d r cl 0).w0, w1 := (opC l d r cl 0).w1, aw := (opC l d r cl 0).aw : Ms } (winOf s 0 s.n)).snd.fst : Int) > (↑s.n : Int))) (some [.v (.bool (false))]) (br (chkE (rpR { lv := (opC l d r cl 0).lv, ds := (opC l d r cl 0).ds, rm := (opC l d r cl 0).rm, cl := (opC l d r cl 0).cl, lev := (opC l d r cl 0).lev, st := (opC l d r cl 0).st, day := (opC l d r cl 0).day, due := (opC l d r cl 0).due, rd := (opC l d r cl 0).rd, w0 := (opC l d r cl 0).w0, w1 := (opC l d r cl 0).w1, aw := (opC l d r cl 0).aw : Ms } (winOf s 0 s.n)).1 != 0) (some [.v (.bool (false))]) (br (decide (0 ≤ (↑(rpR { lv := (opC l d r cl 0).lv, ds := (opC l d r cl 0).ds, rm := (opC l d r cl 0).rm, cl := (opC l d r cl 0).cl, lev := (opC l d r cl 0).lev, st := (opC l d r cl 0).st, day := (opC l d r cl 0).day, due := (opC l d r cl 0).due, rd := (opC l d r cl 0).rd, w0 := (opC l d r cl 0).w0, w1 := (opC l d r cl 0).w1, aw := (opC l d r cl 0).aw : Ms } (winOf s 0 s.n)).snd.fst : Int)) && decide ((↑(rpR { lv := (opC l d r cl 0).lv, ds := (opC l d r cl 0).ds, rm := (opC l d r cl 0).rm, cl := (opC l d r cl 0).cl, lev := (opC l d r cl 0).lev, st := (opC l d r cl 0).st, day := (opC l d r cl 0).day, due := (opC l d r cl 0).due, rd := (opC l d r cl 0).rd, w0 := (opC l d r cl 0).w0, w1 := (opC l d r cl 0).w1, aw := (opC l d r cl 0).aw : Ms } (winOf s 0 s.n)).snd.fst : Int) ≤ (↑s.n : Int)) && decide (s.n ≤ 1000)) (br (decide ((ctR s (↑(rpR { lv := (opC l d r cl 0).lv, ds := (opC l d r cl 0).ds, rm := (opC l d r cl 0).rm, cl := (opC l d r cl 0).cl, lev := (opC l d r cl 0).lev, st := (opC l d r cl 0).st, day := (opC l d r cl 0).day, due := (opC l d r cl 0).due, rd := (opC l d r cl 0).rd, w0 := (opC l d r cl 0).w0, w1 := (opC l d r cl 0).w1, aw := (opC l d r cl 0).aw : Ms } (winOf s 0 s.n)).snd.fst : Int).toNat 0 { dn := 0, lv := 0, bk := 0, aw := 0 : Ct }).dn ≤ bdN { lv := (opC l d r cl 0).lv, ds := (opC l d r cl 0).ds, rm := (opC l d r cl 0).rm, cl := (opC l d r cl 0).cl, lev := (opC l d r cl 0).lev, st := (opC l d r cl 0).st, day := (opC l d r cl 0).day, due := (opC l d r cl 0).due, rd := (opC l d r cl 0).rd, w0 := (opC l d r cl 0).w0, w1 := (opC l d r cl 0).w1, aw := (opC l d r cl 0).aw : Ms })) (br (bdN (opC l d r cl 0) == IntKind.i64.wrap (l + r)) (br ((rpR { lv := (opC l d r cl 0).lv, ds := (opC l d r cl 0).ds, rm := (opC l d r cl 0).rm, cl := (opC l d r cl 0).cl, lev := (opC l d r cl 0).lev, st := (opC l d r cl 0).st, day := (opC l d r cl 0).day, due := (opC l d r cl 0).due, rd := (opC l d r cl 0).rd, w0 := (opC l d r cl 0).w0, w1 := (opC l d r cl 0).w1, aw := (opC l d r cl 0).aw : Ms } (winOf s 0 s.n)).1.lev == (ctR s (↑(rpR { lv := (opC l d r cl 0).lv, ds := (opC l d r cl 0).ds, rm := (opC l d r cl 0).rm, cl := (opC l d r cl 0).cl, lev := (opC l d r cl 0).lev, st := (opC l d r cl 0).st, day := (opC l d r cl 0).day, due := (opC l d r cl 0).due, rd := (opC l d r cl 0).rd, w0 := (opC l d r cl 0).w0, w1 := (opC l d r cl 0).w1, aw := (opC l d r cl 0).aw : Ms } (winOf s 0 s.n)).snd.1 : Int).toNat 0 { dn := 0, lv := 0, bk := 0, aw := 0 : Ct }).lv) (br ((rpR { lv := (opC l d r cl 0).lv, ds := (opC l d r cl 0).ds, rm := (opC l d r cl 0).rm, cl := (opC l d r cl 0).cl, lev := (opC l d r cl 0).lev, st := (opC l d r cl 0).st, day := (opC l d r cl 0).day, due := (opC l d r cl 0).due, rd := (opC l d r cl 0).rd, w0 := (opC l d r cl 0).w0, w1 := (opC l d r cl 0).w1, aw := (opC l d r cl 0).aw : Ms } (winOf s 0 s.n)).1.rd == (ctR s (↑(rpR { lv := (opC l d r cl 0).lv, ds := (opC l d r cl 0).ds, rm := (opC l d r cl 0).rm, cl := (opC l d r cl 0).cl, lev := (opC l d r cl 0).lev, st := (opC l d r cl 0).st, day := (opC l d r cl 0).day, due := (opC l d r cl 0).due, rd := (opC l d r cl 0).rd, w0 := (opC l d r cl 0).w0, w1 := (opC l d r cl 0).w1, aw := (opC l d r cl 0).aw : Ms } (winOf s 0 s.n)).snd.1 : Int).toNat 0 { dn := 0, lv := 0, bk := 0, aw := 0 : Ct }).bk) (some [.v (.bool ((rpR { lv := (opC l d r cl 0).lv, ds := (opC l d r cl 0).ds, rm := (opC l d r cl 0).rm, cl := (opC l d r cl 0).cl, lev := (opC l d r cl 0).lev, st := (opC l d r cl 0).st, day := (opC l d r cl 0).day, due := (opC l d r cl 0).due, rd := (opC l d r cl 0).rd, w0 := (opC l d r cl 0).w0, w1 := (opC l d r cl 0).w1, aw := (opC l d r cl 0).aw : Ms } (winOf s 0 s.n)).1.aw == (ctR s (↑(rpR { lv := (opC l d r cl 0).lv, ds := (opC l d r cl 0).ds, rm := (opC l d r cl 0).rm, cl := (opC l d r cl 0).cl, lev := (opC l d r cl 0).lev, st := (opC l d r cl 0).st, day := (opC l d r cl 0).day, due := (opC l d r cl 0).due, rd := (opC l d r cl 0).rd, w0 := (opC l d r cl 0).w0, w1 := (opC l d r cl 0).w1, aw := (opC l d r cl 0).aw : Ms } (winOf s 0 s.n)).snd.1 : Int).toNat 0 { dn := 0, lv := 0, bk := 0, aw := 0 : Ct }).aw))]) (some [.v (.bool (false))])) (some [.v (.bool (false))])) (some [.v (.bool (false))])) (some [.v (.bool (false))])) (none)))))) := by kernel_rfl
/-- What is counted, and the matter. -/
def Jn (L R : Int) (c : Ms) (t : Ct) : Prop := goodM c ∧ c.lv = L ∧ c.rm = R ∧ t.lv = c.lev ∧ t.bk = c.rd ∧ t.aw = c.aw ∧ (c.st = 1 → t.dn = c.lev + c.rd) ∧ (c.st ≠ 1 → t.dn = c.lev + c.rd + 1)
theorem at_keep {m : Ms} {d : Int} (h : atE m d = 0) : (atC m d).lev = m.lev ∧ (atC m d).rd = m.rd ∧ (atC m d).aw = m.aw ∧ ((atC m d).st = 1 ↔ m.st = 1) := by
  rw [show atC m d = stepC m d from if_pos h]
  unfold stepC
  split
  · refine ⟨rfl, rfl, rfl, ?_⟩
    dsimp only
    omega
  · exact ⟨rfl, rfl, rfl, Iff.rfl⟩
set_option maxHeartbeats 4000000 in
theorem jn_step {L R : Int} {c : Ms} {t : Ct} {x : Stp} (hJ : Jn L R c t) (h : apE c x = 0) : Jn L R (apC c x) (ctS x.kind x.cents t) := by
  have hgood := ap_good h
  obtain ⟨h1, h2, h3, h4, h5, h6, h7⟩ := ap_zero h
  obtain ⟨_, hg, k1, _, k3, _, _, _, _, _⟩ := at_good h3
  obtain ⟨k5, k6, k7, k8⟩ := at_keep h3
  obtain ⟨_, j1, j2, j3, j4, j5, j6, j7⟩ := hJ
  refine ⟨hgood, ?_⟩
  clear hgood
  rw [h7]
  generalize atC c x.day = q at *
  obtain ⟨qlv, qds, qrm, qcl, qlev, qst, qday, qdue, qrd, qw0, qw1, qaw⟩ := q
  obtain ⟨xk, xday, party, cents⟩ := x
  obtain ⟨tdn, tlv, tbk, taw⟩ := t
  simp only [goodM] at hg
  obtain ⟨g1, g2, g3, g4, g5, g6, g7, g8, g9, g10, _, _⟩ := hg
  unfold allP at h4
  unfold stpP at h2
  dsimp only at *
  have hk : (xk = 1 ∨ xk = 4) ∨ xk = 2 ∨ xk = 3 ∨ xk = 5 ∨ xk = 6 := by omega
  unfold ctS
  dsimp only
  rcases hk with hk | hk | hk | hk | hk
  · rw [doC_a _ _ hk, if_pos hk, wrap64 (by omega) (by omega)]
    unfold dec
    split <;> (dsimp only at *; omega)
  · rw [doC_2 _ _ hk, if_neg (by omega), if_neg (by omega), if_pos hk, wrap64 (by omega) (by omega)]
    dsimp only
    omega
  · rw [doC_3 _ _ hk, if_neg (by omega), if_pos hk, wrap64 (by omega) (by omega)]
    unfold dec
    split <;> (dsimp only at *; omega)
  · rw [doC_5 _ _ hk, if_neg (by omega), if_neg (by omega), if_neg (by omega), if_pos hk, wrap64 (n := tlv - 1) (by omega) (by omega), wrap64 (n := tbk + 1) (by omega) (by omega)]
    dsimp only
    refine ⟨?_, ?_, ?_, ?_, ?_, ?_, ?_⟩ <;> omega
  · rw [if_neg (show ¬ (xk = 1 ∨ xk = 4) by omega), if_neg (show ¬ xk = 3 by omega), if_neg (show ¬ xk = 2 by omega), if_neg (show ¬ xk = 5 by omega), doC_6 _ _ hk]
    repeat' split
    all_goals (dsimp only at *; omega)
theorem jn_run {L R : Int} (s : Row) : ∀ (m j : Nat) (c : Ms) (t : Ct), Jn L R c t → Jn L R (runG (rE s) (rN s) m j c).1 (ctR s ((runG (rE s) (rN s) m j c).2.1 - j) j t)
  | 0, j, c, t, h => by
    show Jn L R c (ctR s (j - j) j t)
    rw [Nat.sub_self]
    exact h
  | m + 1, j, c, t, h => by
    rw [runG_s]
    by_cases h0 : rE s c j = 0
    · rw [if_pos h0]
      have hle := (runG_le (e := rE s) (nx := rN s) (m := m) (j := j + 1) (c := rN s c j)).1
      have := jn_run s m (j + 1) (rN s c j) (ctS (s.I (0 + j) 0) (s.I (0 + j) 3) t) (jn_step (x := stpAt s j) h h0)
      rw [show (runG (rE s) (rN s) m (j + 1) (rN s c j)).2.1 - j = ((runG (rE s) (rN s) m (j + 1) (rN s c j)).2.1 - (j + 1)) + 1 by omega]
      exact this
    · rw [if_neg h0]
      show Jn L R c (ctR s (j - j) j t)
      rw [Nat.sub_self]
      exact h
end Go.Proofs.Ytlejhkmkdajneaa

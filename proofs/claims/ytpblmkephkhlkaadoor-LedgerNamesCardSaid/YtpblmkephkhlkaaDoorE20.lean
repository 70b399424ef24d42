/- Package ledger: Settle: contract. No conditions. -/
import Derived.Test.YtpblmkephkhlkaaDoorE19
namespace Go.Proofs.YtpblmkephkhlkaaDoor.Se
open Go.Ev
set_option linter.all false
/-- The payments of a group, from the party that pays first on. -/
def inG (g : Row) (nl ng : Nat) (gr : Int) : Nat → Int → Nat → Row → Row → T3
  | 0, fr, k, l, o => if fr < 0 then some (k, l, o) else none
  | f + 1, fr, k, l, o => if fr < 0 then some (k, l, o) else if fw l g nl ng gr (-1) < 0 then none else
    inG g nl ng gr f (fw (l2U l fr (fw l g nl ng gr (-1)) (ceI l fr (fw l g nl ng gr (-1)))) g nl ng gr 1) (k + 1) (l2U l fr (fw l g nl ng gr (-1)) (ceI l fr (fw l g nl ng gr (-1)))) (oU o k (pyR fr (fw l g nl ng gr (-1)) (ceI l fr (fw l g nl ng gr (-1)))))
def gsG : GS := fun nl ng k gr fr l g o => if nl ≤ 1000 ∧ nl ≤ ng ∧ fr < nl ∧ k ≤ 1000000 then inG g nl ng gr 1000 fr k l o else none
/-- The payments of the groups from j on. -/
def outG (g : Row) (nl ng : Nat) : Nat → Nat → Nat → Row → Row → T3
  | 0, _, k, l, o => some (k, l, o)
  | c + 1, j, k, l, o => match gsG nl ng k j (fw l g nl ng j 1) l g o with
    | some (k', l', o') => outG g nl ng c (j + 1) k' l' o'
    | none => none
def g0G : G0 := fun nl ng m l g => if nl ≤ 1000 ∧ nl ≤ ng ∧ 0 ≤ m ∧ m ≤ 1000 then outG g nl ng m.toNat 0 0 l .nil else none
noncomputable def C10 : Cx := C10g gsG g0G
theorem ffF_lt (l g : Row) (gr sg : Int) : ∀ m j, ffF l g gr sg m j < ((j + m : Nat) : Int)
  | 0, j => by unfold ffF; omega
  | m + 1, j => by
    unfold ffF
    split
    · omega
    · have := ffF_lt l g gr sg m (j + 1); omega
theorem fw_lt (l g : Row) (nl ng : Nat) (gr sg : Int) : fw l g nl ng gr sg < (nl : Int) := by
  have := ffF_lt (winOf l 0 nl) (winOf g 0 ng) gr sg nl 0
  unfold fw
  omega
theorem inG_zero {g : Row} {nl ng : Nat} {gr : Int} : ∀ {f : Nat} {fr : Int} {k : Nat} {l o : Row} {k' : Nat} {l' o' : Row}, inG g nl ng gr f fr k l o = some (k', l', o') → k ≤ k' ∧ k' ≤ k + f ∧ (k' = 0 → o' = o)
  | 0, fr, k, l, o, k', l', o', h => by
    unfold inG at h
    split at h
    · cases h; exact ⟨Nat.le_refl _, by omega, fun _ => rfl⟩
    · cases h
  | f + 1, fr, k, l, o, k', l', o', h => by
    unfold inG at h
    split at h
    · cases h; exact ⟨Nat.le_refl _, by omega, fun _ => rfl⟩
    · split at h
      · cases h
      · obtain ⟨h1, h2, h3⟩ := inG_zero h
        exact ⟨by omega, by omega, fun h0 => by omega⟩
theorem go11 {F : St → (X → St → Option (List D)) → Option (List D)} {lv : List Tmp} {lx : Option (List Tmp)} {nl ng : Nat} {gr m j : Int} {g : Row} (h1 : nl ≤ 1000) (h2 : nl ≤ ng)
    (hr : ∀ (k : Nat) (fr : Int) (l o : Row) R K, F (S11 nl ng k gr fr m j l g o) (rnd lv lx R K) = R11 nl ng k gr fr m j l g o R K) (K : X → St → Option (List D)) {k' : Nat} {l' o' : Row} :
    ∀ (f fu : Nat) (fr : Int) (k : Nat) (l o : Row), inG g nl ng gr f fr k l o = some (k', l', o') → fr < nl → k + f ≤ 2000000 → f < fu → rounds lv lx F fu (S11 nl ng k gr fr m j l g o) K = K (.exit 2) (S8 nl ng k' m j l' g o')
  | 0, fu + 1, fr, k, l, o, h, hf, hk, hu => by
    unfold inG at h
    rw [rnds1, hr]
    unfold R11
    split at h
    · cases h
      rw [decide_eq_false (show ¬ fr ≥ 0 by omega), br_false]
    · cases h
  | f + 1, fu + 1, fr, k, l, o, h, hf, hk, hu => by
    unfold inG at h
    rw [rnds1, hr]
    unfold R11
    split at h
    · cases h
      rw [decide_eq_false (show ¬ fr ≥ 0 by omega), br_false]
    · rename_i hfr
      split at h
      · cases h
      · rename_i hto
        have hlt := fw_lt l g nl ng gr (-1)
        rw [show (decide (0 ≤ fr) && decide (fr < (nl : Int))) = true by simp only [Bool.and_eq_true, decide_eq_true_eq]; omega, show (decide (0 ≤ fw l g nl ng gr (-1)) && decide (fw l g nl ng gr (-1) < (nl : Int))) = true by simp only [Bool.and_eq_true, decide_eq_true_eq]; omega,
          decide_eq_true (show fr ≥ 0 by omega), decide_eq_true (show nl ≤ 1000 ∧ nl ≤ ng from ⟨h1, h2⟩), decide_eq_true (show k + 1 ≤ 10000000000 by omega), br_true, br_true, br_true, br_true, br_true, br_true, br_true, br_true, br_true, br_true]
        exact go11 h1 h2 hr K f fu _ (k + 1) _ _ h (fw_lt _ _ _ _ _ _) (by omega) (by omega)
theorem round11 (q : Nat) (nl ng k : Nat) (gr fr m j : Int) (l g o : Row) (R : St → Option (List D)) (K : X → St → Option (List D)) : evCode C10 11 true (inl C10 (q + 4)) (lbody C10.P 11 11) (S11 nl ng k gr fr m j l g o) (rnd [6, 7, 8, 9, 10, 26, 27] (some [2, 3, 6, 7, 8, 26, 27]) R K) = R11 nl ng k gr fr m j l g o R K := by
  cases k with
  | zero => exact round11a gsG g0G R K q nl ng gr fr m j l g o
  | succ k => exact round11b gsG g0G R K q nl ng k gr fr m j l g o
theorem run11 {q nl ng k : Nat} {gr fr m j : Int} {l g o : Row} {K : X → St → Option (List D)} {rr : List D} (h : selO (gsG nl ng k gr fr l g o) (fun l' => K (.exit 2) (S8a nl ng m j l' g)) (fun k' l' o' => K (.exit 2) (S8b nl ng k' m j l' g o')) = some rr) :
    rounds [6, 7, 8, 9, 10, 26, 27] (some [2, 3, 6, 7, 8, 26, 27]) (evCode C10 11 true (inl C10 (q + 4)) (lbody C10.P 11 11)) 18446744073709551616 (S11 nl ng k gr fr m j l g o) K = some rr := by
  unfold gsG at h
  split at h
  · rename_i hc
    obtain ⟨h1, h2, h3, h4⟩ := hc
    cases hi : inG g nl ng gr 1000 fr k l o with
    | none => rw [hi] at h; cases h
    | some x =>
      obtain ⟨k', l', o'⟩ := x
      rw [hi] at h
      rw [go11 h1 h2 (fun k fr l o R K => round11 q nl ng k gr fr m j l g o R K) K 1000 _ fr k l o hi h3 (by omega) (by omega), ← h]
      cases k' <;> rfl
  · cases h
set_option maxRecDepth 100000 in
theorem loop11a : LoopOk C10 (l11a gsG) := ⟨by kernel_rfl, fun q its k rr h => by
  show rounds [6, 7, 8, 9, 10, 26, 27] (some [2, 3, 6, 7, 8, 26, 27]) (evCode C10 11 true (inl C10 (q + 4)) (lbody C10.P 11 11)) 18446744073709551616 (Go.Ev.bst (l11a gsG).p its) k = some rr
  dsimp only [l11a] at h
  split at h
  · rename_i gr fr m j nl ng l g
    exact run11 (k := 0) (o := .nil) h
  · cases h⟩
set_option maxRecDepth 100000 in
theorem loop11b : LoopOk C10 (l11b gsG) := ⟨by kernel_rfl, fun q its k rr h => by
  show rounds [6, 7, 8, 9, 10, 26, 27] (some [2, 3, 6, 7, 8, 26, 27]) (evCode C10 11 true (inl C10 (q + 4)) (lbody C10.P 11 11)) 18446744073709551616 (Go.Ev.bst (l11b gsG).p its) k = some rr
  dsimp only [l11b] at h
  split at h
  · rename_i nk gr fr m j nl ng o l g
    split at h
    · rename_i nk
      exact run11 (k := nk + 1) h
    · cases h
  · cases h⟩
theorem round8 (q : Nat) (nl ng k : Nat) (m j : Int) (l g o : Row) (ho : k = 0 → o = .nil) (R : St → Option (List D)) (K : X → St → Option (List D)) : evCode C10 11 true (inl C10 (q + 4)) (lbody C10.P 11 8) (S8 nl ng k m j l g o) (rnd [6, 7, 8, 26, 27] (some [2, 3, 8]) R K) = R8 gsG nl ng k m j l g o R K := by
  cases k with
  | zero => rw [ho rfl]; exact round8a gsG g0G R K q nl ng m j l g
  | succ k => exact round8b gsG g0G R K q nl ng k m j l g o
theorem gsG_zero {nl ng k : Nat} {gr fr : Int} {l g o : Row} {k' : Nat} {l' o' : Row} (h : gsG nl ng k gr fr l g o = some (k', l', o')) : k ≤ k' ∧ (k' = 0 → o' = o) := by
  unfold gsG at h
  split at h
  · exact ⟨(inG_zero h).1, (inG_zero h).2.2⟩
  · cases h
theorem go8 {q nl ng m : Nat} {g : Row} (h1 : nl ≤ 1000) (h2 : nl ≤ ng) (hm : m ≤ 1000) (K : X → St → Option (List D)) {k' : Nat} {l' o' : Row} :
    ∀ (c fu j k : Nat) (l o : Row), outG g nl ng c j k l o = some (k', l', o') → j + c = m → c < fu → (k = 0 → o = .nil) → (k' = 0 → o' = .nil) ∧ rounds [6, 7, 8, 26, 27] (some [2, 3, 8]) (evCode C10 11 true (inl C10 (q + 4)) (lbody C10.P 11 8)) fu (S8 nl ng k m j l g o) K = K (.exit 0) (S8x k' o')
  | 0, fu + 1, j, k, l, o, h, hj, hu, ho => by
    cases h
    refine ⟨ho, ?_⟩
    rw [rnds1, round8 q nl ng _ m j _ g _ ho]
    unfold R8
    rw [decide_eq_false (show ¬ (j : Int) < (m : Int) by omega), br_false]
  | c + 1, fu + 1, j, k, l, o, h, hj, hu, ho => by
    unfold outG at h
    split at h
    · rename_i k1 l1 o1 hg
      obtain ⟨z1, z2⟩ := gsG_zero hg
      obtain ⟨i1, i2⟩ := go8 (q := q) h1 h2 hm K c fu (j + 1) k1 l1 o1 h (by omega) (by omega) (fun h0 => by rw [z2 h0]; exact ho (by omega))
      refine ⟨i1, ?_⟩
      rw [rnds1, round8 q nl ng k m j l g o ho]
      unfold R8
      rw [decide_eq_true (show (j : Int) < (m : Int) by omega), br_true, decide_eq_true (show nl ≤ 1000 ∧ nl ≤ ng from ⟨h1, h2⟩), br_true, hg, wiN (n := (j : Int) + 1) (by omega) (by omega), show (j : Int) + 1 = ((j + 1 : Nat) : Int) by omega, ← i2]
      cases k1 <;> rfl
    · cases h
set_option maxRecDepth 100000 in
theorem loop8 : LoopOk C10 (l8 g0G) := ⟨by kernel_rfl, fun q its k rr h => by
  show rounds [6, 7, 8, 26, 27] (some [2, 3, 8]) (evCode C10 11 true (inl C10 (q + 4)) (lbody C10.P 11 8)) 18446744073709551616 (Go.Ev.bst (l8 g0G).p its) k = some rr
  dsimp only [l8] at h
  split at h
  · rename_i m nl ng l g
    unfold g0G at h
    split at h
    · rename_i hc
      obtain ⟨h1, h2, h3, h4⟩ := hc
      obtain ⟨m, rfl⟩ := Int.eq_ofNat_of_zero_le h3
      rw [Int.toNat_natCast] at h
      cases hi : outG g nl ng m 0 0 l .nil with
      | none => rw [hi] at h; cases h
      | some x =>
        obtain ⟨k', l', o'⟩ := x
        rw [hi] at h
        obtain ⟨i1, i2⟩ := go8 (q := q) h1 h2 (show m ≤ 1000 by omega) k m 18446744073709551616 0 0 l .nil hi (by omega) (by omega) (fun _ => rfl)
        refine Eq.trans (show _ = _ from i2) ?_
        rw [← h]
        cases k' <;> rfl
    · cases h
  · cases h⟩
theorem C10_ok : CxW C10 Wt := mkCx2_okW enter mixed (fun p h => by
    simp only [List.mem_cons, List.not_mem_nil, or_false] at h
    rcases h with rfl | rfl
    · exact den_groups
    · exact den_first.at _) (fun l h => by
    simp only [List.mem_cons, List.not_mem_nil, or_false] at h
    rcases h with rfl | rfl
    · exact loop11a
    · exact loop8) (fun l h => by
    simp only [List.mem_cons, List.not_mem_nil, or_false] at h
    rcases h with rfl
    exact ⟨loop11b, fun l hl => by cases hl; exact ⟨rfl, rfl⟩⟩)
/-- The payments of a settlement: how many there are, what is left, the payments. -/
def stO (b : Row) : T3 := outG (gpR b) b.n (gpR b).n b.n 0 0 (Row.app (.zeros 0) b) .nil
def stC (b : Row) : Bool := gpC b && (ckE b != 0 || (decide (b.n ≤ (gpR b).n) && (stO b).isSome))
def stR (b : Row) : Row := if ckE b ≠ 0 then .nil else match stO b with
  | some (k + 1, _, o) => winOf o 0 (k + 1)
  | _ => .nil
def Fsettle : List D → Option (Bool × List D)
  | [.slice [.int .i64] b] => some (stC b, [.slice Lg.ks3 (stR b), .v (i64 (ckE b))])
  | _ => none
theorem ck_n {b : Row} (h : ckE b = 0) : 1 ≤ b.n ∧ b.n ≤ 10 := by
  unfold ckE at h
  split at h
  · cases h
  · omega
theorem den_settle : DenW Tryd.prog Wt 11 Fsettle := evF_denW C10_ok fun ds rs h => by
  unfold Fsettle at h
  split at h
  · rename_i b
    simp only [Option.some.injEq, Prod.mk.injEq] at h
    obtain ⟨hc, rfl⟩ := h
    refine (tsettle gsG g0G b).trans ?_
    rw [ckE_win]
    unfold stC at hc
    unfold stR
    simp only [Bool.and_eq_true, Bool.or_eq_true, decide_eq_true_eq] at hc
    obtain ⟨hc1, hc2⟩ := hc
    have hw : gpC (winOf b 0 b.n) = true := by
      unfold gpC at hc1 ⊢
      rw [ckE_win]
      by_cases hk : ckE b = 0
      · rw [win_self (by have := (ck_n hk).1; omega)]; exact hc1
      · rw [show (ckE b != 0) = true by simpa using hk]; rfl
    rw [hw, br_true]
    by_cases hk : ckE b = 0
    · have hn := ck_n hk
      rw [show (ckE b != 0) = false by simpa using hk, br_false, win_self (by omega), Nat.zero_add, decide_eq_true (show b.n ≤ 10000000000 by omega), br_true, if_neg (fun h => h hk)]
      rcases hc2 with h | ⟨h, h'⟩
      · simp [hk] at h
      · have hz : winOf (Row.zeros 0) 0 0 = Row.zeros 0 := rfl
        have hg : g0G b.n (gpR b).n (b.n : Int) ((winOf (Row.zeros 0) 0 0).app b) (gpR b) = stO b := by
          unfold g0G stO
          rw [if_pos ⟨by omega, h, by omega, by omega⟩, Int.toNat_natCast, hz]
        rw [hg]
        cases ho : stO b with
        | none => rw [ho] at h'; cases h'
        | some x =>
          obtain ⟨k, l, o⟩ := x
          rw [hk]
          cases k <;> rfl
    · rw [show (ckE b != 0) = true by simpa using hk, br_true, if_pos hk]
  · cases h
end Go.Proofs.YtpblmkephkhlkaaDoor.Se

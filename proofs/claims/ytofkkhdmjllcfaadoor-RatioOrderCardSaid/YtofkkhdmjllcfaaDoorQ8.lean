/- Texts: contracts of Text and Parse. No conditions. -/
import Derived.Test.YtofkkhdmjllcfaaDoorQ7
namespace Go.Proofs.YtofkkhdmjllcfaaDoor
open Go.Ev Go.RowKit Go.Lib Go.Dec
set_option linter.all false
def Fdec : List D → Option (Bool × List D)
  | [.v (.int .i64 n)] => some (decide (0 ≤ n) && decide (n < 9223372036854775808), [.v (str (decDigits n.toNat))])
  | _ => none
theorem den_dec : Den Tryd.prog 28 Fdec := evF_den CD_ok fun ds rs h => by
  unfold Fdec at h
  split at h
  · rename_i n
    simp only [Option.some.injEq, Prod.mk.injEq, Bool.and_eq_true, decide_eq_true_eq] at h
    obtain ⟨⟨h0, h1⟩, rfl⟩ := h
    refine (tdec n).trans ?_
    rw [decide_eq_true (show 0 ≤ n ∧ n < 9223372036854775808 ∧ ({ data := #[] : ByteArray }).size ≤ 900 from ⟨h0, h1, by decide⟩), br_true]
    show some [D.v (.string (txt (decDigits n.toNat) ++ txt []))] = _
    rw [txt_app, List.append_nil]
    rfl
  · cases h
def Fdig : List D → Option (Bool × List D)
  | [.v (.string s)] => some (true, [.v (i64 (dgN (by_ s))), .v (.bool (dgB (by_ s)))])
  | _ => none
theorem den_dig : Den Tryd.prog 31 Fdig := evF_den CD_ok fun ds rs h => by
  unfold Fdig at h
  split at h
  · rename_i s
    cases h
    refine (tdig s).trans ?_
    rw [size_by, getD_by]
    have hv := valR_eq (by_ s) 0
    generalize by_ s = l at hv ⊢
    have hh : l.getD 0 0 = l.headD 0 := by cases l <;> rfl
    rw [hh]
    unfold dgN dgB dgF
    have e1 : (((l.length : Nat) : Int) == 0) = decide (l.length = 0) := by rw [Bool.eq_iff_iff]; simp
    have e2 : decide (((l.length : Nat) : Int) > 19) = decide (19 < l.length) := by rw [Bool.eq_iff_iff]; simp only [decide_eq_true_eq]; omega
    have e3 : decide (((l.length : Nat) : Int) > 1) = decide (1 < l.length) := by rw [Bool.eq_iff_iff]; simp only [decide_eq_true_eq]; omega
    have e4 : ((((l.headD 0).toNat : Nat) : Int) == 48) = decide ((l.headD 0).toNat = 48) := by rw [Bool.eq_iff_iff]; simp only [beq_iff_eq, decide_eq_true_eq]; omega
    rw [e1, e2, e3, e4]
    by_cases c1 : l.length = 0
    · rw [decide_eq_true c1, br_true]; rfl
    · rw [decide_eq_false c1, br_false]
      by_cases c2 : 19 < l.length
      · rw [decide_eq_true c2, br_true]; rfl
      · rw [decide_eq_false c2, br_false, decide_eq_true (show l.length ≤ 1000 by omega), br_true]
        have tail : (br (valR l 0).2 (some [D.v (i64 (valR l 0).1), .v (.bool (decide ((valR l 0).1 ≤ 1000000000000000000)))]) (some [.v (i64 0), .v (.bool false)])) =
            some [D.v (i64 (match valL l 0 with | some n => n | none => 0)), .v (.bool (match valL l 0 with | some n => decide (n ≤ 1000000000000000000) | none => false))] := by
          rw [hv]
          cases (valR l 0).2 <;> rfl
        by_cases c3 : 1 < l.length
        · rw [decide_eq_true c3, br_true, show (decide (0 ≤ 0) && decide (0 < ((l.length : Nat) : Int))) = true by simp; omega, br_true]
          by_cases c4 : (l.headD 0).toNat = 48
          · rw [decide_eq_true c4, br_true]; rfl
          · rw [decide_eq_false c4, br_false]
            exact tail
        · rw [decide_eq_false c3, br_false]
          exact tail
  · cases h
def Fdg (dn : ByteArray → Int) (db : ByteArray → Bool) : List D → Option (Bool × List D)
  | [.v (.string s)] => some (true, [.v (i64 (dn s)), .v (.bool (db s))])
  | _ => none
def Fck (ce : Int → Int → Int) : List D → Option (Bool × List D)
  | [.agg [.v (.int .i64 n), .v (.int .i64 d)]] => some (iR n && iR d, [.v (i64 (ce n d))])
  | _ => none
def GPg (at_ : ByteArray → Nat) : List It → (X → St → Option (List D)) → Option (List D)
  | [.s s, .b b], k => br (decide (s.size ≤ 4611686018427387904)) (k (.exit 0) (SP s b (at_ s))) none
  | _, _ => none
def lPg (at_ : ByteArray → Nat) : LoopC := { lP with G := GPg at_ }
noncomputable def CPg (dn : ByteArray → Int) (db : ByteArray → Bool) (ce : Int → Int → Int) (at_ : ByteArray → Nat) : Cx := mkCx Tryd.prog fns [(31, Fdg dn db), (27, Fck ce)] [lPg at_]
noncomputable def CP : Cx := CPg (fun s => dgN (by_ s)) (fun s => dgB (by_ s)) chkE (fun s => (sp (by_ s)).1.length)
def pqE : Option (List D) := some [.agg [.v (i64 0), .v (i64 0)], .v (i64 12)]
def pqF (ce : Int → Int → Int) (num den : Int) : Option (List D) := br (iR num && iR den) (br (ce num den != 0) pqE (some [.agg [.v (i64 num), .v (i64 den)], .v (i64 0)])) none
def pqS (g : Bool) (ce : Int → Int → Int) (num den : Int) : Option (List D) := br g (br (num == 0) pqE (br g (pqF ce (IntKind.i64.wrap (0 - num)) den) (pqF ce num den))) (br g (pqF ce (IntKind.i64.wrap (0 - num)) den) (pqF ce num den))
def pqT (S : Int → Int → Option (List D)) (dn : ByteArray → Int) (db : ByteArray → Bool) (x : ByteArray) (A : Nat) : Option (List D) :=
  br (decide (x.size ≤ 4611686018427387904)) (br (decide (0 ≤ (A : Int)) && decide ((A : Int) ≤ (x.size : Int))) (br (decide ((A : Int) < (x.size : Int)))
    (br (decide (0 ≤ (x.size : Int)) && decide ((x.size : Int) ≤ (x.size : Int))) (br (decide (0 ≤ IntKind.i64.wrap ((A : Int) + 1)) && decide (IntKind.i64.wrap ((A : Int) + 1) ≤ (((x.size : Int).toNat : Nat) : Int)))
      (br (db (x.extract (IntKind.i64.wrap ((A : Int) + 1)).toNat (x.size : Int).toNat)) (br (!db (x.extract 0 (A : Int).toNat)) pqE (br (!decide (dn (x.extract (IntKind.i64.wrap ((A : Int) + 1)).toNat (x.size : Int).toNat) > 1)) pqE (S (dn (x.extract 0 (A : Int).toNat)) (dn (x.extract (IntKind.i64.wrap ((A : Int) + 1)).toNat (x.size : Int).toNat)))))
        (br (!db (x.extract 0 (A : Int).toNat)) pqE pqE)) none) none)
    (br (!db (x.extract 0 (A : Int).toNat)) pqE (S (dn (x.extract 0 (A : Int).toNat)) 1))) none) none
set_option maxRecDepth 100000 in
theorem tparr (dn : ByteArray → Int) (db : ByteArray → Bool) (ce : Int → Int → Int) (at_ : ByteArray → Nat) (s : ByteArray) : evF (CPg dn db ce at_) 6 11 [.v (.string s)] =
    br (decide ((s.size : Int) > 0)) (br (decide ((0 : Int) ≤ 0) && decide ((0 : Int) < (s.size : Int))) (br (((s.data.getD 0 0).toNat : Int) == 45)
      (br (decide (0 ≤ (s.size : Int)) && decide ((s.size : Int) ≤ (s.size : Int))) (br (decide ((0 : Int) ≤ 1) && decide ((1 : Int) ≤ (((s.size : Int).toNat : Nat) : Int))) (pqT (pqS (((s.data.getD 0 0).toNat : Int) == 45) ce) dn db (s.extract 1 (s.size : Int).toNat) (at_ (s.extract 1 (s.size : Int).toNat))) none) none)
      (pqT (pqS (((s.data.getD 0 0).toNat : Int) == 45) ce) dn db s (at_ s))) none) (pqT (pqF ce) dn db s (at_ s)) := by kernel_rfl
theorem roundP (p : Nat) (R : St → Option (List D)) (K : X → St → Option (List D)) (b : Bool) (i : Int) (s : ByteArray) : evCode CP 11 true (inl CP (p + 4)) (lbody CP.P 11 5) (SP s b i) (rnd [0, 2, 4, 5] (some [0, 2, 3, 4, 5]) R K) =
    br (decide (i < (s.size : Int))) (br (decide (0 ≤ i) && decide (i < (s.size : Int))) (br (((s.data.getD i.toNat 0).toNat : Int) != 47) (R (SP s b (IntKind.i64.wrap (i + 1)))) (K (.exit 0) (SP s b i))) none) (K (.exit 0) (SP s b i)) := by kernel_rfl
theorem go_par {f : St → (X → St → Option (List D)) → Option (List D)} {s : ByteArray} {b : Bool} (hs : s.size ≤ 4611686018427387904) (hr : ∀ i R K, f (SP s b i) (rnd [0, 2, 4, 5] (some [0, 2, 3, 4, 5]) R K) =
    br (decide (i < (s.size : Int))) (br (decide (0 ≤ i) && decide (i < (s.size : Int))) (br (((s.data.getD i.toNat 0).toNat : Int) != 47) (R (SP s b (IntKind.i64.wrap (i + 1)))) (K (.exit 0) (SP s b i))) none) (K (.exit 0) (SP s b i))) (K : X → St → Option (List D)) :
    ∀ (m i : Nat), i + m = (sp (by_ s)).1.length → ∀ F, m < F → rounds [0, 2, 4, 5] (some [0, 2, 3, 4, 5]) f F (SP s b i) K = K (.exit 0) (SP s b ((sp (by_ s)).1.length : Nat))
  | 0, i, hi, F, hF => by
    obtain ⟨F, rfl⟩ : ∃ F', F = F' + 1 := ⟨F - 1, by omega⟩
    obtain ⟨t1, t2, t3⟩ := sp_take (by_ s)
    rw [rnds1, hr]
    obtain rfl : i = (sp (by_ s)).1.length := by omega
    cases hq : (sp (by_ s)).2 with
    | none =>
      have := t2 hq
      rw [← size_by] at this
      rw [decide_eq_false (show ¬ (((sp (by_ s)).1.length : Nat) : Int) < (s.size : Int) by omega), br_false]
    | some y =>
      obtain ⟨a, _, c⟩ := t3 y hq
      rw [← size_by] at a
      rw [decide_eq_true (show (((sp (by_ s)).1.length : Nat) : Int) < (s.size : Int) by omega), br_true, decide_eq_true (show (0 : Int) ≤ (((sp (by_ s)).1.length : Nat) : Int) by omega), Bool.true_and, br_true, Int.toNat_natCast, getD_by, List.getD_eq_getElem?_getD, c]
      rfl
  | m + 1, i, hi, F, hF => by
    obtain ⟨F, rfl⟩ : ∃ F', F = F' + 1 := ⟨F - 1, by omega⟩
    obtain ⟨c, hc, hne⟩ := sp_ne (by_ s) i (by omega)
    have hlt : i < s.size := by rw [size_by]; exact (List.getElem?_eq_some_iff.1 hc).1
    have h47 : (((c.toNat : Nat) : Int) != 47) = true := bne_iff_ne.mpr fun e => hne (by
      have : c.toNat = 47 := by omega
      rw [← toNat_ofNat c, this]; rfl)
    rw [rnds1, hr, decide_eq_true (show (i : Int) < (s.size : Int) by omega), br_true, decide_eq_true (show (0 : Int) ≤ (i : Int) by omega), Bool.true_and, br_true, Int.toNat_natCast, getD_by, List.getD_eq_getElem?_getD, hc, Option.getD_some, h47, br_true,
      wrapI_id (n := (i : Int) + 1) (by omega) (by omega), show (i : Int) + 1 = ((i + 1 : Nat) : Int) by omega]
    exact go_par hs hr K m (i + 1) (by omega) F (by omega)
set_option maxRecDepth 100000 in
theorem loopP : LoopOk CP lP := ⟨by kernel_rfl, fun q its k rr h => by
  show rounds [0, 2, 4, 5] (some [0, 2, 3, 4, 5]) (evCode CP 11 true (inl CP (q + 4)) (lbody CP.P 11 5)) 18446744073709551616 (bst lP.p its) k = some rr
  change GP its k = some rr at h
  unfold GP at h
  split at h
  · rename_i s b
    rcases br_some h with ⟨h1, h2⟩ | ⟨_, h2⟩
    · have h1 := of_decide_eq_true h1
      rw [← h2]
      have hle : (sp (by_ s)).1.length ≤ s.size := by
        rw [size_by]
        obtain ⟨t1, t2, t3⟩ := sp_take (by_ s)
        cases hq : (sp (by_ s)).2 with
        | none => rw [t2 hq]; exact Nat.le_refl _
        | some y => exact Nat.le_of_lt (t3 y hq).1
      exact go_par h1 (fun i R K => roundP q R K b i s) k (sp (by_ s)).1.length 0 (by omega) _ (by omega)
    · cases h2
  · cases h⟩
theorem CP_ok : CxOk CP := mkCx_ok enter mixed (fun p h => by
  simp only [List.mem_cons, List.not_mem_nil, or_false] at h
  rcases h with rfl | rfl
  · exact den_dig
  · exact den_chkr) (fun l h => by
  simp only [List.mem_cons, List.not_mem_nil, or_false] at h
  rcases h with rfl
  exact loopP)
theorem by_take (x : ByteArray) (n : Nat) : by_ (x.extract 0 n) = (by_ x).take n := by
  unfold by_
  rw [extract_data]
  simp
theorem by_drop (x : ByteArray) (n : Nat) : by_ (x.extract n x.size) = (by_ x).drop n := by
  unfold by_
  rw [extract_data, List.take_of_length_le]
  rw [List.length_drop, size_by]
  exact Nat.le_refl _
def dnB (s : ByteArray) : Int := dgN (by_ s)
def dbB (s : ByteArray) : Bool := dgB (by_ s)
theorem pqT_eq (S : Int → Int → Option (List D)) (x : ByteArray) (hx : x.size ≤ 4611686018427387904) :
    pqT S dnB dbB x (sp (by_ x)).1.length = if dgB (sp (by_ x)).1 = true ∧ (match (sp (by_ x)).2 with | none => true | some b => dgB b && decide (dgN b > 1)) = true then S (dgN (sp (by_ x)).1) (match (sp (by_ x)).2 with | none => 1 | some b => dgN b) else pqE := by
  obtain ⟨t1, t2, t3⟩ := sp_take (by_ x)
  unfold pqT dnB dbB
  have hA : (sp (by_ x)).1.length ≤ x.size := by
    rw [size_by]
    cases hq : (sp (by_ x)).2 with
    | none => rw [t2 hq]; exact Nat.le_refl _
    | some y => exact Nat.le_of_lt (t3 y hq).1
  simp only [Int.toNat_natCast]
  rw [decide_eq_true hx, br_true, by_take, t1, show (decide (0 ≤ (((sp (by_ x)).1.length : Nat) : Int)) && decide ((((sp (by_ x)).1.length : Nat) : Int) ≤ (x.size : Int))) = true by simp only [Bool.and_eq_true, decide_eq_true_eq]; omega, br_true]
  cases hq : (sp (by_ x)).2 with
  | none =>
    have := t2 hq
    rw [← size_by] at this
    rw [decide_eq_false (show ¬ (((sp (by_ x)).1.length : Nat) : Int) < (x.size : Int) by omega), br_false]
    cases hb : dgB (sp (by_ x)).1
    · rw [if_neg (by simp)]; rfl
    · rw [if_pos ⟨rfl, rfl⟩]; rfl
  | some y =>
    obtain ⟨a, b, _⟩ := t3 y hq
    rw [← size_by] at a
    rw [decide_eq_true (show (((sp (by_ x)).1.length : Nat) : Int) < (x.size : Int) by omega), br_true, wrapI_id (by omega) (by omega), show (decide (0 ≤ (x.size : Int)) && decide ((x.size : Int) ≤ (x.size : Int))) = true by simp, br_true,
      show (decide (0 ≤ (((sp (by_ x)).1.length : Nat) : Int) + 1) && decide ((((sp (by_ x)).1.length : Nat) : Int) + 1 ≤ (x.size : Int))) = true by simp only [Bool.and_eq_true, decide_eq_true_eq]; omega, br_true,
      show ((((sp (by_ x)).1.length : Nat) : Int) + 1).toNat = (sp (by_ x)).1.length + 1 by omega]
    have hR : by_ (x.extract ((sp (by_ x)).1.length + 1) x.size) = y := by rw [by_drop, b]
    simp only [hR]
    cases hb : dgB (sp (by_ x)).1 <;> cases hb2 : dgB y
    · rw [if_neg (by simp)]; rfl
    · rw [if_neg (by simp)]; rfl
    · rw [if_neg (by simp)]; rfl
    · rw [br_true, show (!true) = false from rfl, br_false]
      by_cases c : dgN y > 1
      · rw [decide_eq_true c, show (!true) = false from rfl, br_false, if_pos ⟨rfl, rfl⟩]
      · rw [decide_eq_false c, show (!false) = true from rfl, br_true, if_neg (by simp)]
def Fps : List D → Option (Bool × List D)
  | [.v (.string s)] => some (decide (s.size ≤ 4000000000), [.agg [.v (i64 (rpN (by_ s))), .v (i64 (rpD (by_ s)))], .v (i64 (rpE (by_ s)))])
  | _ => none
theorem rp_or (l : List UInt8) : rpE l = 12 → rpN l = 0 ∧ rpD l = 0 := fun h => ⟨if_neg (by omega), if_neg (by omega)⟩
theorem dg_range (l : List UInt8) : dgB l = true → 0 ≤ dgN l ∧ dgN l ≤ 1000000000000000000 := fun h => ⟨(dg_spec h).1, (dg_spec h).2.1⟩
theorem pqF_eq {num den : Int} (h1 : -1000000000000000000 ≤ num ∧ num ≤ 1000000000000000000) (h2 : 0 ≤ den ∧ den ≤ 1000000000000000000) : pqF chkE num den = if chkE num den = 0 then some [.agg [.v (i64 num), .v (i64 den)], .v (i64 0)] else pqE := by
  unfold pqF
  rw [show (iR num && iR den) = true by rw [iR_iff.2 (by omega), iR_iff.2 (by omega)]; rfl, br_true]
  by_cases h : chkE num den = 0
  · rw [h, if_pos rfl]; rfl
  · rw [if_neg h, show (chkE num den != 0) = true by simpa using h, br_true]
theorem rp_fin {l : List UInt8} {r : Option (List D)} (h : r = if dgB (sp (rpL l)).1 = true ∧ rpI l = true then (if rpG l = true ∧ dgN (sp (rpL l)).1 = 0 then pqE else pqF chkE (rpV l) (rpM l)) else pqE) :
    r = some [.agg [.v (i64 (rpN l)), .v (i64 (rpD l))], .v (i64 (rpE l))] := by
  subst h
  have he : rpE l = 12 → pqE = some [.agg [.v (i64 (rpN l)), .v (i64 (rpD l))], .v (i64 (rpE l))] := fun h => by
    obtain ⟨a, b⟩ := rp_or l h
    rw [a, b, h]; rfl
  by_cases c1 : dgB (sp (rpL l)).1 = true ∧ rpI l = true
  · rw [if_pos c1]
    by_cases c2 : rpG l = true ∧ dgN (sp (rpL l)).1 = 0
    · rw [if_pos c2]
      exact he (if_neg fun ⟨_, _, h, _⟩ => h c2)
    · rw [if_neg c2]
      have r1 := dg_range _ c1.1
      have rV : -1000000000000000000 ≤ rpV l ∧ rpV l ≤ 1000000000000000000 := by unfold rpV; split <;> omega
      have rM : 0 ≤ rpM l ∧ rpM l ≤ 1000000000000000000 := by
        have h2 := c1.2
        unfold rpI at h2
        unfold rpM
        split
        · omega
        · rename_i b hb
          rw [hb] at h2
          simp only [Bool.and_eq_true] at h2
          exact dg_range _ h2.1
      rw [pqF_eq rV rM]
      by_cases c3 : chkE (rpV l) (rpM l) = 0
      · have hE : rpE l = 0 := if_pos ⟨c1.1, c1.2, c2, c3⟩
        rw [if_pos c3, hE, show rpN l = rpV l from if_pos hE, show rpD l = rpM l from if_pos hE]
      · rw [if_neg c3]
        exact he (if_neg fun ⟨_, _, _, h⟩ => c3 h)
  · rw [if_neg c1]
    exact he (if_neg fun ⟨h1, h2, _⟩ => c1 ⟨h1, h2⟩)
theorem den_parr : Den Tryd.prog 11 Fps := evF_den CP_ok fun ds rs h => by
  unfold Fps at h
  split at h
  · rename_i s
    simp only [Option.some.injEq, Prod.mk.injEq, decide_eq_true_eq] at h
    obtain ⟨h0, rfl⟩ := h
    refine (tparr (fun s => dgN (by_ s)) (fun s => dgB (by_ s)) chkE (fun s => (sp (by_ s)).1.length) s).trans (rp_fin ?_)
    have hn : ∀ g num den, 0 ≤ num → num ≤ 1000000000000000000 → pqS g chkE num den = if g = true ∧ num = 0 then pqE else pqF chkE (if g = true then -num else num) den := by
      intro g num den h1 h2
      unfold pqS
      rw [wrapI_id (by omega) (by omega)]
      cases g
      · rw [br_false, br_false, if_neg (by simp)]; rfl
      · rw [br_true, br_true]
        by_cases hz : num = 0
        · rw [hz, if_pos ⟨rfl, rfl⟩]; rfl
        · rw [show (num == 0) = false by simpa using hz, br_false, if_neg (by simp [hz]), if_pos rfl, Int.zero_sub]
    have hcase : ∀ (g : Bool) (x : ByteArray), x.size ≤ 4000000000 → g = rpG (by_ s) → by_ x = rpL (by_ s) → pqT (pqS g chkE) dnB dbB x (sp (by_ x)).1.length =
        if dgB (sp (rpL (by_ s))).1 = true ∧ rpI (by_ s) = true then (if rpG (by_ s) = true ∧ dgN (sp (rpL (by_ s))).1 = 0 then pqE else pqF chkE (rpV (by_ s)) (rpM (by_ s))) else pqE := by
      intro g x hx hg hl
      rw [pqT_eq _ x (by omega), hl]
      change (if dgB (sp (rpL (by_ s))).1 = true ∧ rpI (by_ s) = true then pqS g chkE (dgN (sp (rpL (by_ s))).1) (rpM (by_ s)) else pqE) = _
      by_cases c : dgB (sp (rpL (by_ s))).1 = true ∧ rpI (by_ s) = true
      · have r1 := dg_range _ c.1
        rw [if_pos c, if_pos c, hn g _ _ r1.1 r1.2, hg]
        rfl
      · rw [if_neg c, if_neg c]
    by_cases hs : (s.size : Int) > 0
    · rw [decide_eq_true hs, br_true, show (decide ((0 : Int) ≤ 0) && true) = true from rfl, br_true]
      have hne : by_ s ≠ [] := fun h => by rw [size_by, h] at hs; simp at hs
      have hh : (by_ s).getD 0 0 = (by_ s).headD 0 := by cases by_ s <;> rfl
      have hg : (((s.data.getD 0 0).toNat : Int) == 45) = rpG (by_ s) := by
        unfold rpG
        rw [getD_by, hh, decide_eq_true hne, Bool.true_and, Bool.eq_iff_iff]
        simp only [beq_iff_eq, decide_eq_true_eq]
        omega
      by_cases c : rpG (by_ s) = true
      · rw [hg, c, br_true, show (decide (0 ≤ (s.size : Int)) && decide ((s.size : Int) ≤ (s.size : Int))) = true by simp, br_true, show (decide ((0 : Int) ≤ 1) && decide ((1 : Int) ≤ (((s.size : Int).toNat : Nat) : Int))) = true by simp; omega, br_true, Int.toNat_natCast]
        have hl : by_ (s.extract 1 s.size) = rpL (by_ s) := by
          rw [by_drop]
          unfold rpL
          rw [if_pos c, List.drop_one]
        have hsz : (s.extract 1 s.size).size ≤ 4000000000 := by
          rw [size_by, hl]
          unfold rpL
          rw [if_pos c, List.length_tail, ← size_by]
          omega
        have hk := hcase true (s.extract 1 s.size) hsz c.symm hl
        rw [c] at hk
        exact hk
      · have c' : rpG (by_ s) = false := by simpa using c
        rw [hg, c', br_false]
        have hk := hcase false s h0 c'.symm (by unfold rpL; rw [if_neg c])
        rw [c'] at hk
        exact hk
    · rw [decide_eq_false hs, br_false]
      have he : by_ s = [] := List.length_eq_zero_iff.1 (by rw [← size_by]; omega)
      show pqT (pqF chkE) dnB dbB s (sp (by_ s)).1.length = _
      rw [pqT_eq _ s (by omega), he]
      rfl
  · cases h
def Fdc (dd : Int → ByteArray) : List D → Option (Bool × List D)
  | [.v (.int .i64 n)] => some (decide (0 ≤ n) && decide (n < 9223372036854775808), [.v (.string (dd n))])
  | _ => none
def Ffm (ft : Int → ByteArray) : List D → Option (Bool × List D)
  | [.v (.int .i64 n), .v (.int .i64 b)] => some (iR n && decide (b = 10), [.v (.string (ft n))])
  | _ => none
noncomputable def CTg (dd ft : Int → ByteArray) (ce : Int → Int → Int) : Cx := mkCx Tryd.prog fns [(28, Fdc dd), (27, Fck ce), (25, Fck ce), (26, Ffm ft)] []
theorem ttextr (dd ft : Int → ByteArray) (ce : Int → Int → Int) (n d : Int) : evF (CTg dd ft ce) 6 9 [.agg [.v (i64 n), .v (i64 d)]] =
    br (iR n && iR d) (br (ce n d != 0) (br (iR n && iR d) (some [.v (.string ({ data := { toList := [] : Array UInt8 } : ByteArray })), .v (i64 (ce n d))]) (none)) (br (decide (n < 0)) (br (decide (0 ≤ IntKind.i64.wrap (0 - n)) && decide (IntKind.i64.wrap (0 - n) < 9223372036854775808)) (br (decide ((↑({ data := #[45] : ByteArray }.size + (dd (IntKind.i64.wrap (0 - n))).size) : Int) > IntKind.i64.max)) (none) (br (decide (d > 1)) (br (decide (0 ≤ d) && decide (d < 9223372036854775808)) (br (decide ((↑({ data := #[47] : ByteArray }.size + (dd d).size) : Int) > IntKind.i64.max)) (none) (br (decide ((↑(({ data := #[45] : ByteArray } ++ dd (IntKind.i64.wrap (0 - n))).size + ({ data := #[47] : ByteArray } ++ dd d).size) : Int) > IntKind.i64.max)) (none) (some [.v (.string ({ data := { toList := [45] : Array UInt8 } : ByteArray } ++ dd (IntKind.i64.wrap (0 - n)) ++ ({ data := { toList := [47] : Array UInt8 } : ByteArray } ++ dd d))), .v (i64 (0))]))) (none)) (some [.v (.string ({ data := { toList := [45] : Array UInt8 } : ByteArray } ++ dd (IntKind.i64.wrap (0 - n)))), .v (i64 (0))]))) (none)) (br (decide (0 ≤ n) && decide (n < 9223372036854775808)) (br (decide ((↑({ data := #[] : ByteArray }.size + (dd n).size) : Int) > IntKind.i64.max)) (none) (br (decide (d > 1)) (br (decide (0 ≤ d) && decide (d < 9223372036854775808)) (br (decide ((↑({ data := #[47] : ByteArray }.size + (dd d).size) : Int) > IntKind.i64.max)) (none) (br (decide ((↑(({ data := #[] : ByteArray } ++ dd n).size + ({ data := #[47] : ByteArray } ++ dd d).size) : Int) > IntKind.i64.max)) (none) (some [.v (.string ({ data := { toList := [] : Array UInt8 } : ByteArray } ++ dd n ++ ({ data := { toList := [47] : Array UInt8 } : ByteArray } ++ dd d))), .v (i64 (0))]))) (none)) (some [.v (.string ({ data := { toList := [] : Array UInt8 } : ByteArray } ++ dd n)), .v (i64 (0))]))) (none)))) (none) := by kernel_rfl
theorem ttext (dd ft : Int → ByteArray) (ce : Int → Int → Int) (n d : Int) : evF (CTg dd ft ce) 6 8 [.agg [.v (i64 n), .v (i64 d)]] =
    br (iR n && iR d) (br (ce n d != 0) (some [.v (.string ({ data := { toList := [] : Array UInt8 } : ByteArray })), .v (i64 (ce n d))]) (br (iR n && decide (10 = 10)) (br (decide (d > 1)) (br (iR d && decide (10 = 10)) (br (decide ((↑({ data := #[47] : ByteArray }.size + (ft d).size) : Int) > IntKind.i64.max)) (none) (br (decide ((↑((ft n).size + ({ data := #[47] : ByteArray } ++ ft d).size) : Int) > IntKind.i64.max)) (none) (some [.v (.string (ft n ++ ({ data := { toList := [47] : Array UInt8 } : ByteArray } ++ ft d))), .v (i64 (0))]))) (none)) (some [.v (.string (ft n)), .v (i64 (0))])) (none))) (none) := by kernel_rfl
end Go.Proofs.YtofkkhdmjllcfaaDoor

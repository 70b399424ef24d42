/- Plain laws on ratios' texts: what both readers accept is what Text writes. No conditions. -/
import Derived.Test.YtofkkhdmjllcfaaDoorL1
import Derived.Test.YtofkkhdmjllcfaaDoorQ6
namespace Go.Proofs.YtofkkhdmjllcfaaDoor
open Go.Lib Go.Dec
set_option linter.all false
/-- Before the first '/', and behind it. -/
def sp : List UInt8 → List UInt8 × Option (List UInt8)
  | [] => ([], none)
  | c :: r => if c = 47 then ([], some r) else (c :: (sp r).1, (sp r).2)
theorem sp_spec : ∀ l : List UInt8, l = (sp l).1 ++ (match (sp l).2 with | none => [] | some r => 47 :: r)
  | [] => rfl
  | c :: r => by
    unfold sp
    by_cases h : c = 47
    · rw [if_pos h, h]; rfl
    · rw [if_neg h]
      have := sp_spec r
      show c :: r = c :: ((sp r).1 ++ _)
      rw [← this]
theorem sp_app : ∀ (x y : List UInt8), (∀ c ∈ x, c ≠ 47) → sp (x ++ 47 :: y) = (x, some y)
  | [], y, _ => by simp [sp]
  | c :: x, y, h => by
    show sp (c :: (x ++ 47 :: y)) = _
    unfold sp
    rw [if_neg (h c (by simp)), sp_app x y fun d hd => h d (by simp [hd])]
theorem sp_none : ∀ (x : List UInt8), (∀ c ∈ x, c ≠ 47) → sp x = (x, none)
  | [], _ => rfl
  | c :: x, h => by
    unfold sp
    rw [if_neg (h c (by simp)), sp_none x fun d hd => h d (by simp [hd])]
theorem index_sp : ∀ l : List UInt8, index l [47] = match (sp l).2 with | none => -1 | some _ => ((sp l).1.length : Int)
  | [] => rfl
  | c :: r => by
    unfold index sp
    by_cases h : c = 47
    · subst h
      rfl
    · have hp : [(47 : UInt8)].isPrefixOf (c :: r) = false := by
        simp only [List.isPrefixOf, Bool.and_eq_false_iff]
        left
        exact beq_eq_false_iff_ne.2 fun e => h e.symm
      rw [if_neg (by rw [hp]; decide), if_neg h, index_sp r]
      show (if _ then _ else _) = match (sp r).2 with | none => (-1 : Int) | some _ => ((c :: (sp r).1).length : Int)
      cases (sp r).2 with
      | none => rfl
      | some y =>
        simp only [List.length_cons]
        rw [if_neg (by simp)]
        omega
theorem sp_take : ∀ l : List UInt8, l.take (sp l).1.length = (sp l).1 ∧ ((sp l).2 = none → (sp l).1.length = l.length) ∧ ∀ r, (sp l).2 = some r → (sp l).1.length < l.length ∧ l.drop ((sp l).1.length + 1) = r ∧ l[(sp l).1.length]? = some 47
  | [] => ⟨rfl, fun _ => rfl, fun r h => by cases h⟩
  | c :: r => by
    unfold sp
    by_cases h : c = 47
    · rw [if_pos h]
      exact ⟨rfl, (fun h => by cases h), fun y hy => by cases hy; exact ⟨by simp, by simp, by simp [h]⟩⟩
    · rw [if_neg h]
      obtain ⟨h1, h2, h3⟩ := sp_take r
      refine ⟨by simp [h1], fun hn => by simp [h2 hn], fun y hy => ?_⟩
      obtain ⟨a, b, d⟩ := h3 y hy
      exact ⟨by simp; omega, by simpa using b, by simpa using d⟩
theorem sp_ne : ∀ (l : List UInt8) (i : Nat), i < (sp l).1.length → ∃ c, l[i]? = some c ∧ c ≠ 47
  | [], i, h => by simp [sp] at h
  | c :: r, i, h => by
    unfold sp at h
    by_cases hc : c = 47
    · rw [if_pos hc] at h; simp at h
    · rw [if_neg hc] at h
      cases i with
      | zero => exact ⟨c, rfl, hc⟩
      | succ i =>
        obtain ⟨d, h1, h2⟩ := sp_ne r i (by simpa using h)
        exact ⟨d, by simpa using h1, h2⟩
theorem cut_sp (l : List UInt8) : cut l [47] = ((sp l).1, (sp l).2.getD [], (sp l).2.isSome) := by
  unfold cut
  rw [index_sp]
  obtain ⟨h1, h2, h3⟩ := sp_take l
  cases hs : (sp l).2 with
  | none =>
    simp only [hs]
    rw [if_neg (by omega)]
    have := sp_spec l
    rw [hs] at this
    simp only [List.append_nil] at this
    rw [← this]
    rfl
  | some y =>
    obtain ⟨a, b, _⟩ := h3 y hs
    simp only [hs]
    rw [if_pos (by omega), Int.toNat_natCast, h1]
    simp only [List.length_cons, List.length_nil, Nat.zero_add, b]
    rfl
/-- What Text writes. -/
def txL (n d : Int) : List UInt8 := if chkE n d = 0 then (if d > 1 then itoa n ++ 47 :: itoa d else itoa n) else []
/-- The reference's reader. -/
def rpG (l : List UInt8) : Bool := decide (l ≠ []) && decide ((l.headD 0).toNat = 45)
def rpL (l : List UInt8) : List UInt8 := if rpG l = true then l.tail else l
def rpM (l : List UInt8) : Int := match (sp (rpL l)).2 with | none => 1 | some b => dgN b
def rpI (l : List UInt8) : Bool := match (sp (rpL l)).2 with | none => true | some b => dgB b && decide (dgN b > 1)
def rpV (l : List UInt8) : Int := if rpG l = true then -dgN (sp (rpL l)).1 else dgN (sp (rpL l)).1
def rpE (l : List UInt8) : Int := if dgB (sp (rpL l)).1 = true ∧ rpI l = true ∧ ¬ (rpG l = true ∧ dgN (sp (rpL l)).1 = 0) ∧ chkE (rpV l) (rpM l) = 0 then 0 else 12
def rpN (l : List UInt8) : Int := if rpE l = 0 then rpV l else 0
def rpD (l : List UInt8) : Int := if rpE l = 0 then rpM l else 0
theorem chk_of_good {n d : Int} (h : goodR n d) : chkE n d = 0 := if_pos h
theorem digit_ne {c : UInt8} (h : 48 ≤ c.toNat ∧ c.toNat ≤ 57) : c ≠ 47 ∧ c.toNat ≠ 45 := ⟨fun e => by subst e; revert h; decide, by omega⟩
theorem rp_sound {l : List UInt8} (h : rpE l = 0) : goodR (rpN l) (rpD l) ∧ txL (rpN l) (rpD l) = l := by
  have e1 : rpN l = rpV l := if_pos h
  have e2 : rpD l = rpM l := if_pos h
  unfold rpE at h
  split at h
  · rename_i hc
    obtain ⟨h1, h2, h3, h4⟩ := hc
    rw [e1, e2]
    refine ⟨chk_good h4, ?_⟩
    obtain ⟨d1, d2, d3⟩ := dg_spec h1
    have hnum : itoa (rpV l) = (if rpG l = true then [45] else []) ++ (sp (rpL l)).1 := by
      unfold rpV
      by_cases hg : rpG l = true
      · rw [if_pos hg, if_pos hg]
        obtain ⟨u, hu⟩ : ∃ u : Nat, dgN (sp (rpL l)).1 = (u : Int) := ⟨_, (Int.toNat_of_nonneg d1).symm⟩
        have h0 : dgN (sp (rpL l)).1 ≠ 0 := fun h0 => h3 ⟨hg, h0⟩
        rw [hu] at d3 h0 ⊢
        rw [itoa_neg u (by omega)]
        rw [Int.toNat_natCast] at d3
        rw [d3]
        rfl
      · rw [if_neg hg, if_neg hg]
        obtain ⟨u, hu⟩ : ∃ u : Nat, dgN (sp (rpL l)).1 = (u : Int) := ⟨_, (Int.toNat_of_nonneg d1).symm⟩
        rw [hu] at d3 ⊢
        rw [itoa_nonneg]
        rw [Int.toNat_natCast] at d3
        rw [d3]
        rfl
    have hl : l = (if rpG l = true then [45] else []) ++ rpL l := by
      unfold rpL
      by_cases hg : rpG l = true
      · rw [if_pos hg, if_pos hg]
        unfold rpG at hg
        simp only [Bool.and_eq_true, decide_eq_true_eq] at hg
        cases l with
        | nil => exact absurd rfl hg.1
        | cons c r =>
          have : c = 45 := by
            have h5 : c.toNat = 45 := hg.2
            rw [← toNat_ofNat c, h5]
            rfl
          rw [this]
          rfl
      · rw [if_neg hg, if_neg hg]; rfl
    unfold txL
    rw [if_pos h4, hnum]
    have hsp := sp_spec (rpL l)
    cases hs : (sp (rpL l)).2 with
    | none =>
      rw [hs] at hsp
      have hm : rpM l = 1 := by unfold rpM; rw [hs]
      rw [hm, if_neg (by omega)]
      simp only [List.append_nil] at hsp
      rw [← hsp]
      exact hl.symm
    | some b =>
      rw [hs] at hsp
      have hm : rpM l = dgN b := by unfold rpM; rw [hs]
      unfold rpI at h2
      rw [hs] at h2
      simp only [Bool.and_eq_true, decide_eq_true_eq] at h2
      obtain ⟨b1, b2, b3⟩ := dg_spec h2.1
      obtain ⟨u, hu⟩ : ∃ u : Nat, dgN b = (u : Int) := ⟨_, (Int.toNat_of_nonneg b1).symm⟩
      rw [hm, if_pos h2.2, hu, itoa_nonneg]
      rw [hu, Int.toNat_natCast] at b3
      rw [b3, List.append_assoc, ← hsp]
      exact hl.symm
  · cases h
theorem itoa_ne47 (n : Int) : ∀ c ∈ itoa n, c ≠ 47 := by
  intro c hc
  unfold itoa at hc
  split at hc
  · rcases List.mem_cons.1 hc with rfl | hc
    · decide
    · exact (digit_ne (dec_digit _ _ (Nat.le_refl _) c hc)).1
  · exact (digit_ne (dec_digit _ _ (Nat.le_refl _) c hc)).1
theorem rp_num {n : Int} (hn : -1000000000000000000 ≤ n ∧ n ≤ 1000000000000000000) (rest : List UInt8) (hr : rest = [] ∨ ∃ r, rest = 47 :: r) :
    rpG (itoa n ++ rest) = decide (n < 0) ∧ rpL (itoa n ++ rest) = decDigits n.natAbs ++ rest := by
  unfold rpL
  by_cases h : n < 0
  · obtain ⟨u, rfl⟩ : ∃ u : Nat, n = -(u : Int) := ⟨n.natAbs, by omega⟩
    have hg : rpG (itoa (-(u : Int)) ++ rest) = true := by
      rw [itoa_neg u (by omega)]
      rfl
    rw [hg, decide_eq_true h, if_pos rfl, itoa_neg u (by omega)]
    exact ⟨rfl, by simp⟩
  · obtain ⟨u, rfl⟩ : ∃ u : Nat, n = (u : Int) := ⟨n.toNat, by omega⟩
    have hg : rpG (itoa (u : Int) ++ rest) = false := by
      rw [itoa_nonneg u]
      cases hd : decDigits u with
      | nil => exact absurd hd (dec_ne u)
      | cons c r =>
        have := (digit_ne (dec_digit u u (Nat.le_refl _) c (by rw [hd]; simp))).2
        unfold rpG
        simp [this]
    rw [hg, decide_eq_false h, if_neg (by decide), itoa_nonneg u]
    exact ⟨rfl, by simp⟩
theorem rp_complete {n d : Int} (h : goodR n d) : rpE (txL n d) = 0 ∧ rpN (txL n d) = n ∧ rpD (txL n d) = d := by
  obtain ⟨g1, g2, g3⟩ := id h
  obtain ⟨k1, k2⟩ := dg_dec n.natAbs (by omega)
  have hdig : ∀ c ∈ decDigits n.natAbs, c ≠ 47 := fun c hc => (digit_ne (dec_digit _ _ (Nat.le_refl _) c hc)).1
  have key : ∀ l, l = txL n d → rpG l = decide (n < 0) → (sp (rpL l)).1 = decDigits n.natAbs → rpM l = d → rpI l = true → rpE l = 0 ∧ rpN l = n ∧ rpD l = d := by
    intro l _ e1 e2 e3 e4
    have hv : rpV l = n := by
      unfold rpV
      rw [e1, e2, k2]
      by_cases hn : n < 0
      · rw [decide_eq_true hn, if_pos rfl]; omega
      · rw [decide_eq_false hn, if_neg (by decide)]; omega
    have hE : rpE l = 0 := by
      unfold rpE
      rw [if_pos]
      rw [e2, e1, hv, e3]
      exact ⟨k1, e4, fun ⟨h1, h2⟩ => by
        have h1 := of_decide_eq_true h1
        rw [k2] at h2
        omega, chk_of_good h⟩
    exact ⟨hE, (if_pos hE).trans hv, (if_pos hE).trans e3⟩
  have ht : txL n d = (if d > 1 then itoa n ++ 47 :: itoa d else itoa n) := if_pos (chk_of_good h)
  by_cases hd : d > 1
  · rw [if_pos hd] at ht
    obtain ⟨r1, r2⟩ := rp_num g2 (47 :: itoa d) (.inr ⟨_, rfl⟩)
    rw [← ht] at r1 r2
    have hs : sp (rpL (txL n d)) = (decDigits n.natAbs, some (itoa d)) := by rw [r2]; exact sp_app _ _ hdig
    obtain ⟨u, rfl⟩ : ∃ u : Nat, d = (u : Int) := ⟨d.toNat, by omega⟩
    obtain ⟨m1, m2⟩ := dg_dec u (by omega)
    rw [itoa_nonneg] at hs
    refine key _ rfl r1 (by rw [hs]) ?_ ?_
    · unfold rpM; rw [hs]; exact m2
    · unfold rpI; rw [hs]
      show (dgB (decDigits u) && decide (dgN (decDigits u) > 1)) = true
      rw [m1, m2, decide_eq_true hd]; rfl
  · rw [if_neg hd] at ht
    obtain ⟨r1, r2⟩ := rp_num g2 [] (.inl rfl)
    rw [List.append_nil, ← ht] at r1
    rw [List.append_nil, List.append_nil, ← ht] at r2
    have hs : sp (rpL (txL n d)) = (decDigits n.natAbs, none) := by rw [r2]; exact sp_none _ hdig
    refine key _ rfl r1 (by rw [hs]) ?_ ?_
    · unfold rpM; rw [hs]
      show (1 : Int) = d
      omega
    · unfold rpI; rw [hs]
/-- The package's reader. -/
def ppD (l : List UInt8) : Int := if (sp l).2.getD [] = [] then 1 else piN ((sp l).2.getD [])
def ppE (l : List UInt8) : Int := if piE (sp l).1 = false ∧ ((sp l).2.getD [] = [] ∨ piE ((sp l).2.getD []) = false) ∧ chkE (piN (sp l).1) (ppD l) = 0 ∧ txL (piN (sp l).1) (ppD l) = l then 0 else 12
theorem pi_itoa {n : Int} (hn : -1000000000000000000 ≤ n ∧ n ≤ 1000000000000000000) : piE (itoa n) = false ∧ piN (itoa n) = n := by
  have h := parseInt_itoa n (by omega) (by omega)
  unfold piE piN
  rw [h]
  exact ⟨rfl, rfl⟩
theorem itoa_ne (n : Int) : itoa n ≠ [] := by
  unfold itoa
  split
  · simp
  · exact dec_ne _
theorem pp_complete {n d : Int} (h : goodR n d) : ppE (txL n d) = 0 ∧ piN (sp (txL n d)).1 = n ∧ ppD (txL n d) = d := by
  obtain ⟨g1, g2, g3⟩ := id h
  have ht : txL n d = (if d > 1 then itoa n ++ 47 :: itoa d else itoa n) := if_pos (chk_of_good h)
  obtain ⟨a1, a2⟩ := pi_itoa g2
  obtain ⟨b1, b2⟩ := pi_itoa (n := d) (by omega)
  have hs : sp (txL n d) = (itoa n, if d > 1 then some (itoa d) else none) := by
    rw [ht]
    by_cases hd : d > 1
    · rw [if_pos hd, if_pos hd]; exact sp_app _ _ (itoa_ne47 n)
    · rw [if_neg hd, if_neg hd]; exact sp_none _ (itoa_ne47 n)
  have hD : ppD (txL n d) = d := by
    unfold ppD
    rw [hs]
    by_cases hd : d > 1
    · rw [if_pos hd, if_neg (show ¬ (some (itoa d)).getD [] = [] from itoa_ne d)]; exact b2
    · rw [if_neg hd, if_pos (show (none : Option (List UInt8)).getD [] = [] from rfl)]; omega
  have hN : piN (sp (txL n d)).1 = n := by rw [hs]; exact a2
  refine ⟨?_, hN, hD⟩
  unfold ppE
  rw [if_pos]
  rw [hD, hN]
  refine ⟨by rw [hs]; exact a1, ?_, chk_of_good h, rfl⟩
  rw [hs]
  by_cases hd : d > 1
  · rw [if_pos hd]; exact .inr b1
  · rw [if_neg hd]; exact .inl rfl
theorem rpE_or (l : List UInt8) : rpE l = 0 ∨ rpE l = 12 := by
  unfold rpE
  split
  · exact .inl rfl
  · exact .inr rfl
theorem pp_rp (l : List UInt8) : ppE l = rpE l ∧ (ppE l = 0 → piN (sp l).1 = rpN l ∧ ppD l = rpD l) := by
  by_cases hp : ppE l = 0
  · have hc : piE (sp l).1 = false ∧ ((sp l).2.getD [] = [] ∨ piE ((sp l).2.getD []) = false) ∧ chkE (piN (sp l).1) (ppD l) = 0 ∧ txL (piN (sp l).1) (ppD l) = l := by
      unfold ppE at hp
      split at hp
      · assumption
      · cases hp
    obtain ⟨r1, r2, r3⟩ := rp_complete (chk_good hc.2.2.1)
    rw [hc.2.2.2] at r1 r2 r3
    exact ⟨hp.trans r1.symm, fun _ => ⟨r2.symm, r3.symm⟩⟩
  · refine ⟨?_, fun h => absurd h hp⟩
    rcases rpE_or l with hr | hr
    · obtain ⟨g, ht⟩ := rp_sound hr
      obtain ⟨p1, _, _⟩ := pp_complete g
      rw [ht] at p1
      exact absurd p1 hp
    · rw [hr]
      unfold ppE at hp ⊢
      split
      · rename_i h; rw [if_pos h] at hp; exact absurd rfl hp
      · rfl
end Go.Proofs.YtofkkhdmjllcfaaDoor

/- ScriptRenames: the loops. No conditions. -/
import Derived.Test.YtopdfmhlgkbaaaaDoorT34
namespace Go.Proofs.YtopdfmhlgkbaaaaDoor
open Go.Ev Go.RowKit Go.Lib Go.Dec
set_option linter.all false
noncomputable abbrev CNi : Cx := CN (fun l => decide (l.n ≤ big)) greB (fun l t => (decide (l.n > 200) || okL l) && decide (t.size ≤ 1000000)) (fun l s t => bif reE l s t == 0 then rsR l s t else .nil) reE (fun l _ => bgL l) saLB tcB naE
theorem gdC_iff {l a : Row} {i : Nat} : gdC l a i = true ↔ a.I i 0 = l.I i 0 ∧ (a.R i 1).n = (l.R i 1).n ∧ (a.R i 2).n = (l.R i 2).n ∧ (l.R i 1).n ≤ 1000000 ∧ (l.R i 2).n ≤ 1000000 := by unfold gdC; rw [decide_eq_true_eq]
theorem gdL_iff {s t : ByteArray} {l a : Row} {i : Nat} : gdL s t l a i = true ↔ (a.I i 0 = l.I i 0 ∧ (a.R i 1).n = (l.R i 1).n ∧ (a.R i 2).n = (l.R i 2).n ∧ (l.R i 1).n ≤ 1000000 ∧ (l.R i 2).n ≤ 1000000) ∧ (∀ k, k < (l.R i 1).n → gdN s t ((l.R i 1).S k 0) ((a.R i 1).S k 0) = true) ∧ ∀ k, k < (l.R i 2).n → (a.R i 2).I k 0 = (l.R i 2).I k 0 := by
  unfold gdL gdA gdB
  simp only [Bool.and_eq_true, gdC_iff, Bool.not_eq_true', anyF_false, Nat.zero_add, Nat.zero_le, forall_const, Bool.not_eq_false', bne_eq_false_iff_eq]
theorem c7a_iff {x : A7} : c7a x = true ↔ (0 ≤ x.i ∧ x.i < x.n ∧ x.i < x.m ∧ x.k = 0) ∧ gdL x.s x.t x.l x.a x.i.toNat = true := by unfold c7a; rw [Bool.and_eq_true, decide_eq_true_eq]
theorem c7_iff {x : A7} : c7 x = true ↔ (x.i = 0 ∧ x.m = x.n ∧ x.n ≤ 1000000) ∧ ∀ i, i < x.n → gdL x.s x.t x.l x.a i = true := by
  unfold c7
  simp only [Bool.and_eq_true, decide_eq_true_eq, Bool.not_eq_true', anyF_false, Nat.zero_add, Nat.zero_le, forall_const, Bool.not_eq_false']
theorem gdZ {i : Int} {n : Nat} (h0 : 0 ≤ i) (h1 : i < n) : (decide (0 ≤ i) && decide (i < (n : Int))) = true := by rw [decide_eq_true h0, decide_eq_true h1]; rfl
set_option maxRecDepth 100000 in
theorem ok7a : LoopOk CNi l7a.C := l7a.ok (fun x i a => True) (by kernel_rfl)
  (fun its x h hc => by
    replace h : d7a its = some x := h
    unfold d7a at h
    split at h
    · cases h
      obtain ⟨⟨_, _, _, h3⟩, _⟩ := c7a_iff.1 hc
      dsimp only at h3
      subst h3
      rfl
    · cases h)
  (fun x hc => by have := (gdL_iff.1 (c7a_iff.1 hc).2).1.2.2.2.1; show (x.l.R x.i.toNat 1).n < 18446744073709551616; omega)
  (fun x hc => trivial) (fun x i o hc hi hI => trivial)
  (fun q ⟨n, s, t, b, m, i, k0, l, a⟩ k _ hc hk hI R K => by
    obtain ⟨⟨h0, h1, h2, h3⟩, h4⟩ := c7a_iff.1 hc
    dsimp only at h0 h1 h2 h3 h4
    obtain ⟨⟨e1, e2, e3, e4, e5⟩, e6, e7⟩ := gdL_iff.1 h4
    replace hk : k < (l.R i.toNat 1).n := hk
    have hg := e6 k hk
    refine (r7a _ _ _ _ _ _ _ _ _ R K q n m b s t i k l a).trans ?_
    rw [Int.toNat_natCast, Nat.zero_add i.toNat, Nat.zero_add k, gdZ h0 h1, gdZ h0 h2, e2, gd k _ hk, ltd k _ hk, wsn (by omega)]
    unfold gdN eqS at hg
    show _ = R (Go.Ev.bst q7a (l7a.S ⟨n, s, t, b, m, i, k0, l, a⟩ (k + 1) ()))
    cases hx : (((l.R i.toNat 1).S k 0).toList == s.toList)
    · rw [hx] at hg
      have hg : (((a.R i.toNat 1).S k 0).toList == ((l.R i.toNat 1).S k 0).toList) = true := hg
      rw [hg]
      rfl
    · rw [hx] at hg
      have hg : (((a.R i.toNat 1).S k 0).toList == t.toList) = true := hg
      rw [hg]
      rfl)
  (fun q ⟨n, s, t, b, m, i, k0, l, a⟩ _ hc hI R K => by
    obtain ⟨⟨h0, h1, h2, h3⟩, h4⟩ := c7a_iff.1 hc
    dsimp only at h0 h1 h2 h3 h4
    obtain ⟨⟨e1, e2, e3, e4, e5⟩, e6, e7⟩ := gdL_iff.1 h4
    refine (r7a _ _ _ _ _ _ _ _ _ R K q n m b s t i (l.R i.toNat 1).n l a).trans ?_
    rw [Nat.zero_add i.toNat, gdZ h0 h1, gdZ h0 h2, e2, ltn]
    rfl)
set_option maxRecDepth 100000 in
theorem ok7b : LoopOk CNi l7b.C := l7b.ok (fun x i a => True) (by kernel_rfl)
  (fun its x h hc => by
    replace h : d7a its = some x := h
    unfold d7a at h
    split at h
    · cases h
      obtain ⟨⟨_, _, _, h3⟩, _⟩ := c7a_iff.1 hc
      dsimp only at h3
      subst h3
      rfl
    · cases h)
  (fun x hc => by have := (gdL_iff.1 (c7a_iff.1 hc).2).1.2.2.2.2; show (x.l.R x.i.toNat 2).n < 18446744073709551616; omega)
  (fun x hc => trivial) (fun x i o hc hi hI => trivial)
  (fun q ⟨n, s, t, b, m, i, k0, l, a⟩ k _ hc hk hI R K => by
    obtain ⟨⟨h0, h1, h2, h3⟩, h4⟩ := c7a_iff.1 hc
    dsimp only at h0 h1 h2 h3 h4
    obtain ⟨⟨e1, e2, e3, e4, e5⟩, e6, e7⟩ := gdL_iff.1 h4
    replace hk : k < (l.R i.toNat 2).n := hk
    have hg := e7 k hk
    refine (r7b _ _ _ _ _ _ _ _ _ R K q n m b s t i k l a).trans ?_
    rw [Int.toNat_natCast, Nat.zero_add i.toNat, Nat.zero_add k, gdZ h0 h1, gdZ h0 h2, e3, gd k _ hk, ltd k _ hk, wsn (by omega), hg, bne_self_eq_false]
    rfl)
  (fun q ⟨n, s, t, b, m, i, k0, l, a⟩ _ hc hI R K => by
    obtain ⟨⟨h0, h1, h2, h3⟩, h4⟩ := c7a_iff.1 hc
    dsimp only at h0 h1 h2 h3 h4
    obtain ⟨⟨e1, e2, e3, e4, e5⟩, e6, e7⟩ := gdL_iff.1 h4
    refine (r7b _ _ _ _ _ _ _ _ _ R K q n m b s t i (l.R i.toNat 2).n l a).trans ?_
    rw [Nat.zero_add i.toNat, gdZ h0 h2, e3, ltn]
    rfl)
set_option maxRecDepth 100000 in
theorem ok7 : LoopOk CNi l7.C := l7.ok (fun x i a => True) (by kernel_rfl)
  (fun its x h hc => by
    replace h : d7 its = some x := h
    unfold d7 at h
    split at h
    · cases h
      obtain ⟨⟨h1, _⟩, _⟩ := c7_iff.1 hc
      dsimp only at h1
      subst h1
      rfl
    · cases h)
  (fun x hc => by have := (c7_iff.1 hc).1.2.2; show x.n < 18446744073709551616; omega)
  (fun x hc => trivial) (fun x i o hc hi hI => trivial)
  (fun q ⟨n, s, t, b, m, i0, k0, l, a⟩ i _ hc hi hI R K => by
    obtain ⟨⟨h0, h1, h2⟩, h3⟩ := c7_iff.1 hc
    dsimp only at h0 h1 h2 h3
    subst h1
    replace hi : i < m := hi
    have h4 := h3 i hi
    obtain ⟨⟨e1, e2, e3, e4, e5⟩, e6, e7⟩ := gdL_iff.1 h4
    refine (r7 _ _ _ _ _ _ _ _ _ R K q m m b s t i l a).trans ?_
    rw [c7a_iff.2 ⟨⟨by show (0 : Int) ≤ (i : Int); omega, by show (i : Int) < (m : Int); omega, by show (i : Int) < (m : Int); omega, rfl⟩, by show gdL s t l a (i : Int).toNat = true; rw [Int.toNat_natCast]; exact h4⟩, Int.toNat_natCast, Nat.zero_add i, gd i m hi, ltd i m hi, wsn (by omega), e1, e2, e3, bne_self_eq_false, bne_self_eq_false, bne_self_eq_false]
    rfl)
  (fun q ⟨n, s, t, b, m, i0, k0, l, a⟩ _ hc hI R K => by
    obtain ⟨⟨h0, h1, h2⟩, h3⟩ := c7_iff.1 hc
    dsimp only at h0 h1 h2 h3
    subst h1
    refine (r7 _ _ _ _ _ _ _ _ _ R K q m m b s t m l a).trans ?_
    rw [ltn m]
    rfl)
theorem den_greatq3 : DenW Tryd.prog Wd 8 (Fgr3 (fun l => decide (l.n ≤ big)) greB) := (den_great.at Wd).less fun ds rs h => by
  unfold Fgr3 at h
  split at h
  · exact h
  · cases h
theorem den_checkq3 : DenW Tryd.prog Wd 15 (Fcq3 tcB naE) := (den_check.at Wd).less fun ds rs h => by
  unfold Fcq3 at h
  split at h
  · exact h
  · cases h
theorem den_renameq : DenW Tryd.prog Wd 22 (Fnm (fun l t => (decide (l.n > 200) || okL l) && decide (t.size ≤ 1000000)) (fun l s t => bif reE l s t == 0 then rsR l s t else .nil) reE) := (den_rename.at Wd).less fun ds rs h => by
  unfold Fnm at h
  split at h
  · exact h
  · cases h
theorem CN_ok : CxW CNi Wd := by
 unfold CNi CN
 exact mkCx_okW enter mixed (fun p h => by
  simp only [List.mem_cons, List.not_mem_nil, or_false] at h
  rcases h with rfl | rfl | rfl | rfl | rfl
  · exact den_alive
  · exact den_greatq3
  · exact den_renameq
  · exact den_sameq
  · exact den_checkq3) (fun l h => by
  simp only [List.mem_cons, List.not_mem_nil, or_false] at h
  rcases h with rfl | rfl | rfl
  · exact ok7
  · exact ok7a
  · exact ok7b)
end Go.Proofs.YtopdfmhlgkbaaaaDoor

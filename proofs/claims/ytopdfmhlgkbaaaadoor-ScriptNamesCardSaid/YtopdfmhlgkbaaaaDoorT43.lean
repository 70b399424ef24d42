/- The reference's Text: its contract. No conditions. -/
import Derived.Test.YtopdfmhlgkbaaaaDoorT42
namespace Go.Proofs.YtopdfmhlgkbaaaaDoor
open Go.Ev Go.RowKit Go.Lib Go.Dec
set_option linter.all false
theorem nxT_te {l : Row} {i : Nat} {a : ByteArray} (h : a = txt (teL l i)) : nxT l i a = txt (teL l (i + 1)) := by
  subst h
  refine by_inj ?_
  unfold nxT
  rw [by_app, by_app, by_txt, by_txt, by_txt]
  show (teL l i ++ wrL (l.I i 0) (l.R i 1) (l.R i 2)) ++ [10] = _
  rw [List.append_assoc]
  rfl
theorem win_id (r : Row) (n : Nat) (h : n = r.n) : winOf r 0 n = winOf r 0 r.n := by rw [h]
set_option maxRecDepth 100000 in
theorem okT : LoopOk CTx lT.C := lT.ok (fun x i a => a = txt (teL x.l i)) (by kernel_rfl)
  (fun its x h hc => by
    replace h : dT its = some x := h
    unfold dT at h
    split at h
    · cases h
      obtain ⟨⟨h1, h2, h3, h4⟩, h5⟩ := cT_iff.1 hc
      dsimp only at h1
      subst h1
      rfl
    · cases h)
  (fun x hc => by have := (cT_iff.1 hc).1.2.2.2; show x.n < 18446744073709551616; omega)
  (fun x hc => by
    have h2 := (cT_iff.1 hc).1.2.1
    show x.a = txt (teL x.l 0)
    refine by_inj ?_
    rw [by_txt]
    show by_ x.a = []
    exact List.eq_nil_of_length_eq_zero (by rw [← size_by]; exact h2))
  (fun x i a hc hi hI => nxT_te hI)
  (fun q ⟨n, a0, i0, l⟩ i a hc hi hI R K => by
    obtain ⟨⟨h1, h2, h3, h4⟩, h5⟩ := cT_iff.1 hc
    dsimp only at h1 h2 h3 h4 h5
    replace hi : i < n := hi
    replace hI : a = txt (teL l i) := hI
    have hva : ∀ i, i < l.n → vaL l i = true := fun i hi => h5 i (by omega)
    have hv := hva i (by omega)
    obtain ⟨hw, hws⟩ := va_ws (show vaB (l.I i 0) (l.R i 1) (l.R i 2) = true from hv)
    have hl := te_len hva i (by omega)
    have hl2 := wr_len (show vaB (l.I i 0) (l.R i 1) (l.R i 2) = true from hv)
    have hsz : a.size ≤ 4000000200 := by rw [hI, txt_size]; omega
    refine (rT R K q n a i l).trans ?_
    rw [Int.toNat_natCast, Nat.zero_add i, gd i n hi, ltd i n hi, wsn (j := i) (by omega)]
    have e1 : (decide (1 ≤ l.I i 0 ∧ l.I i 0 ≤ 10) && wsB (winOf (l.R i 1) 0 (l.R i 1).n) (winOf (l.R i 2) 0 (l.R i 2).n)) = true := by
      rw [decide_eq_true hw]
      exact hws
    rw [e1]
    have e2 : (decide (((a.size + (txt (wrL (l.I i 0) (winOf (l.R i 1) 0 (l.R i 1).n) (winOf (l.R i 2) 0 (l.R i 2).n))).size : Nat) : Int) > IntKind.i64.max)) = false := by
      refine decide_eq_false ?_
      rw [txt_size]
      show ¬ (((a.size + (wrL (l.I i 0) (l.R i 1) (l.R i 2)).length : Nat) : Int) > 9223372036854775807)
      omega
    have e3 : (decide ((((a ++ txt (wrL (l.I i 0) (winOf (l.R i 1) 0 (l.R i 1).n) (winOf (l.R i 2) 0 (l.R i 2).n))).size + (⟨#[10]⟩ : ByteArray).size : Nat) : Int) > IntKind.i64.max)) = false := by
      refine decide_eq_false ?_
      rw [ByteArray.size_append, txt_size]
      show ¬ (((a.size + (wrL (l.I i 0) (l.R i 1) (l.R i 2)).length + 1 : Nat) : Int) > 9223372036854775807)
      omega
    refine (congrArg (fun c => br true (br true (br true (br c _ _) _) _) _) e2).trans ?_
    refine (congrArg (fun c => br true (br true (br true (br false _ (br c _ _)) _) _) _) e3).trans ?_
    rfl)
  (fun q ⟨n, a0, i0, l⟩ a hc hI R K => by
    refine (rT R K q n a (n : Int) l).trans ?_
    rw [ltn n]
    rfl)
theorem CTx_ok : CxW CTx Wd := mkCx_okW enter mixed (fun p h => by
  simp only [List.mem_cons, List.not_mem_nil, or_false] at h
  rcases h with rfl | rfl
  · exact den_Check.at _
  · exact den_Written.at _) (fun l h => by
  simp only [List.mem_cons, List.not_mem_nil, or_false] at h
  subst h
  exact okT)
theorem tq_te {l : Row} : tqL l = txt (teL l l.n) := by
  unfold tqL
  have key : ∀ (m j : Nat) (a : ByteArray), a = txt (teL l j) → fldN (nxT l) m j a = txt (teL l (j + m)) := by
    intro m
    induction m with
    | zero => intro j a h; exact h
    | succ m ih =>
      intro j a h
      have := ih (j + 1) (nxT l j a) (nxT_te h)
      rw [show j + (m + 1) = j + 1 + m by omega, ← this]
      rfl
  have := key l.n 0 ⟨⟨[]⟩⟩ rfl
  rw [Nat.zero_add] at this
  exact this
theorem den_Textq : DenW Tryd.prog Wd 10 (Ftq tcB teS teE) := evF_denW CTx_ok fun ds rs h => by
  unfold Ftq at h
  split at h
  · rename_i l
    simp only [Option.some.injEq, Prod.mk.injEq] at h
    obtain ⟨h0, rfl⟩ := h
    refine (uT l).trans ?_
    rw [show (decide ((wiR l).n > 200) || okL (wiR l)) = true from h0, show naE (wiR l) = naE l from rfl, tq_te, txt_size]
    unfold teS teE
    cases hn : (naE l != 0)
    · have hz : naE l = 0 := by simpa using hn
      obtain ⟨h1, _, h2⟩ := na_zero hz
      rw [cT_iff.2 ⟨⟨rfl, rfl, rfl, h1⟩, h2⟩]
      by_cases hb : 20000 < (teL l l.n).length
      · rw [decide_eq_true (show (((teL l l.n).length : Nat) : Int) > 20000 by omega), decide_eq_true hb]
        rfl
      · rw [decide_eq_false (show ¬ (((teL l l.n).length : Nat) : Int) > 20000 by omega), decide_eq_false hb]
        rfl
    · rfl
  · cases h
end Go.Proofs.YtopdfmhlgkbaaaaDoor

/- ScriptNames: the closed facts, and the law. No conditions. -/
import Derived.Test.YtopdfmhlgkbaaaaDoorT51
namespace Go.Proofs.YtopdfmhlgkbaaaaDoor
open Go.Ev Go.RowKit Go.Lib Go.Dec
set_option linter.all false
theorem nxX_size : ∀ (m j : Nat) (a : ByteArray), (fldN nxX m j a).size = a.size + m
  | 0, j, a => rfl
  | m + 1, j, a => by
    show (fldN nxX m (j + 1) (nxX j a)).size = _
    rw [nxX_size m (j + 1) (nxX j a)]
    unfold nxX
    rw [ByteArray.size_append]
    show a.size + 1 + m = _
    omega
theorem lx_size : (fldN nxX 20001 0 ⟨⟨[]⟩⟩).size = 20001 := by
  rw [nxX_size]
  show 0 + 20001 = 20001
  rfl
theorem lx_pc : pcB (fldN nxX 20001 0 ⟨⟨[]⟩⟩) = true := decide_eq_true (by rw [lx_size]; omega)
theorem lx_pq : pqE (fldN nxX 20001 0 ⟨⟨[]⟩⟩) = 4 := by
  unfold pqE
  rw [lx_size, decide_eq_true (show 20000 < 20001 by omega)]
  rfl
theorem mM_pq : pqE mM = 0 := by kernel_rfl
theorem mM_n : (pqO mM).n = 12 := by kernel_rfl
theorem mM_sz : mM.size ≤ 5000 := Nat.le_of_ble_eq_true (by kernel_rfl)
abbrev ncR : Row → ByteArray → Bool := fun l t => (decide (l.n > 200) || okL l) && decide (t.size ≤ 1000000)
abbrev nOR : Row → ByteArray → ByteArray → Row := fun l s t => bif reE l s t == 0 then rsR l s t else .nil
set_option maxRecDepth 100000 in
theorem ok7N (L : Nat) (g : Row) (tc : Row → Bool) (tS : Row → ByteArray) (tE : Row → Int) (pO : ByteArray → Row) (pE : ByteArray → Int) (nc : Row → ByteArray → Bool) (nO : Row → ByteArray → ByteArray → Row) (nE : Row → ByteArray → ByteArray → Int) (sc sB : Row → Row → Bool) (cc : Row → Bool) (cE : Row → Int) (hL : L = 20001) : LoopOk (CN7 L g tc tS tE pO pE nc nO nE sc sB cc cE) (lN L).C := (lN L).ok (fun x i a => a.size = i) (by kernel_rfl)
  (fun its x h hc => by
    replace h : dN its = some x := h
    unfold dN at h
    split at h
    · cases h
      replace hc : (_ && _) = true := hc
      rw [Bool.and_eq_true] at hc
      have h1 := beq_iff_eq.1 hc.1
      dsimp only at h1
      subst h1
      rfl
    · cases h)
  (fun x hc => by show L < 18446744073709551616; omega)
  (fun x hc => by
    replace hc : (_ && _) = true := hc
    rw [Bool.and_eq_true] at hc
    exact Nat.eq_of_beq_eq_true hc.2)
  (fun x i a hc hi hI => by
    show (nxX i a).size = i + 1
    unfold nxX
    rw [ByteArray.size_append, hI]
    rfl)
  (fun q ⟨n, e2, s3, e4, b6, b7, e9, e11, e13, m, e15, e17, s18, e19, k, a0, i0, l, o, y⟩ i a hc hi hI R K => by
    replace hi : i < L := hi
    replace hI : a.size = i := hI
    refine (rNm L g tc tS tE pO pE nc nO nE sc sB cc cE R K q n m k e2 e4 e9 e11 e13 e15 e17 e19 i s3 s18 a b6 b7 l o y).trans ?_
    rw [decide_eq_true (show (i : Int) < 20001 by omega), wsn (j := i) (by omega), hI]
    have e3 : (decide (((i + (⟨#[120]⟩ : ByteArray).size : Nat) : Int) > IntKind.i64.max)) = false := by
      refine decide_eq_false ?_
      show ¬ (((i + 1 : Nat) : Int) > 9223372036854775807)
      omega
    refine (congrArg (fun c => br true (br c _ _) _) e3).trans ?_
    rfl)
  (fun q ⟨n, e2, s3, e4, b6, b7, e9, e11, e13, m, e15, e17, s18, e19, k, a0, i0, l, o, y⟩ a hc hI R K => by
    refine (rNm L g tc tS tE pO pE nc nO nE sc sB cc cE R K q n m k e2 e4 e9 e11 e13 e15 e17 e19 (L : Int) s3 s18 a b6 b7 l o y).trans ?_
    rw [decide_eq_false (show ¬ (L : Int) < 20001 by omega)]
    rfl)
theorem den_lreadq : DenW Tryd.prog Wd 21 (Frq pcB pqE) := fun wb hwb ds rs h => den_lread wb hwb ds rs (by
  unfold Frq at h ⊢
  split at h
  · rename_i s
    simp only [Option.some.injEq, Prod.mk.injEq] at h
    obtain ⟨h0, rfl⟩ := h
    show some (pcB s, [D.v (i64 (paE s))]) = _
    rw [h0, (parses (of_decide_eq_true h0)).1]
  · cases h)
theorem den_checkqn : DenW Tryd.prog Wd 15 (Fcn tcB naE) := (den_check.at Wd).less fun ds rs h => by
  unfold Fcn at h
  split at h
  · exact h
  · cases h
noncomputable abbrev CN7i : Cx := CN7 20001 gvR tcB teS teE paO paE ncR nOR reE (fun l _ => bgL l) saLB tcB naE
theorem CN7_ok : CxW CN7i Wd := by
 unfold CN7i CN7
 exact mkCx_okW enter mixed (fun p h => by
  simp only [List.mem_cons, List.not_mem_nil, or_false] at h
  rcases h with rfl | rfl | rfl | rfl | rfl | rfl | rfl | rfl | rfl
  · exact den_alive
  · exact den_parseq
  · exact den_textq
  · exact den_line.at _
  · exact den_lreadq
  · exact den_given
  · exact den_renameq
  · exact den_sameq
  · exact den_checkqn) (fun l h => by
  simp only [List.mem_cons, List.not_mem_nil, or_false] at h
  subst h
  exact ok7N 20001 gvR tcB teS teE paO paE ncR nOR reE (fun l _ => bgL l) saLB tcB naE rfl)
theorem mM_facts : paE mM = 0 ∧ (paO mM).n = 12 ∧ tcB (paO mM) = true ∧ teE (paO mM) = 0 ∧ teS (paO mM) = mM ∧ paO mM = paL mM := by
  have hs := mM_sz
  obtain ⟨h1, h2⟩ := parses (s := mM) (by omega)
  rw [mM_pq] at h1
  have hn : (paO mM).n = 12 := h2.1.trans mM_n
  rcases pa_cases mM with h3 | h3 | ⟨h3, h4, h5⟩
  · rw [h3] at h1; cases h1
  · rw [h3] at h1; cases h1
  · have hna : naE (paL mM) = 0 := h5 ▸ h1
    have hO : paO mM = paL mM := by
      unfold paO
      rw [decide_eq_false (show ¬ 20000 < mM.size by omega), h4, hna]
      rfl
    have ht := pa_back h4
    have hlen : (teL (paL mM) (paL mM).n).length ≤ 20000 := by rw [ht, ← size_by]; exact h3
    obtain ⟨t1, t2⟩ := te_of hna hlen
    rw [ht, txt_by] at t2
    refine ⟨h1, hn, ?_, ?_, ?_, hO⟩
    · rw [hO]; unfold tcB; rw [paL_ok mM (by omega), Bool.or_true]
    · rw [hO]; exact t1
    · rw [hO]; exact t2
theorem br_t {α : Type} {c : Bool} {x y r : Option α} (h : c = true) (hx : x = r) : br c x y = r := by rw [h]; exact hx
theorem win_of (r : Row) (n : Nat) : winOf (winOf r 0 n) 0 (winOf r 0 n).n = winOf r 0 n := rfl
theorem mM_wi : winOf (paO mM) 0 (paO mM).n = paO mM := by
  rw [mM_facts.2.2.2.2.2]
  exact win_of _ _
theorem beq_t {a b : Int} (h : a = b) : (a == b) = true := beq_iff_eq.2 h
theorem kN_1 : ncR (winOf gvR 0 gvR.n) mX = true := by kernel_rfl
theorem kN_2 : ncR (winOf gvR 0 gvR.n) mAnn = true := by kernel_rfl
theorem kN_3 : ncR (winOf gvR 0 gvR.n) mBob = true := by kernel_rfl
theorem kN_4 : ncR (winOf gvR 0 gvR.n) mZed = true := by kernel_rfl
theorem kN_5 : tcB (winOf (nOR (winOf gvR 0 gvR.n) mCarol mZed) 0 (nOR (winOf gvR 0 gvR.n) mCarol mZed).n) = true := by kernel_rfl
theorem kN_6 : (reE (winOf gvR 0 gvR.n) mDave mX == 6) = true := by kernel_rfl
theorem kN_7 : (reE (winOf gvR 0 gvR.n) mBob mX == 8) = true := by kernel_rfl
theorem kN_8 : (reE (winOf gvR 0 gvR.n) mBob mAnn == 14) = true := by kernel_rfl
theorem kN_9 : (reE (winOf gvR 0 gvR.n) mBob mBob == 0) = true := by kernel_rfl
theorem kN_10 : bgL (winOf (nOR (winOf gvR 0 gvR.n) mBob mBob) 0 (nOR (winOf gvR 0 gvR.n) mBob mBob).n) = true := by kernel_rfl
theorem kN_11 : saLB (winOf (nOR (winOf gvR 0 gvR.n) mBob mBob) 0 (nOR (winOf gvR 0 gvR.n) mBob mBob).n) (winOf gvR 0 gvR.n) = true := by kernel_rfl
theorem kN_12 : (reE (winOf gvR 0 gvR.n) mCarol mZed == 0) = true := by kernel_rfl
theorem kN_13 : (teE (winOf (nOR (winOf gvR 0 gvR.n) mCarol mZed) 0 (nOR (winOf gvR 0 gvR.n) mCarol mZed).n) == 0) = true := by kernel_rfl
theorem kN_14 : ((teS (winOf (nOR (winOf gvR 0 gvR.n) mCarol mZed) 0 (nOR (winOf gvR 0 gvR.n) mCarol mZed).n)).toList == mZ.toList) = true := by kernel_rfl
theorem kN_15 : tcB (winOf (Row.zeros 201) 0 201) = true := by kernel_rfl
theorem kN_16 : (naE (winOf (Row.zeros 201) 0 201) == 4) = true := by kernel_rfl
theorem kN_17 : tcB (winOf (Row.zeros 201) 0 200) = true := by kernel_rfl
theorem kN_18 : (naE (winOf (Row.zeros 201) 0 200) == 8) = true := by kernel_rfl
theorem kN_19 : tcB (winOf (paO mM) 0 (paO mM).n) = true := by rw [mM_wi]; exact mM_facts.2.2.1
theorem kN_20 : (((paO mM).n : Int) == 12) = true := by rw [mM_facts.2.1]; rfl
theorem kN_21 : (teE (winOf (paO mM) 0 (paO mM).n) == 0) = true := by rw [mM_wi, mM_facts.2.2.2.1]; rfl
theorem kN_22 : ((teS (winOf (paO mM) 0 (paO mM).n)).toList == mM.toList) = true := by rw [mM_wi, mM_facts.2.2.2.2.1]; exact beq_self_eq_true mM.toList
theorem law_scnames : evF CN7i 6 6 [] = some [.v (.bool true)] := by
  refine (eNm 20001 gvR tcB teS teE paO paE ncR nOR reE (fun l _ => bgL l) saLB tcB naE).trans ?_
  exact br_t kN_19 <| br_t kN_1 <| br_t kN_1 <| br_t kN_2 <| br_t kN_3 <| br_t kN_4 <| br_t kN_5 <| br_t (beq_t mM_facts.1) <| br_t kN_20 <| br_t kN_21 <| br_t kN_22 <| br_t kN_6 <| br_t kN_7 <| br_t kN_8 <| br_t kN_9 <| br_t kN_10 <| br_t kN_11 <| br_t kN_12 <| br_t kN_13 <| br_t kN_14 <| br_t kN_15 <| br_t kN_16 <| br_t kN_17 <| br_t kN_18 <| br_t lx_pc <| br_t (beq_t lx_pq) rfl
end Go.Proofs.YtopdfmhlgkbaaaaDoor

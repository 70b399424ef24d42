/- ScriptBack: the law. No conditions. -/
import Derived.Test.YtopdfmhlgkbaaaaDoorT31
namespace Go.Proofs.YtopdfmhlgkbaaaaDoor
open Go.Ev Go.RowKit Go.Lib Go.Dec
set_option linter.all false
theorem te_zero {l : Row} (h : teE l = 0) : naE l = 0 ∧ (teL l l.n).length ≤ 20000 ∧ teS l = txt (teL l l.n) := by
  unfold teE at h
  unfold teS
  cases hn : (naE l != 0)
  · have hn' : naE l = 0 := by simpa using hn
    by_cases hb : 20000 < (teL l l.n).length
    · rw [hn, decide_eq_true hb] at h; cases h
    · rw [decide_eq_false hb]
      exact ⟨hn', by omega, rfl⟩
  · rw [hn] at h
    have h : naE l = 0 := h
    rw [h] at hn
    cases hn
theorem te_of {l : Row} (h : naE l = 0) (hl : (teL l l.n).length ≤ 20000) : teE l = 0 ∧ teS l = txt (teL l l.n) := by
  unfold teE teS
  rw [h, decide_eq_false (show ¬ 20000 < (teL l l.n).length by omega)]
  exact ⟨rfl, rfl⟩
theorem teL_congr {l o : Row} : ∀ (n : Nat), (∀ i, i < n → l.I i = o.I i ∧ l.R i = o.R i) → teL l n = teL o n
  | 0, _ => rfl
  | n + 1, h => by
    obtain ⟨h1, h2⟩ := h n (by omega)
    show teL l n ++ _ = teL o n ++ _
    rw [teL_congr n fun i hi => h i (by omega), h1, h2]
/-- The text of what is read so far, and what is left. -/
theorem run_text (s : ByteArray) : ∀ (m j : Nat) (a : ByteArray × Row), InvP s j a → j + m = lnN s → by_ s = teL a.2 j ++ by_ a.1 → (runS stP nxP m j a).1 = false →
    by_ s = teL (runS stP nxP m j a).2.2.2 (runS stP nxP m j a).2.1 ++ by_ (runS stP nxP m j a).2.2.1
  | 0, j, a, _, _, h, _ => h
  | m + 1, j, a, hI, hj, h, hf => by
    cases hs : stP j a
    · rw [runS_s hs] at hf ⊢
      refine run_text s m (j + 1) (nxP j a) (hI.nx (by omega) hs) (by omega) ?_ hf
      obtain ⟨ho, hb⟩ := stP_false hs
      obtain ⟨hv, ht⟩ := rd_back hb
      have hsp := sp_spec 10 (by_ a.1)
      obtain ⟨y, hy⟩ : ∃ y, (sp 10 (by_ a.1)).2 = some y := by
        unfold okB at ho
        exact Option.isSome_iff_exists.1 ho
      rw [hy] at hsp
      have hr : by_ (restB a.1) = y := by unfold restB; rw [hy]; rfl
      have h1 : by_ (oneB a.1) = (sp 10 (by_ a.1)).1 := rfl
      have hw : wrL (rdW (oneB a.1)) (rdN (oneB a.1)) (rdU (oneB a.1)) = (sp 10 (by_ a.1)).1 := by
        have := congrArg by_ ht
        rw [by_txt] at this
        exact this.trans h1
      have hn := hI.n
      obtain ⟨g1, g2, g3⟩ := pl_hi a.2 (rdW (oneB a.1)) (winOf (rdN (oneB a.1)) 0 (rdN (oneB a.1)).n) (winOf (rdU (oneB a.1)) 0 (rdU (oneB a.1)).n)
      rw [hn] at g1 g2 g3
      have ht2 : teL (pushL a.2 (lnS (oneB a.1))) (j + 1) = teL a.2 j ++ ((sp 10 (by_ a.1)).1 ++ [10]) := by
        show teL (pushL a.2 (lnS (oneB a.1))) j ++ (wrL ((pushL a.2 (lnS (oneB a.1))).I j 0) ((pushL a.2 (lnS (oneB a.1))).R j 1) ((pushL a.2 (lnS (oneB a.1))).R j 2) ++ [10]) = _
        rw [teL_congr j fun i hi => pl_lo a.2 (lnS (oneB a.1)) (by rw [hn]; exact hi)]
        unfold lnS
        rw [g1, g2, g3]
        show teL a.2 j ++ (wrL (rdW (oneB a.1)) (rdN (oneB a.1)) (rdU (oneB a.1)) ++ [10]) = _
        rw [hw]
      show by_ s = teL (pushL a.2 (lnS (oneB a.1))) (j + 1) ++ by_ (restB a.1)
      rw [ht2, hr, h, List.append_assoc, List.append_assoc]
      congr 1
    · rw [runS_t hs] at hf; cases hf
/-- What is parsed is the text of what comes of it. -/
theorem pa_back {s : ByteArray} (h : (paR s).1 = false) : teL (paL s) (paL s).n = by_ s := by
  obtain ⟨h1, _, h3⟩ := pa_inv s
  have h4 := run_text s (lnN s) 0 (s, .nil) (InvP.ini s .nil rfl) (by omega) rfl h
  have h5 : by_ (paR s).2.2.1 = [] := lnN_zero (by have := h1.cnt; have := h3 h; omega)
  have hn : (paL s).n = (paR s).2.1 := h1.n
  have h4 : by_ s = teL (paR s).2.2.2 (paR s).2.1 ++ by_ (paR s).2.2.1 := h4
  rw [h5, List.append_nil] at h4
  rw [hn, h4]
  exact teL_congr _ fun i _ => ⟨rfl, rfl⟩
theorem pa_cases (s : ByteArray) : paE s = 4 ∨ paE s = 12 ∨ (s.size ≤ 20000 ∧ (paR s).1 = false ∧ paE s = naE (paL s)) := by
  unfold paE
  by_cases h : 20000 < s.size
  · rw [decide_eq_true h]; exact .inl rfl
  · rw [decide_eq_false h]
    cases (paR s).1
    · exact .inr (.inr ⟨by omega, rfl, rfl⟩)
    · exact .inr (.inl rfl)
theorem na_cases {l : Row} (h : ∀ i, i < l.n → vaL l i = true) : naE l = 0 ∨ naE l = 4 ∨ naE l = 14 ∨ naE l = 6 := by
  unfold naE
  by_cases hl : l.n > 200
  · rw [decide_eq_true hl]; exact .inr (.inl rfl)
  · rw [decide_eq_false hl]
    unfold knE
    cases hc : (knR l).1
    · exact .inl rfl
    · have hj : (knR l).2.1 < l.n := by have := runS_j (stop := stK l) (nx := nxK l) (m := l.n) (j := 0) (a := .nil) hc; unfold knR; omega
      show erK l (knR l).2.1 = 0 ∨ _
      unfold erK
      rw [h _ hj]
      cases newB (l.I (knR l).2.1 0)
      · exact .inr (.inr (.inr rfl))
      · exact .inr (.inr (.inl rfl))
def gT : Option (List D) := some [.v (.bool true)]
def bkT (s : ByteArray) : Option (List D) :=
  br (pcB s) (br (paE s != 0) (br (((paO s).n : Int) == 0) (br (paE s == 12) gT (br (paE s == 4) gT (br (paE s == 14) gT (some [.v (.bool (paE s == 6))])))) fF) (br (tcB (wiR (paO s))) (br (teE (wiR (paO s)) == 0) (br ((teS (wiR (paO s))).toList == s.toList) (br (tcB (wiR (paO s))) (some [.v (.bool (naE (wiR (paO s)) == 0))]) none) fF) fF) none)) none
theorem bkT_is {s : ByteArray} (h : s.size ≤ 5000) : bkT s = gT := by
  unfold bkT
  rw [show pcB s = true from decide_eq_true (by omega)]
  cases he : (paE s != 0)
  · have he : paE s = 0 := by simpa using he
    rcases pa_cases s with h1 | h1 | ⟨h1, h2, h3⟩
    · rw [h1] at he; cases he
    · rw [h1] at he; cases he
    · have hna : naE (paL s) = 0 := h3 ▸ he
      have hO : paO s = paL s := by
        unfold paO
        rw [decide_eq_false (show ¬ 20000 < s.size by omega), h2, hna]
        rfl
      have hw : wiR (paL s) = paL s := rfl
      have ht := pa_back h2
      have hlen : (teL (paL s) (paL s).n).length ≤ 20000 := by rw [ht, ← size_by]; exact h1
      obtain ⟨t1, t2⟩ := te_of hna hlen
      rw [hO, hw, t1, t2, ht, txt_by, hna, show tcB (paL s) = true by unfold tcB; rw [paL_ok s (by omega), Bool.or_true], beq_self_eq_true s.toList]
      rfl
  · rw [paO_nil he]
    rcases pa_cases s with h1 | h1 | ⟨h1, h2, h3⟩
    · rw [h1]; rfl
    · rw [h1]; rfl
    · rcases na_cases (paL_va s) with h4 | h4 | h4 | h4
      · rw [h3, h4] at he; cases he
      · rw [h3, h4]; rfl
      · rw [h3, h4]; rfl
      · rw [h3, h4]; rfl
noncomputable abbrev CBi : Cx := CB (fun l => decide (l.n ≤ big)) greB tcB teS teE pcB paO paE (fun l _ => bgL l) saLB tcB naE
theorem eB' (l : Row) (s : ByteArray) : evF CBi 6 4 [.slice ksL l, .v (.string s)] =
    br (decide ((wiR l).n ≤ big)) (br (greB (wiR l)) gT (br (decide ((s.size : Int) > 5000)) gT (br (tcB (wiR l)) (br (teE (wiR l) == 0) (br (pcB (teS (wiR l))) (br (paE (teS (wiR l)) != 0) fF (br (bgL (wiR (paO (teS (wiR l))))) (br (!saLB (wiR (paO (teS (wiR l)))) (wiR l)) fF (br (tcB (wiR l)) (br (naE (wiR l) != 0) fF (bkT s)) none)) none)) none) (bkT s)) none))) none := eB (fun l => decide (l.n ≤ big)) greB tcB teS teE pcB paO paE (fun l _ => bgL l) saLB tcB naE l s
theorem den_greatq2 : DenW Tryd.prog Wd 8 (Fgr2 (fun l => decide (l.n ≤ big)) greB) := (den_great.at Wd).less fun ds rs h => by
  unfold Fgr2 at h
  split at h
  · exact h
  · cases h
theorem den_checkq : DenW Tryd.prog Wd 15 (Fcq tcB naE) := (den_check.at Wd).less fun ds rs h => by
  unfold Fcq at h
  split at h
  · exact h
  · cases h
theorem CB_ok : CxW CBi Wd := by
 unfold CBi CB
 exact mkCx_okW enter mixed (fun p h => by
  simp only [List.mem_cons, List.not_mem_nil, or_false] at h
  rcases h with rfl | rfl | rfl | rfl | rfl | rfl
  · exact den_alive
  · exact den_greatq2
  · exact den_textq
  · exact den_parseq
  · exact den_sameq
  · exact den_checkq) (fun l h => by cases h)
theorem bg_of {l : Row} (h : ∀ i, i < l.n → vaL l i = true) (hn : l.n ≤ 1000000) : bgL l = true := by
  have hbig : 1000000 ≤ big := Nat.le_of_ble_eq_true (by kernel_rfl)
  refine bgL_iff.2 ⟨by omega, fun i hi => ?_⟩
  have := vaL_lnB (h i hi)
  unfold lnB at this
  rw [Bool.and_eq_true, decide_eq_true_eq] at this
  exact ⟨Nat.le_trans (smN_iff.1 this.1).1 hbig, Nat.le_trans this.2 hbig⟩
theorem law_back (l : Row) (s : ByteArray) (hl : l.n ≤ big) : evF CBi 6 4 [.slice ksL l, .v (.string s)] = some [.v (.bool true)] := by
  refine (eB' l s).trans ?_
  rw [decide_eq_true (show (wiR l).n ≤ big from hl)]
  cases hg : greB (wiR l)
  · have hok := gre_ok hg
    by_cases h1 : (s.size : Int) > 5000
    · rw [decide_eq_true h1]; rfl
    · rw [decide_eq_false h1, show tcB (wiR l) = true by unfold tcB; rw [hok, Bool.or_true], bkT_is (s := s) (by omega)]
      cases he : (teE (wiR l) == 0)
      · rfl
      · have he : teE (wiR l) = 0 := by simpa using he
        obtain ⟨t1, t2, t3⟩ := te_zero he
        obtain ⟨_, _, hva⟩ := na_zero t1
        obtain ⟨p1, p2⟩ := pa_of hva t2
        rw [← t3] at p1 p2
        have hr : (paR (teS (wiR l))).1 = false := by rw [t3]; exact (pa_lines hva).1
        have hsz : (teS (wiR l)).size ≤ 20000 := by rw [t3, txt_size]; exact t2
        have hO : paO (teS (wiR l)) = paL (teS (wiR l)) := by
          unfold paO
          rw [decide_eq_false (show ¬ 20000 < (teS (wiR l)).size by omega), hr, (na_congr p2).1, t1]
          rfl
        have hw : wiR (paL (teS (wiR l))) = paL (teS (wiR l)) := rfl
        have hn : (paL (teS (wiR l))).n ≤ 1000000 := by rw [p2.1]; exact (okL_iff.1 hok).1
        rw [hO, hw, p1, t1, saLB_iff.2 p2, bg_of (paL_va _) hn, show pcB (teS (wiR l)) = true from decide_eq_true (by omega)]
        rfl
  · rfl
end Go.Proofs.YtopdfmhlgkbaaaaDoor

/- The reference's reading of a line: its contract; what it reads of a valid line's text. No conditions. -/
import Derived.Test.YtopdfmhlgkbaaaaDoorT39
namespace Go.Proofs.YtopdfmhlgkbaaaaDoor
open Go.Ev Go.RowKit Go.Lib Go.Dec
set_option linter.all false
def sel3 (w : Int) (r : Row) (i m : Nat) : List ByteArray := ((List.range' i m).filter fun j => !forJ w r (1 + j)).map fun j => r.S (1 + j) 0
def nms3 (l : List ByteArray) : List ByteArray := l.filter fun p => !nuB p
def nus3 (l : List ByteArray) : List Int := (l.filter fun p => nuB p).map nuN
theorem nyB_lists (w : Int) (r : Row) : ∀ (m i : Nat) (a : Row × Row), strs (fldN (nyB w r) m i a).1 (fldN (nyB w r) m i a).1.n = strs a.1 a.1.n ++ nms3 (sel3 w r i m) ∧
    ints (fldN (nyB w r) m i a).2 (fldN (nyB w r) m i a).2.n = ints a.2 a.2.n ++ nus3 (sel3 w r i m)
  | 0, i, a => by simp [fldN, nms3, nus3, sel3]
  | m + 1, i, a => by
    obtain ⟨h1, h2⟩ := nyB_lists w r m (i + 1) (nyB w r i a)
    have e1 : fldN (nyB w r) (m + 1) i a = fldN (nyB w r) m (i + 1) (nyB w r i a) := rfl
    have e2 : sel3 w r i (m + 1) = bif forJ w r (1 + i) then sel3 w r (i + 1) m else r.S (1 + i) 0 :: sel3 w r (i + 1) m := by
      unfold sel3
      rw [List.range'_succ, List.filter_cons]
      cases forJ w r (1 + i) <;> rfl
    rw [e1, h1, h2, e2]
    unfold nyB
    cases forJ w r (1 + i)
    · cases he : nuB (r.S (1 + i) 0)
      · have n1 : nms3 (r.S (1 + i) 0 :: sel3 w r (i + 1) m) = r.S (1 + i) 0 :: nms3 (sel3 w r (i + 1) m) := by unfold nms3; rw [List.filter_cons, he]; rfl
        have n2 : nus3 (r.S (1 + i) 0 :: sel3 w r (i + 1) m) = nus3 (sel3 w r (i + 1) m) := by unfold nus3; rw [List.filter_cons, he]; rfl
        refine ⟨?_, ?_⟩
        · show strs (psC a.1 _) (psC a.1 _).n ++ _ = strs a.1 a.1.n ++ nms3 (r.S (1 + i) 0 :: sel3 w r (i + 1) m)
          rw [strs_psC, List.append_assoc, n1]
          rfl
        · show ints a.2 a.2.n ++ _ = ints a.2 a.2.n ++ nus3 (r.S (1 + i) 0 :: sel3 w r (i + 1) m)
          rw [n2]
      · have n1 : nms3 (r.S (1 + i) 0 :: sel3 w r (i + 1) m) = nms3 (sel3 w r (i + 1) m) := by unfold nms3; rw [List.filter_cons, he]; rfl
        have n2 : nus3 (r.S (1 + i) 0 :: sel3 w r (i + 1) m) = nuN (r.S (1 + i) 0) :: nus3 (sel3 w r (i + 1) m) := by unfold nus3; rw [List.filter_cons, he]; rfl
        refine ⟨?_, ?_⟩
        · show strs a.1 a.1.n ++ _ = strs a.1 a.1.n ++ nms3 (r.S (1 + i) 0 :: sel3 w r (i + 1) m)
          rw [n1]
        · show ints (psI a.2 _) (psI a.2 _).n ++ _ = ints a.2 a.2.n ++ nus3 (r.S (1 + i) 0 :: sel3 w r (i + 1) m)
          rw [ints_psI, List.append_assoc, n2]
          rfl
    · exact ⟨rfl, rfl⟩
theorem strs3 (r : Row) (m : Nat) : strs r (m + 3) = r.S 0 0 :: r.S 1 0 :: r.S 2 0 :: (List.range' 3 m).map fun j => r.S j 0 := by
  unfold strs
  rw [List.range_eq_range', List.range'_succ, List.range'_succ, List.range'_succ]
  rfl
theorem sel_tail (w : Int) (r : Row) : sel3 w r 0 (r.n - 1) = bif (w == 4 && (decide (2 < r.n) && (r.S 2 0).toList == sFor.toList)) then ((strs r r.n).take 2 ++ (strs r r.n).drop 3).tail else (strs r r.n).tail := by
  cases hc : (w == 4 && (decide (2 < r.n) && (r.S 2 0).toList == sFor.toList))
  · rw [cond_false, ← tail_strs]
    unfold sel3
    rw [List.filter_eq_self.2 fun j hj => ?_]
    have hj := (List.mem_range'_1.1 hj).2
    unfold forJ
    cases hw : w == 4
    · rfl
    · cases h2 : (((1 + j : Nat) : Int) == 2)
      · rfl
      · have hj1 : j = 1 := by have := beq_iff_eq.1 h2; omega
        subst hj1
        rw [hw, decide_eq_true (show 2 < r.n by omega)] at hc
        have hc : ((r.S 2 0).toList == sFor.toList) = false := hc
        rw [hc]
        rfl
  · rw [cond_true]
    simp only [Bool.and_eq_true, decide_eq_true_eq] at hc
    obtain ⟨hw, hn, hf⟩ := hc
    obtain ⟨m, hm⟩ : ∃ m, r.n = m + 3 := ⟨r.n - 3, by omega⟩
    rw [hm, strs3, show m + 3 - 1 = m + 1 + 1 by omega]
    unfold sel3
    rw [List.range'_succ, List.range'_succ, List.filter_cons, List.filter_cons]
    have f0 : forJ w r (1 + 0) = false := by unfold forJ; rw [hw]; rfl
    have f1 : forJ w r (1 + (0 + 1)) = true := by
      unfold forJ
      rw [hw]
      show (true && (true && ((r.S 2 0).toList == sFor.toList))) = true
      rw [hf]
      rfl
    rw [f0, f1, List.filter_eq_self.2 fun j hj => ?_]
    · show r.S 1 0 :: ((List.range' 2 m).map fun j => r.S (1 + j) 0) = r.S 1 0 :: ((List.range' 3 m).map fun j => r.S j 0)
      congr 1
      have h9 : (List.range' 2 m).map (fun x => 1 + x) = List.range' 3 m := List.map_add_range' 2 m 1
      rw [← h9, List.map_map]
      rfl
    · have hj := (List.mem_range'_1.1 hj).1
      have : forJ w r (1 + j) = false := by
        unfold forJ
        rw [beq_eq_false_iff_ne.2 (show ((1 + j : Nat) : Int) ≠ 2 by omega), Bool.false_and, Bool.and_false]
      rw [this]
      rfl
/-- The two ways of cutting a line give the same pieces. -/
theorem rq_parts (s : ByteArray) : strs (rqR s) (rqR s).n = splS s sSp := by
  have h1 : (strs (cutR s 32) (cutR s 32).n).map by_ = pieces 32 (by_ s) := cut_pieces s 32
  have h2 : (splS s sSp).map by_ = pieces 32 (by_ s) := splS_pieces 32 _ _ (Nat.le_refl _)
  exact (List.map_inj_right (fun a b hab => by_inj hab)).1 (h1.trans h2.symm)
theorem rq_n (s : ByteArray) : (rqR s).n = (rdR s).n := by
  have := congrArg List.length (rq_parts s)
  rw [strs_len] at this
  exact this
theorem rq_S (s : ByteArray) {i : Nat} (hi : i < (rqR s).n) : (rqR s).S i 0 = (rdR s).S i 0 := by
  have h := rq_parts s
  have h1 : (strs (rqR s) (rqR s).n)[i]? = some ((rqR s).S i 0) := by simp [strs, hi]
  rw [h] at h1
  show _ = (splS s sSp).getD i .empty
  rw [List.getD_eq_getElem?_getD, h1]
  rfl
theorem rq_pos (s : ByteArray) : 1 ≤ (rqR s).n := by
  rw [rq_n]
  show 1 ≤ (splS s sSp).length
  have := (splS_len s).2.1
  cases hs : splS s sSp with
  | nil => exact absurd hs this
  | cons a l => simp
theorem nyA_nxA (s0 : ByteArray) : ∀ (m j : Nat) (w : Int), j + m ≤ 10 → fldN (nyA s0) m j w = fldN (nxA Wt s0) m j w
  | 0, _, _, _ => rfl
  | m + 1, j, w, h => by
    show fldN (nyA s0) m (j + 1) (nyA s0 j w) = fldN (nxA Wt s0) m (j + 1) (nxA Wt s0 j w)
    have : nyA s0 j w = nxA Wt s0 j w := by
      unfold nyA nxA
      obtain ⟨_, _, _, _, _, _, _, w7⟩ := Wt_has (w := (j : Int) + 1) (by omega) (by omega)
      rw [show ((j : Int) + 1 - 1).toNat = j by omega] at w7
      rw [w7]
    rw [this, nyA_nxA s0 m (j + 1) _ (by omega)]
theorem rq_W (s : ByteArray) : rqW s = rdW s := by
  unfold rqW rdW
  rw [nyA_nxA _ 10 0 0 (by omega), rq_S s (by have := rq_pos s; omega)]
theorem rq_lists (s : ByteArray) : strs (rqN s) (rqN s).n = nms3 (rdP s) ∧ ints (rqU s) (rqU s).n = nus3 (rdP s) := by
  obtain ⟨h1, h2⟩ := nyB_lists (rqW s) (rqR s) ((rqR s).n - 1) 0 (.nil, .nil)
  have e : sel3 (rqW s) (rqR s) 0 ((rqR s).n - 1) = rdP s := by
    rw [sel_tail, rq_parts]
    have : (rqW s == 4 && (decide (2 < (rqR s).n) && ((rqR s).S 2 0).toList == sFor.toList)) = rdF s := by
      unfold rdF
      rw [rq_W, rq_n]
      by_cases h3 : 2 < (rdR s).n
      · rw [rq_S s (by rw [rq_n]; exact h3)]
      · rw [decide_eq_false h3, Bool.false_and, Bool.false_and]
    rw [this]
    rfl
  rw [e] at h1 h2
  exact ⟨h1, h2⟩
def rqB (s : ByteArray) : Bool := vaB (rqW s) (rqN s) (rqU s) && (txt (wrL (rqW s) (rqN s) (rqU s))).toList == s.toList
def FRead : List D → Option (Bool × List D)
  | [.v (.string s)] => some (decide (s.size ≤ 1000000), [.agg [.v (u8 (rqW s)), .slice ksS (rqN s), .slice ksI (rqU s)], .v (.bool (rqB s))])
  | _ => none
theorem den_Read : DenW Tryd.prog Wd 33 FRead := evF_denW C33_ok fun ds rs h => by
  unfold FRead at h
  split at h
  · rename_i s
    simp only [Option.some.injEq, Prod.mk.injEq, decide_eq_true_eq] at h
    obtain ⟨h0, rfl⟩ := h
    obtain ⟨h1, h2⟩ := rq_lists s
    obtain ⟨h3, h4⟩ := rdP_len s
    have hn := rq_pos s
    have hn2 : (rqR s).n ≤ 1000001 := by rw [rq_n]; have := (splS_len s).1; show (splS s sSp).length ≤ _; omega
    have n1 : (rqN s).n ≤ 1000000 := by
      have := congrArg List.length h1
      rw [strs_len] at this
      rw [this]
      exact Nat.le_trans (List.length_filter_le _ _) (by omega)
    have n2 : (rqU s).n ≤ 1000000 := by
      have := congrArg List.length h2
      rw [ints_len] at this
      rw [this]
      unfold nus3
      rw [List.length_map]
      exact Nat.le_trans (List.length_filter_le _ _) (by omega)
    have n3 : smN (rqN s) (rqN s).n = true := smN_iff.2 ⟨n1, fun i hi => by
      have h5 := strs_mem (r := rqN s) hi
      rw [h1] at h5
      have := h4 _ (List.mem_filter.1 h5).1
      omega⟩
    refine (u33 s).trans ?_
    rw [decide_eq_true h0, c33a_iff.2 ⟨rfl, hn⟩, c33b_iff.2 ⟨⟨rfl, rfl, Nat.zero_le _, Nat.zero_le _⟩, rfl, hn, hn2⟩]
    show tEnd3 s (rqW s) (rqN s) (rqU s) = _
    unfold tEnd3 rqB
    rw [n3, decide_eq_true n2]
    cases hv : vaB (rqW s) (rqN s) (rqU s)
    · rfl
    · obtain ⟨h6, h7⟩ := va_ws hv
      rw [h7, decide_eq_true h6]
      rfl
  · cases h
end Go.Proofs.YtopdfmhlgkbaaaaDoor

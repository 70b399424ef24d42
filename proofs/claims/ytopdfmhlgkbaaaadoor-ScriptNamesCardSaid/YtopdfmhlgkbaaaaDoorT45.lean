/- Both ways of parsing give the same. No conditions. -/
import Derived.Test.YtopdfmhlgkbaaaaDoorT44
import Derived.Test.YtopdfmhlgkbaaaaDoorT32
namespace Go.Proofs.YtopdfmhlgkbaaaaDoor
open Go.Ev Go.RowKit Go.Lib Go.Dec
set_option linter.all false
theorem pieces_inj (k : UInt8) : ∀ x y : List UInt8, pieces k x = pieces k y → x = y
  | [], [], _ => rfl
  | [], d :: y, h => by
    exfalso
    rw [show pieces k (d :: y) = if d = k then [] :: pieces k y else match pieces k y with
      | [] => [[d]]
      | p :: ps => (d :: p) :: ps from rfl] at h
    rw [show pieces k [] = [[]] from rfl] at h
    split at h
    · have := pieces_ne k y
      simp at h
      exact this h
    · split at h <;> simp at h
  | c :: x, [], h => by
    exfalso
    rw [show pieces k (c :: x) = if c = k then [] :: pieces k x else match pieces k x with
      | [] => [[c]]
      | p :: ps => (c :: p) :: ps from rfl] at h
    rw [show pieces k [] = [[]] from rfl] at h
    split at h
    · have := pieces_ne k x
      simp at h
      exact this h
    · split at h <;> simp at h
  | c :: x, d :: y, h => by
    have ih := pieces_inj k x y
    have hx := pieces_ne k x
    have hy := pieces_ne k y
    rw [show pieces k (c :: x) = if c = k then [] :: pieces k x else match pieces k x with
      | [] => [[c]]
      | p :: ps => (c :: p) :: ps from rfl, show pieces k (d :: y) = if d = k then [] :: pieces k y else match pieces k y with
      | [] => [[d]]
      | p :: ps => (d :: p) :: ps from rfl] at h
    cases hpx : pieces k x with
    | nil => exact absurd hpx hx
    | cons p ps =>
      cases hpy : pieces k y with
      | nil => exact absurd hpy hy
      | cons q qs =>
        rw [hpx, hpy] at h ih
        by_cases h1 : c = k
        · rw [if_pos h1] at h
          by_cases h2 : d = k
          · rw [if_pos h2] at h
            rw [ih (List.cons.inj h).2, h1, h2]
          · rw [if_neg h2] at h
            exact absurd (List.cons.inj h).1 (by simp)
        · rw [if_neg h1] at h
          by_cases h2 : d = k
          · rw [if_pos h2] at h
            exact absurd (List.cons.inj h).1 (by simp)
          · rw [if_neg h2] at h
            obtain ⟨g1, g2⟩ := List.cons.inj h
            obtain ⟨g3, g4⟩ := List.cons.inj g1
            rw [ih (by rw [g4, g2]), g3]
theorem teG_ne (l : Row) (m i : Nat) : teG l (m + 1) i ≠ [] := by
  show wrL (l.I i 0) (l.R i 1) (l.R i 2) ++ 10 :: teG l m (i + 1) ≠ []
  simp
theorem pieces_teG (l : Row) : ∀ (m i : Nat), (∀ e, i ≤ e → e < i + (m + 1) → vaL l e = true) → pieces 10 (teG l (m + 1) i).dropLast = (List.range' i (m + 1)).map fun e => wrL (l.I e 0) (l.R e 1) (l.R e 2)
  | 0, i, h => by
    have h10 := wr_no10 (va_okln (show vaB (l.I i 0) (l.R i 1) (l.R i 2) = true from h i (Nat.le_refl _) (by omega)))
    show pieces 10 (wrL (l.I i 0) (l.R i 1) (l.R i 2) ++ [10]).dropLast = [wrL (l.I i 0) (l.R i 1) (l.R i 2)]
    rw [List.dropLast_concat, pieces_none 10 _ h10]
  | m + 1, i, h => by
    have h10 := wr_no10 (va_okln (show vaB (l.I i 0) (l.R i 1) (l.R i 2) = true from h i (Nat.le_refl _) (by omega)))
    have ih := pieces_teG l m (i + 1) fun e h1 h2 => h e (by omega) (by omega)
    have e : (teG l (m + 1 + 1) i).dropLast = wrL (l.I i 0) (l.R i 1) (l.R i 2) ++ 10 :: (teG l (m + 1) (i + 1)).dropLast := by
      show (wrL (l.I i 0) (l.R i 1) (l.R i 2) ++ 10 :: teG l (m + 1) (i + 1)).dropLast = _
      rw [List.dropLast_append_of_ne_nil (by simp), List.dropLast_cons_of_ne_nil (teG_ne l m (i + 1))]
    rw [e, pieces_app 10 _ _ h10, ih, List.range'_succ (n := m + 1), List.map_cons]
theorem teG_last (l : Row) : ∀ (m i : Nat), teG l (m + 1) i = (teG l (m + 1) i).dropLast ++ [10]
  | 0, i => by
    show wrL (l.I i 0) (l.R i 1) (l.R i 2) ++ [10] = (wrL (l.I i 0) (l.R i 1) (l.R i 2) ++ [10]).dropLast ++ [10]
    rw [List.dropLast_concat]
  | m + 1, i => by
    have ih := teG_last l m (i + 1)
    have e : (teG l (m + 1 + 1) i).dropLast = wrL (l.I i 0) (l.R i 1) (l.R i 2) ++ 10 :: (teG l (m + 1) (i + 1)).dropLast := by
      show (wrL (l.I i 0) (l.R i 1) (l.R i 2) ++ 10 :: teG l (m + 1) (i + 1)).dropLast = _
      rw [List.dropLast_append_of_ne_nil (by simp), List.dropLast_cons_of_ne_nil (teG_ne l m (i + 1))]
    rw [e]
    show wrL (l.I i 0) (l.R i 1) (l.R i 2) ++ 10 :: teG l (m + 1) (i + 1) = _
    conv => lhs; rw [ih]
    simp
theorem last_by {s : ByteArray} (h : 1 ≤ s.size) : lastB s = true ↔ by_ s = (by_ s).dropLast ++ [10] := by
  have hl : (by_ s).length = s.size := (size_by s).symm
  have hne : by_ s ≠ [] := fun he => by rw [he] at hl; simp at hl; omega
  have e := List.dropLast_concat_getLast hne
  unfold lastB
  rw [getD_by, beq_iff_eq]
  have g : (by_ s).getD (s.size - 1) 0 = (by_ s).getLast hne := by
    rw [List.getLast_eq_getElem, List.getD_eq_getElem?_getD, List.getElem?_eq_getElem (by omega), Option.getD_some]
    congr 1
  rw [g]
  constructor
  · intro h1
    rw [← h1]
    exact e.symm
  · intro h1
    have h2 := e.trans h1
    have := List.append_cancel_left h2
    simpa using this
theorem pqC_pieces {s : ByteArray} (h : 1 ≤ s.size) (h2 : s.size ≤ 1000000) : (strs (pqC s) (pqC s).n).map by_ = pieces 10 (by_ s).dropLast := by
  rw [(pqC_bound h h2).2]
  have h1 : (strs (cutR (s.extract 0 (s.size - 1)) 10) (cutR (s.extract 0 (s.size - 1)) 10).n).map by_ = pieces 10 (by_ (s.extract 0 (s.size - 1))) := cut_pieces (s.extract 0 (s.size - 1)) 10
  rw [h1, by_extract0, List.dropLast_eq_take, size_by]
theorem pqL_q (s : ByteArray) : pqL s = qL (pqC s) := rfl
theorem q_lines {t l : Row} (hva : ∀ i, i < l.n → vaL l i = true) (hcn : t.n = l.n) (hcS : ∀ e, e < l.n → t.S e 0 = txt (wrL (l.I e 0) (l.R e 1) (l.R e 2))) : (qR t).1 = false ∧ saL (qL t) l := by
  obtain ⟨h3, h4, h5, h6, h7⟩ := q_inv t
  have hr : (qR t).1 = false := by
    cases hc : (qR t).1
    · rfl
    · exfalso
      obtain ⟨g1, g2⟩ := h5 hc
      rw [hcn] at g2
      unfold stQ at g1
      rw [hcS _ g2, (rq_valid (show vaB (l.I (qR t).2.1 0) (l.R (qR t).2.1 1) (l.R (qR t).2.1 2) = true from hva _ g2)).2.2] at g1
      cases g1
  have hn : (qL t).n = l.n := by show (qR t).2.2.n = l.n; rw [h3, h6 hr, hcn]
  refine ⟨hr, hn, fun i hi => ?_⟩
  have hi' : i < l.n := by omega
  obtain ⟨g1, g2, g3, g4⟩ := h7 i (by rw [h6 hr, hcn]; exact hi')
  rw [hcS i hi'] at g1 g2 g3 g4
  obtain ⟨r1, r2, r3⟩ := rq_valid (show vaB (l.I i 0) (l.R i 1) (l.R i 2) = true from hva i hi')
  show (qR t).2.2.I i 0 = _ ∧ (((qR t).2.2.R i 1).n = _ ∧ ∀ x, x < ((qR t).2.2.R i 1).n → ((qR t).2.2.R i 1).S x 0 = _) ∧ (((qR t).2.2.R i 2).n = _ ∧ ∀ x, x < ((qR t).2.2.R i 2).n → ((qR t).2.2.R i 2).I x 0 = _)
  rw [g2, g3, g4, r1]
  exact ⟨rfl, ⟨r2.a, r2.b⟩, r2.c, r2.d⟩
theorem q_back {t : Row} (hr : (qR t).1 = false) : (qL t).n = t.n ∧ ∀ i, i < t.n → by_ (t.S i 0) = wrL ((qL t).I i 0) ((qL t).R i 1) ((qL t).R i 2) := by
  obtain ⟨h3, h4, h5, h6, h7⟩ := q_inv t
  refine ⟨by show (qR t).2.2.n = _; rw [h3, h6 hr], fun i hi => ?_⟩
  obtain ⟨g1, g2, g3, g4⟩ := h7 i (by rw [h6 hr]; exact hi)
  show by_ (t.S i 0) = wrL ((qR t).2.2.I i 0) ((qR t).2.2.R i 1) ((qR t).2.2.R i 2)
  rw [g2, g3, g4]
  have := congrArg by_ (rq_back g1).2
  rw [by_txt] at this
  exact this.symm
/-- The lines of a text of valid lines, by the reference. -/
theorem pq_lines {s : ByteArray} {l : Row} (hva : ∀ i, i < l.n → vaL l i = true) (hn : 0 < l.n) (hs : by_ s = teL l l.n) (h : 1 ≤ s.size) (h2 : s.size ≤ 1000000) : lastB s = true ∧ (pqR s).1 = false ∧ saL (pqL s) l := by
  obtain ⟨m, hm⟩ : ∃ m, l.n = m + 1 := ⟨l.n - 1, by omega⟩
  have hs' : by_ s = teG l (m + 1) 0 := by rw [hs, teL_G, hm]
  have hp := pqC_pieces h h2
  rw [hs', pieces_teG l m 0 fun e _ he => hva e (by omega)] at hp
  rw [pqR_q, pqL_q]
  generalize pqC s = t at hp ⊢
  have hcn : t.n = l.n := by
    have := congrArg List.length hp
    rw [List.length_map, strs_len, List.length_map, List.length_range'] at this
    omega
  have hcS : ∀ e, e < l.n → t.S e 0 = txt (wrL (l.I e 0) (l.R e 1) (l.R e 2)) := fun e he => by
    have := congrArg (fun x => x[e]?) hp
    simp only [List.getElem?_map] at this
    rw [show (strs t t.n)[e]? = some (t.S e 0) by simp [strs, hcn, he], List.getElem?_range' (by omega)] at this
    simp at this
    refine by_inj ?_
    rw [by_txt]
    exact this
  refine ⟨(last_by h).2 ?_, q_lines hva hcn hcS⟩
  rw [hs']; exact teG_last l m 0
/-- What the reference parses is the text of what comes of it. -/
theorem pq_back {s : ByteArray} (h : 1 ≤ s.size) (h2 : s.size ≤ 1000000) (hl : lastB s = true) (hr : (pqR s).1 = false) : by_ s = teL (pqL s) (pqL s).n := by
  have hp := pqC_pieces h h2
  rw [pqR_q] at hr
  rw [pqL_q]
  generalize pqC s = t at hp hr ⊢
  obtain ⟨hn, hw⟩ := q_back hr
  have hpos : 0 < t.n := by
    have := congrArg List.length hp
    rw [List.length_map, strs_len] at this
    have h8 := pieces_ne 10 (by_ s).dropLast
    cases hc : pieces 10 (by_ s).dropLast with
    | nil => exact absurd hc h8
    | cons a b => rw [hc] at this; simp at this; omega
  obtain ⟨m, hm⟩ : ∃ m, (qL t).n = m + 1 := ⟨(qL t).n - 1, by omega⟩
  have hq := pieces_teG (qL t) m 0 fun e _ he => qL_va t e (by omega)
  have e : pieces 10 (by_ s).dropLast = pieces 10 (teG (qL t) (m + 1) 0).dropLast := by
    rw [← hp, hq]
    have hle : (strs t t.n).map by_ = (List.range t.n).map fun i => by_ (t.S i 0) := by unfold strs; rw [List.map_map]; rfl
    rw [hle, ← hn, hm, ← List.range_eq_range']
    refine List.map_congr_left fun i hi => ?_
    have hi : i < m + 1 := List.mem_range.1 hi
    exact hw i (by omega)
  have e2 := pieces_inj 10 _ _ e
  rw [(last_by h).1 hl, e2, ← teG_last, hm, teL_G]
theorem saL.symm' {a b : Row} (h : saL a b) : saL b a := ⟨h.1.symm, fun i hi => (h.2 i (by rw [h.1]; exact hi)).symm⟩
theorem saL.refl' (a : Row) : saL a a := ⟨rfl, fun i hi => lnE.rfl'⟩
/-- Both ways of parsing give the same. -/
theorem parses {s : ByteArray} (h2 : s.size ≤ 1000000) : paE s = pqE s ∧ saL (paO s) (pqO s) := by
  unfold paE pqE paO pqO
  by_cases h1 : 20000 < s.size
  · rw [decide_eq_true h1]
    simp only [cond_true, Bool.true_or, true_and]
    exact saL.refl' _
  · rw [decide_eq_false h1]
    by_cases h0 : s.size = 0
    · rw [beq_iff_eq.2 h0]
      have hb : by_ s = [] := List.eq_nil_of_length_eq_zero (by rw [← size_by]; exact h0)
      have hR : paR s = (false, 0, s, .nil) := by unfold paR; rw [lnN_nil hb]; rfl
      have hL : paL s = winOf .nil 0 0 := by unfold paL; rw [hR]; rfl
      have hz : naE (paL s) = 0 := by rw [hL]; rfl
      rw [hz, hR, hL]
      simp only [cond_true, cond_false, Bool.true_or, Bool.false_or, bne_self_eq_false, true_and]
      refine ⟨rfl, fun i hi => ?_⟩
      exact absurd hi (Nat.not_lt_zero i)
    · rw [beq_eq_false_iff_ne.2 h0]
      have hs : 1 ≤ s.size := by omega
      -- the program accepts
      cases hp : (paR s).1
      · have ht := pa_back hp
        have hva := paL_va s
        have hn : 0 < (paL s).n := by
          rcases Nat.eq_zero_or_pos (paL s).n with h9 | h9
          · rw [h9] at ht
            have := congrArg List.length ht
            rw [← size_by] at this
            exact absurd this.symm h0
          · exact h9
        obtain ⟨g1, g2, g3⟩ := pq_lines hva hn ht.symm hs h2
        rw [g1, g2]
        have hna := (na_congr g3).1
        rw [hna]
        have g4 := g3.symm'
        clear g1 g2 g3 hva hn ht hna
        generalize paL s = A at *
        generalize pqL s = B at *
        refine ⟨rfl, ?_⟩
        cases hz : naE A != 0
        · exact g4
        · exact saL.refl' _
      · -- it does not: neither does the reference
        have key : (!lastB s || (pqR s).1) = true := by
          cases hl : lastB s
          · rfl
          · cases hq : (pqR s).1
            · exfalso
              have ht := pq_back hs h2 hl hq
              have h3 := (pa_lines (l := pqL s) (pqL_va s)).1
              rw [← ht, txt_by, hp] at h3
              cases h3
            · rfl
        generalize lastB s = b1 at *
        generalize (pqR s).1 = b2 at *
        generalize pqL s = B
        generalize paL s = A
        cases b1
        · exact ⟨rfl, saL.refl' _⟩
        · have key : b2 = true := key
          subst key
          exact ⟨rfl, saL.refl' _⟩
end Go.Proofs.YtopdfmhlgkbaaaaDoor

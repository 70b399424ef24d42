/- The reference's Parse: its contract, and what it reads. No conditions. -/
import Derived.Test.YtopdfmhlgkbaaaaDoorT43
namespace Go.Proofs.YtopdfmhlgkbaaaaDoor
open Go.Ev Go.RowKit Go.Lib Go.Dec
set_option linter.all false
theorem cutR_size (s : ByteArray) (k : UInt8) : (cutR s (k.toNat : Int)).n ≤ s.size + 1 ∧ ∀ i, i < (cutR s (k.toNat : Int)).n → ((cutR s (k.toNat : Int)).S i 0).size ≤ s.size := by
  have h1 : strs (cutR s (k.toNat : Int)) (cutR s (k.toNat : Int)).n = splS s ⟨#[k]⟩ := by
    have h1 := cut_pieces s k
    have h2 : (splS s ⟨#[k]⟩).map by_ = pieces k (by_ s) := splS_pieces k _ _ (Nat.le_refl _)
    exact (List.map_inj_right (fun a b hab => by_inj hab)).1 (h1.trans h2.symm)
  have hp : ∀ l : List UInt8, (pieces k l).length ≤ l.length + 1 ∧ ∀ p ∈ pieces k l, p.length ≤ l.length := by
    intro l
    induction l with
    | nil => simp [pieces]
    | cons c r ih =>
      unfold pieces
      split
      · refine ⟨by simp; exact ih.1, fun p hp => ?_⟩
        rcases List.mem_cons.1 hp with rfl | hp
        · simp
        · have := ih.2 p hp; simp; omega
      · split
        · refine ⟨by simp, fun p hp => ?_⟩
          simp at hp; subst hp; simp
        · rename_i q qs hq
          rw [hq] at ih
          refine ⟨by have := ih.1; simp at this ⊢; omega, fun p hp => ?_⟩
          rcases List.mem_cons.1 hp with rfl | hp
          · have := ih.2 q (by simp); simp; omega
          · have := ih.2 p (by simp [hp]); simp; omega
  have h3 := cut_pieces s k
  obtain ⟨g1, g2⟩ := hp (by_ s)
  rw [← h3] at g1 g2
  rw [List.length_map, strs_len, ← size_by] at g1
  refine ⟨g1, fun i hi => ?_⟩
  have := g2 _ (List.mem_map_of_mem (strs_mem hi))
  rw [← size_by, ← size_by] at this
  exact this
set_option maxRecDepth 100000 in
theorem okP : LoopOk CPx lP.C := lP.ok (fun x j o => o.n = j) (by kernel_rfl)
  (fun its x h hc => by
    replace h : dP its = some x := h
    unfold dP at h
    split at h
    · rename_i n m i o t
      cases h
      obtain ⟨⟨h1, h2, h3, h4⟩, h5⟩ := cP_iff.1 hc
      dsimp only at h1 h2 h3
      subst h1 h3
      show Go.Ev.bst lP.p [It.n 0, It.n m, It.i 0, It.r o, It.r t] = Go.Ev.bst lP.p [It.n o.n, It.n m, It.i 0, It.r o, It.r t]
      rw [h2]
    · cases h)
  (fun x hc => by have := (cP_iff.1 hc).1.2.2.2; show x.m < 18446744073709551616; omega)
  (fun x hc => (cP_iff.1 hc).1.2.1)
  (fun x j o hc hj hI hs => by show o.n + 1 = j + 1; rw [hI])
  (fun q ⟨n, m, i0, o0, t⟩ j o hc hj hI R K => by
    obtain ⟨⟨h1, h2, h3, h4⟩, h5⟩ := cP_iff.1 hc
    dsimp only at h1 h2 h3 h4 h5
    replace hj : j < m := hj
    replace hI : o.n = j := hI
    refine (rP R K q o.n m j o t).trans ?_
    rw [Int.toNat_natCast, Nat.zero_add j, gd j m hj, ltd j m hj, wsn (j := j) (by omega), decide_eq_true (h5 j hj), decide_eq_true (show o.n + 1 ≤ 10000000000 by omega)]
    show br true (br true (br true (br (!rqB (t.S j 0)) _ (br true _ none)) none) none) _ = br (!rqB (t.S j 0)) _ _
    cases rqB (t.S j 0) <;> rfl)
  (fun q ⟨n, m, i0, o0, t⟩ o hc hI R K => by
    refine (rP R K q o.n m (m : Int) o t).trans ?_
    rw [ltn m]
    rfl)
theorem CPx_ok : CxW CPx Wd := mkCx_okW enter mixed (fun p h => by
  simp only [List.mem_cons, List.not_mem_nil, or_false] at h
  rcases h with rfl | rfl | rfl
  · exact den_cutR.at _
  · exact den_Read
  · exact den_Check.at _) (fun l h => by
  simp only [List.mem_cons, List.not_mem_nil, or_false] at h
  subst h
  exact okP)
def lastB (s : ByteArray) : Bool := s.data.getD (s.size - 1) 0 == 10
def pqE (s : ByteArray) : Int := bif decide (20000 < s.size) then 4 else bif s.size == 0 then 0 else bif !lastB s then 12 else bif (pqR s).1 then 12 else naE (pqL s)
def pqO (s : ByteArray) : Row := bif decide (20000 < s.size) || (s.size == 0 || (!lastB s || ((pqR s).1 || naE (pqL s) != 0))) then .nil else pqL s
structure LnQ (t o : Row) (e : Nat) : Prop where
  ok : rqB (t.S e 0) = true
  w : o.I e 0 = rqW (t.S e 0)
  a : o.R e 1 = winOf (rqN (t.S e 0)) 0 (rqN (t.S e 0)).n
  b : o.R e 2 = winOf (rqU (t.S e 0)) 0 (rqU (t.S e 0)).n
structure InvQ (t : Row) (j : Nat) (o : Row) : Prop where
  n : o.n = j
  le : j ≤ t.n
  ln : ∀ e, e < j → LnQ t o e
theorem InvQ.nx {t : Row} {j : Nat} {o : Row} (hj : j < t.n) (h : InvQ t j o) (hs : stQ t j o = false) : InvQ t (j + 1) (nxQ t j o) := by
  have h1 := h.n
  refine ⟨by show o.n + 1 = _; rw [h1], hj, fun e he => ?_⟩
  by_cases hej : e < j
  · obtain ⟨g1, g2⟩ := pl_lo o (lnQ (t.S j 0)) (i := e) (by omega)
    have h3 := h.ln e hej
    refine ⟨h3.ok, ?_, ?_, ?_⟩
    · show (pushL o (lnQ (t.S j 0))).I e 0 = _
      rw [g1]; exact h3.w
    · show (pushL o (lnQ (t.S j 0))).R e 1 = _
      rw [g2]; exact h3.a
    · show (pushL o (lnQ (t.S j 0))).R e 2 = _
      rw [g2]; exact h3.b
  · have : e = j := by omega
    subst this
    obtain ⟨g1, g2, g3⟩ := pl_hi o (rqW (t.S e 0)) (winOf (rqN (t.S e 0)) 0 (rqN (t.S e 0)).n) (winOf (rqU (t.S e 0)) 0 (rqU (t.S e 0)).n)
    rw [h1] at g1 g2 g3
    refine ⟨?_, g1, g2, g3⟩
    unfold stQ at hs
    simpa using hs
def qR (t : Row) : Bool × Nat × Row := runS (stQ t) (nxQ t) t.n 0 .nil
theorem q_run (t : Row) : InvQ t (qR t).2.1 (qR t).2.2 ∧ ((qR t).1 = true → (qR t).2.1 < t.n ∧ stQ t (qR t).2.1 (qR t).2.2 = true) ∧ ((qR t).1 = false → (qR t).2.1 = t.n) :=
  runS_inv (Inv := InvQ t) (len := t.n) (fun j a hj hI hs => hI.nx hj hs) (m := t.n) (j := 0) (a := .nil) (Nat.zero_add _) ⟨rfl, Nat.zero_le _, fun e he => absurd he (Nat.not_lt_zero e)⟩
theorem q_inv (t : Row) : (qR t).2.2.n = (qR t).2.1 ∧ (qR t).2.1 ≤ t.n ∧ ((qR t).1 = true → stQ t (qR t).2.1 (qR t).2.2 = true ∧ (qR t).2.1 < t.n) ∧ ((qR t).1 = false → (qR t).2.1 = t.n) ∧
    ∀ e, e < (qR t).2.1 → LnQ t (qR t).2.2 e := by
  obtain ⟨h, h4, h5⟩ := q_run t
  exact ⟨h.n, h.le, fun ht => ⟨(h4 ht).2, (h4 ht).1⟩, h5, h.ln⟩
theorem pqR_q (s : ByteArray) : pqR s = qR (pqC s) := rfl
theorem pq_inv (s : ByteArray) : (pqR s).2.2.n = (pqR s).2.1 ∧ (pqR s).2.1 ≤ (pqC s).n ∧ ((pqR s).1 = true → stQ (pqC s) (pqR s).2.1 (pqR s).2.2 = true ∧ (pqR s).2.1 < (pqC s).n) ∧ ((pqR s).1 = false → (pqR s).2.1 = (pqC s).n) ∧
    ∀ e, e < (pqR s).2.1 → LnQ (pqC s) (pqR s).2.2 e := by
  rw [pqR_q]
  exact q_inv (pqC s)
theorem rqL_va {s : ByteArray} (h : rqB s = true) : vaB (rqW s) (winOf (rqN s) 0 (rqN s).n) (winOf (rqU s) 0 (rqU s).n) = true := (rq_back h).1
def qL (t : Row) : Row := winOf (qR t).2.2 0 (qR t).2.2.n
theorem qL_va (t : Row) : ∀ i, i < (qL t).n → vaL (qL t) i = true := fun i hi => by
  obtain ⟨h1, h2, h3, h4, h5⟩ := q_inv t
  obtain ⟨g1, g2, g3, g4⟩ := h5 i (by rw [← h1]; exact hi)
  show vaB ((qR t).2.2.I i 0) ((qR t).2.2.R i 1) ((qR t).2.2.R i 2) = true
  rw [g2, g3, g4]
  exact rqL_va g1
theorem pqL_va (s : ByteArray) : ∀ i, i < (pqL s).n → vaL (pqL s) i = true := by
  rw [show pqL s = qL (pqC s) from rfl]
  exact qL_va (pqC s)
theorem pqC_bound {s : ByteArray} (h : 1 ≤ s.size) (h2 : s.size ≤ 1000000) : (s.extract 0 (IntKind.i64.wrap ((s.size : Int) - 1)).toNat).size = s.size - 1 ∧ pqC s = cutR (s.extract 0 (s.size - 1)) 10 := by
  have e : (IntKind.i64.wrap ((s.size : Int) - 1)).toNat = s.size - 1 := by rw [wrap64 (by omega) (by omega)]; omega
  unfold pqC
  rw [e]
  refine ⟨?_, rfl⟩
  rw [size_by, by_extract0, List.length_take, ← size_by]
  omega
theorem pqL_ok {s : ByteArray} (h : 1 ≤ s.size) (h2 : s.size ≤ 1000000) : okL (pqL s) = true := by
  obtain ⟨h1, h3, _, _, _⟩ := pq_inv s
  refine okL_iff.2 ⟨?_, fun i hi => vaL_lnB (pqL_va s i hi)⟩
  show (pqR s).2.2.n ≤ _
  obtain ⟨b1, b2⟩ := pqC_bound h h2
  have b3 := (cutR_size (s.extract 0 (s.size - 1)) 10).1
  have b4 : (pqC s).n ≤ (s.extract 0 (s.size - 1)).size + 1 := by rw [b2]; exact b3
  have b5 : (s.extract 0 (s.size - 1)).size = s.size - 1 := by rw [size_by, by_extract0, List.length_take, ← size_by]; omega
  omega
theorem den_Parseq : DenW Tryd.prog Wd 12 (Fpq pcB pqO pqE) := evF_denW CPx_ok fun ds rs h => by
  unfold Fpq at h
  split at h
  · rename_i s
    simp only [Option.some.injEq, Prod.mk.injEq] at h
    obtain ⟨h0, rfl⟩ := h
    have h0 : s.size ≤ 1000000 := of_decide_eq_true h0
    refine (uP s).trans ?_
    unfold pqE pqO
    by_cases h1 : 20000 < s.size
    · rw [decide_eq_true (show (s.size : Int) > 20000 by omega), decide_eq_true h1]
      rfl
    · rw [decide_eq_false (show ¬ (s.size : Int) > 20000 by omega), decide_eq_false h1]
      by_cases h2 : s.size = 0
      · rw [beq_iff_eq.2 (show (s.size : Int) = 0 by omega), beq_iff_eq.2 h2]
        rfl
      · rw [beq_eq_false_iff_ne.2 (show (s.size : Int) ≠ 0 by omega), beq_eq_false_iff_ne.2 h2]
        obtain ⟨b1, b2⟩ := pqC_bound (s := s) (by omega) h0
        have b3 := cutR_size (s.extract 0 (s.size - 1)) 10
        have b5 : (s.extract 0 (s.size - 1)).size = s.size - 1 := by rw [size_by, by_extract0, List.length_take, ← size_by]; omega
        have b6 : (pqC s).n ≤ 1000000 ∧ ∀ i, i < (pqC s).n → ((pqC s).S i 0).size ≤ 1000000 := by
          rw [b2]
          have c1 : (cutR (s.extract 0 (s.size - 1)) 10).n ≤ (s.extract 0 (s.size - 1)).size + 1 := b3.1
          have c2 : ∀ i, i < (cutR (s.extract 0 (s.size - 1)) 10).n → ((cutR (s.extract 0 (s.size - 1)) 10).S i 0).size ≤ (s.extract 0 (s.size - 1)).size := b3.2
          exact ⟨by omega, fun i hi => by have := c2 i hi; omega⟩
        have e : IntKind.i64.wrap ((s.size : Int) - 1) = ((s.size - 1 : Nat) : Int) := by rw [wrap64 (by omega) (by omega)]; omega
        have hl : ((((s.data.getD (IntKind.i64.wrap ((s.size : Int) - 1)).toNat 0).toNat : Nat) : Int) != 10) = !lastB s := by
          rw [e, Int.toNat_natCast]
          unfold lastB
          by_cases hc : s.data.getD (s.size - 1) 0 = 10
          · rw [hc]; rfl
          · rw [beq_eq_false_iff_ne.2 hc]
            refine bne_iff_ne.2 fun hh => hc ?_
            have : (s.data.getD (s.size - 1) 0).toNat = (10 : UInt8).toNat := by show _ = 10; omega
            exact UInt8.toNat_inj.1 this
        have hcP : cP ⟨0, (pqC s).n, 0, .nil, pqC s⟩ = true := (cP_iff (x := ⟨0, (pqC s).n, 0, .nil, pqC s⟩)).2 ⟨⟨rfl, rfl, rfl, b6.1⟩, b6.2⟩
        rw [hl, decide_eq_true (show (s.extract 0 (IntKind.i64.wrap ((s.size : Int) - 1)).toNat).size ≤ 1000000 by omega), hcP, e, decide_eq_true (show (0 : Int) ≤ ((s.size - 1 : Nat) : Int) by omega), decide_eq_true (show ((s.size - 1 : Nat) : Int) < (s.size : Int) by omega), decide_eq_true (show ((s.size - 1 : Nat) : Int) ≤ (s.size : Int) by omega), pqL_ok (s := s) (by omega) h0, Bool.or_true]
        generalize lastB s = b1
        generalize (pqR s).1 = b2
        generalize pqL s = L
        cases b1
        · rfl
        · cases b2
          · cases hn : naE L != 0
            · have : naE L = 0 := by simpa using hn
              rw [this]; rfl
            · rfl
          · rfl
  · cases h
end Go.Proofs.YtopdfmhlgkbaaaaDoor

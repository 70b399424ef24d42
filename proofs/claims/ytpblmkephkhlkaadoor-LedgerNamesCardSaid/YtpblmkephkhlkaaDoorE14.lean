/- Payments as lists: what balances come to. No conditions. -/
import Derived.Test.YtpblmkephkhlkaaDoorE13
namespace Go.Proofs.YtpblmkephkhlkaaDoor
open Go.Ev
set_option linter.all false
abbrev Pt := Int × Int × Int
def ptAt (r : Row) (i : Nat) : Pt := (r.I i 0, r.I i 1, r.I i 2)
def pl (r : Row) : List Pt := (List.range r.n).map (ptAt r)
def dl (x : Pt) (p : Int) : Int := (if x.2.1 = p then x.2.2 else 0) - (if x.1 = p then x.2.2 else 0)
def bl : List Pt → Int → Int
  | [], _ => 0
  | x :: xs, p => dl x p + bl xs p
def okP (n : Int) (x : Pt) : Prop := (0 ≤ x.1 ∧ x.1 < n) ∧ (0 ≤ x.2.1 ∧ x.2.1 < n) ∧ x.1 ≠ x.2.1 ∧ 1 ≤ x.2.2 ∧ x.2.2 ≤ 1000000000
def sw (x : Pt) : Pt := (x.2.1, x.1, x.2.2)
theorem bl_app (p : Int) : ∀ xs ys : List Pt, bl (xs ++ ys) p = bl xs p + bl ys p
  | [], ys => by simp [bl]
  | x :: xs, ys => by simp only [List.cons_append, bl, bl_app p xs ys]; omega
theorem bl_sw (p : Int) : ∀ xs : List Pt, bl (xs.map sw) p = -bl xs p
  | [] => rfl
  | x :: xs => by
    simp only [List.map_cons, bl, bl_sw p xs, dl, sw]
    omega
theorem bl_rev (p : Int) : ∀ xs : List Pt, bl xs.reverse p = bl xs p
  | [] => rfl
  | x :: xs => by
    rw [List.reverse_cons, bl_app, bl_rev p xs]
    simp only [bl]
    omega
theorem okP_sw {n : Int} {x : Pt} (h : okP n x) : okP n (sw x) := by
  obtain ⟨h1, h2, h3, h4⟩ := h
  exact ⟨h2, h1, fun e => h3 e.symm, h4⟩
theorem bad_iff (n : Int) (r : Row) (i : Nat) : Lg.bad n r i = false ↔ okP n (ptAt r i) := by
  unfold Lg.bad Lg.isB okP ptAt
  simp only [Bool.or_eq_false_iff, Bool.not_eq_false', Bool.and_eq_true, decide_eq_true_eq, decide_eq_false_iff_not, beq_eq_false_iff_ne]
  omega
theorem chk_iff (n : Int) (r : Row) : Lg.chk n r = 0 ↔ (1 ≤ n ∧ n ≤ 10) ∧ r.n ≤ 200 ∧ ∀ x ∈ pl r, okP n x := by
  unfold Lg.chk Lg.partiesB
  have h1 : (∀ x ∈ pl r, okP n x) ↔ anyF (Lg.bad n r) r.n 0 = false := by
    rw [anyF_false]
    constructor
    · intro h i _ hi
      rw [bad_iff]
      exact h _ (List.mem_map_of_mem (List.mem_range.mpr (by omega)))
    · intro h x hx
      obtain ⟨i, hi, rfl⟩ := List.mem_map.mp hx
      rw [← bad_iff]
      exact h i (by omega) (by have := List.mem_range.mp hi; omega)
  rw [h1]
  by_cases hn : 1 ≤ n ∧ n ≤ 10
  · rw [show (decide (n ≥ 1) && decide (n ≤ 10)) = true by simp only [Bool.and_eq_true, decide_eq_true_eq]; omega, cond_true]
    by_cases hr : r.n ≤ 200
    · rw [decide_eq_false (show ¬ (r.n : Int) > 200 by omega), cond_false]
      cases anyF (Lg.bad n r) r.n 0
      · exact ⟨fun _ => ⟨hn, hr, rfl⟩, fun _ => rfl⟩
      · exact ⟨fun h => (by cases h), fun h => (by cases h.2.2)⟩
    · rw [decide_eq_true (show (r.n : Int) > 200 by omega), cond_true]
      exact ⟨fun h => (by cases h), fun h => absurd h.2.1 hr⟩
  · rw [show (decide (n ≥ 1) && decide (n ≤ 10)) = false by
      rw [Bool.and_eq_false_iff, decide_eq_false_iff_not, decide_eq_false_iff_not]; omega, cond_false]
    exact ⟨fun h => (by cases h), fun h => absurd h.1 hn⟩
theorem setI0 (r : Row) (e : Nat) (x : Int) (p : Nat) : (r.setI e 0 x).I p 0 = if p = e then x else r.I p 0 := by
  show (bif Nat.beq p e && Nat.beq 0 0 then x else r.I p 0) = _
  by_cases h : p = e
  · subst h
    rw [if_pos rfl, Nat.beq_refl]
    rfl
  · rw [if_neg h]
    have : Nat.beq p e = false := by
      cases hx : Nat.beq p e
      · rfl
      · exact absurd (Nat.eq_of_beq_eq_true hx) h
    rw [this]
    rfl
theorem book_I {n : Int} {r o : Row} {j : Nat} {B : Int} (h : okP n (ptAt r j)) (hB : B ≤ 1000000000000000) (ho : ∀ p, -B ≤ o.I p 0 ∧ o.I p 0 ≤ B) (p : Nat) : (Lg.book r j o).I p 0 = o.I p 0 + dl (ptAt r j) p := by
  obtain ⟨⟨f0, f1⟩, ⟨t0, t1⟩, hne, c0, c1⟩ := h
  unfold ptAt at *
  dsimp only at *
  unfold Lg.book Lg.book1
  simp only [Nat.zero_add, setI0, dl, ptAt]
  generalize r.I j 0 = f at *
  generalize r.I j 1 = t at *
  generalize r.I j 2 = c at *
  have hp := ho p
  have hf := ho f.toNat
  have ht := ho t.toNat
  obtain ⟨f, rfl⟩ := Int.eq_ofNat_of_zero_le f0
  obtain ⟨t, rfl⟩ := Int.eq_ofNat_of_zero_le t0
  rw [Int.toNat_natCast] at hf ht
  simp only [Int.toNat_natCast, Nat.zero_add]
  rw [show IntKind.i64.wrap (o.I f 0 - c) = o.I f 0 - c from wrap64 (by omega) (by omega), if_neg (show ¬ t = f by omega), show IntKind.i64.wrap (o.I t 0 + c) = o.I t 0 + c from wrap64 (by omega) (by omega)]
  by_cases h1 : p = t
  · subst h1
    rw [if_pos rfl, if_pos rfl, if_neg (by omega)]
    omega
  · rw [if_neg h1, if_neg (show ¬ (t : Int) = (p : Int) by omega)]
    by_cases h2 : p = f
    · subst h2
      rw [if_pos rfl, if_pos rfl]
      omega
    · rw [if_neg h2, if_neg (show ¬ (f : Int) = (p : Int) by omega)]
      omega
theorem dl_range {n : Int} {x : Pt} (h : okP n x) (p : Int) : -1000000000 ≤ dl x p ∧ dl x p ≤ 1000000000 := by
  obtain ⟨_, _, hne, c0, c1⟩ := h
  unfold dl
  split <;> split <;> omega
theorem books_I {n : Int} {r : Row} : ∀ (m j : Nat) (o : Row) (B : Int), (∀ i, j ≤ i → i < j + m → okP n (ptAt r i)) → B + m * 1000000000 ≤ 1000000000000000 → (∀ p, -B ≤ o.I p 0 ∧ o.I p 0 ≤ B) → ∀ p : Nat, (Lg.books r m j o).I p 0 = o.I p 0 + bl ((List.range' j m).map (ptAt r)) p
  | 0, j, o, B, _, _, _, p => by simp [Lg.books, bl]
  | m + 1, j, o, B, h, hB, ho, p => by
    have hj := h j (Nat.le_refl _) (by omega)
    have hs := book_I (r := r) (o := o) (j := j) hj (by omega) ho
    unfold Lg.books
    rw [books_I m (j + 1) _ (B + 1000000000) (fun i h1 h2 => h i (by omega) (by omega)) (by omega) (fun q => by
      rw [hs q]
      have := ho q
      have := dl_range hj q
      omega) p, hs p, List.range'_succ]
    simp only [List.map_cons, bl]
    omega
theorem bal_I {n : Int} {r : Row} (h : Lg.chk n r = 0) : (Lg.bal n r).n = n.toNat ∧ ∀ p : Nat, (Lg.bal n r).I p 0 = bl (pl r) p := by
  obtain ⟨_, h2, h3⟩ := (chk_iff n r).mp h
  unfold Lg.bal
  rw [h, show ((0 : Int) != 0) = false from rfl, cond_false]
  refine ⟨rfl, fun p => ?_⟩
  rw [show (winOf (Lg.books r r.n 0 (Row.zeros n.toNat)) 0 n.toNat).I p 0 = (Lg.books r r.n 0 (Row.zeros n.toNat)).I p 0 from rfl, books_I (n := n) r.n 0 _ 0 (fun i _ hi => h3 _ (List.mem_map_of_mem (List.mem_range.mpr (by omega)))) (by omega) (fun p => by
    show (0 : Int) ≤ 0 ∧ (0 : Int) ≤ 0
    omega) p]
  rw [show (Row.zeros n.toNat).I p 0 = 0 from rfl, Int.zero_add, ← List.range_eq_range']
  rfl
theorem pl_win (r : Row) (k : Nat) : pl (winOf r 0 k) = (List.range k).map (ptAt r) := rfl
theorem pl_app (r s : Row) : pl (winOf (r.app s) 0 (r.n + s.n)) = pl r ++ pl s := by
  rw [pl_win, List.range_add, List.map_append, List.map_map]
  congr 1
  · refine List.map_congr_left fun i hi => ?_
    have hi := List.mem_range.mp hi
    have hb : Nat.blt i r.n = true := by rw [Nat.blt_eq]; exact hi
    unfold ptAt
    simp only [show ∀ q, (r.app s).I i q = r.I i q from fun q => by show (bif Nat.blt i r.n then r.I i q else s.I (i - r.n) q) = _; rw [hb, cond_true]]
  · refine List.map_congr_left fun i hi => ?_
    have hb : Nat.blt (r.n + i) r.n = false := by
      cases hx : Nat.blt (r.n + i) r.n
      · rfl
      · rw [Nat.blt_eq] at hx; omega
    show ptAt (r.app s) (r.n + i) = ptAt s i
    unfold ptAt
    simp only [show ∀ q, (r.app s).I (r.n + i) q = s.I i q from fun q => by show (bif Nat.blt (r.n + i) r.n then r.I (r.n + i) q else s.I (r.n + i - r.n) q) = _; rw [hb, cond_false, show r.n + i - r.n = i by omega]]
theorem pl_pk (l : Row) (i : Nat) : pl (pk1 l i) = [sw (ptAt l i)] := rfl
theorem bkR_pl (l : Row) : ∀ (m k : Nat) (bk : Row), bk.n = k → pl (winOf (bkR l m k bk) 0 (k + m)) = pl (winOf bk 0 k) ++ ((List.range m).reverse.map fun i => sw (ptAt l i))
  | 0, k, bk, h => by simp [bkR]
  | m + 1, k, bk, h => by
    unfold bkR
    rw [show k + (m + 1) = (k + 1) + m by omega, bkR_pl l m (k + 1) _ rfl]
    have h1 : pl (winOf ((winOf bk 0 k).app (pk1 l m)) 0 (k + 1)) = pl (winOf bk 0 k) ++ pl (pk1 l m) := pl_app (winOf bk 0 k) (pk1 l m)
    rw [h1, pl_pk, List.range_succ, List.reverse_append, List.append_assoc]
    rfl
theorem backR_pl (l : Row) (L : Nat) (h : 0 < L) : pl (winOf (backR l L) 0 L) = ((List.range L).map (ptAt l)).reverse.map sw := by
  unfold backR
  obtain ⟨k, rfl⟩ : ∃ k, L = k + 1 := ⟨L - 1, by omega⟩
  have := bkR_pl l k 1 (Row.nil.app (pk1 l k)) rfl
  rw [show k + 1 = 1 + k by omega, show 1 + k - 1 = k by omega, this]
  have h1 : pl (winOf (Row.nil.app (pk1 l k)) 0 1) = [sw (ptAt l k)] := pl_app Row.nil (pk1 l k)
  rw [h1, show 1 + k = k + 1 by omega, List.range_succ, List.map_append, List.reverse_append, List.map_append]
  simp [Function.comp_def]
end Go.Proofs.YtpblmkephkhlkaaDoor

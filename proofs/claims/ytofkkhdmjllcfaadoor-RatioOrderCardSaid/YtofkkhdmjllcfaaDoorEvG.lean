/- Stores and appends keep the relation. No conditions. -/
import Derived.Test.YtofkkhdmjllcfaaDoorEvF
import Derived.Laws.IdiomCopy
import Derived.Deep.AppendSrc
namespace Go.Ev
open Go.RowKit
section
variable {P : Program} {mem mem' : List (Option Blk)} {ρ ρ' : Map} {B : Nat} {w w' : World}

theorem setCells_block {b : Nat} {T : TypeId} : ∀ (vs : List Value) (o : Nat) (w : World) (c : Array Value), w.heap[b]? = some (.cells c T (0, 0)) → o + vs.length ≤ c.size →
    ∃ c', (w.setCells b o vs).heap[b]? = some (.cells c' T (0, 0)) ∧ c'.size = c.size ∧ (∀ i, c'[i]? = if o ≤ i ∧ i < o + vs.length then vs[i - o]? else c[i]?) ∧ (∀ k, k ≠ b → (w.setCells b o vs).heap[k]? = w.heap[k]?) ∧ (w.setCells b o vs).heap.size = w.heap.size
  | [], o, w, c, hg, _ => ⟨c, hg, rfl, fun i => by rw [if_neg (by simp)], fun _ _ => rfl, rfl⟩
  | v :: vs, o, w, c, hg, hl => by
    have hg1 : (w.setCell ⟨b, o, none⟩ v).heap[b]? = some (.cells (c.setIfInBounds o v) T (0, 0)) := by
      simp [World.setCell, Array.getElem?_modify, hg]
    obtain ⟨c', h1, h2, h3, h4, h5⟩ := setCells_block vs (o + 1) (w.setCell ⟨b, o, none⟩ v) (c.setIfInBounds o v) hg1 (by simp at hl ⊢; omega)
    refine ⟨c', h1, by simpa using h2, fun i => ?_, fun k hk => (h4 k hk).trans (Below.heap_setCell _ _ _ _ hk), by rw [World.setCells, h5]; simp⟩
    rw [h3 i]
    by_cases hi : i = o
    · subst hi
      have : i < c.size := by simp at hl; omega
      rw [if_neg (by omega), if_pos (by simp)]
      simp [this]
    · by_cases h6 : o + 1 ≤ i ∧ i < o + 1 + vs.length
      · rw [if_pos h6, if_pos (by simp; omega)]
        rw [show i - o = (i - (o + 1)) + 1 by omega]
        simp
      · rw [if_neg h6, if_neg (by simp; omega)]
        rw [Array.getElem?_setIfInBounds, if_neg (by omega)]

theorem below_setCells {b o : Nat} {vs : List Value} {w0 : World} (h : Below B w0 w) (hb : B ≤ b) : Below B w0 (w.setCells b o vs) := by
  have : ∀ (vs : List Value) (o : Nat) (w : World), Below B w0 w → Below B w0 (w.setCells b o vs) := by
    intro vs
    induction vs with
    | nil => intro o w h; exact h
    | cons v vs ih => intro o w h; exact ih _ _ (h.setCell (p := ⟨b, o, none⟩) hb v)
  exact this vs o w h

/-- An own block is written. -/
theorem MemR.write (h : MemR mem ρ B w) {id : Nat} {blk blk' : Blk} {L : Loc} (hid : mem[id]? = some (some blk)) (ho : blk.own = true) (hL : ρ id = some L) (ht : 0 < L.tot)
    (hother : ∀ k, k ≠ L.b → w'.heap[k]? = w.heap[k]?) (hsize : w'.heap.size = w.heap.size) (hr : BlkR (mem.set id (some blk')) ρ w' B L blk') : MemR (mem.set id (some blk')) ρ B w' := by
  have hown : ∀ (i : Nat) (M : Loc), Owned (mem.set id (some blk')) ρ i M → Owned mem ρ i M := by
    intro i M ⟨g1, g2, g3, g4, g5⟩
    rcases get_set g4 with ⟨g6, g7⟩ | ⟨g6, g7, _⟩
    · exact ⟨g1, g2, g3, g7, g5⟩
    · subst g6; exact ⟨g1, g2, blk, hid, ho⟩
  have hO : Owned mem ρ id L := ⟨hL, ht, blk, hid, ho⟩
  refine h.step (by simp) (fun _ _ => .inl rfl) (fun b hb => ⟨⟨by rw [hsize]; exact hb.1, fun i M hM => hb.2 i M (hown i M hM)⟩, hother b fun e => hb.2 id L hO e.symm⟩) (fun i b hi => ?_) (fun i hi => ?_) (fun i j M K hi hj => h.inj i j M K (hown i M hi) (hown j K hj))
  · rcases get_set hi with ⟨g6, g7⟩ | ⟨g6, g7, _⟩
    · exact .inl ⟨g7, rfl, fun M hM hob htM => hother _ fun e => g6 (h.inj i id M L ⟨hM, htM, b, g7, hob⟩ hO e)⟩
    · cases g7
      subst g6
      exact .inr ⟨L, hL, hr⟩
  · have hlt : id < mem.length := (List.getElem?_eq_some_iff.1 hid).1
    have hne : i ≠ id := by
      rintro rfl
      exact hi blk' (by simp [hlt])
    refine h.dead i fun b hb => hi b ?_
    rw [List.getElem?_set_ne (fun e => hne e.symm)]
    exact hb

/-! ### Rows -/

theorem CellR.one {ok : Nat → Prop} {k : CK} {r : Row} {e j : Nat} {v : Value} (h : CellR ok w k r e j v) : v.oneCell' = true := by
  cases h <;> rfl

theorem CellR.win {ok : Nat → Prop} {k : CK} {r : Row} {e0 n e j : Nat} {v : Value} (h : CellR ok w k r (e0 + e) j v) : CellR ok w k (r.win e0 n) e j v := by
  cases h with
  | int => exact .int
  | bool => exact .bool
  | str => exact .str
  | slice0 h1 => exact .slice0 h1
  | slice h1 h2 h3 h4 => exact .slice h1 h2 h3 h4

theorem CellR.winOf {ok : Nat → Prop} {k : CK} {r : Row} {e0 n e j : Nat} {v : Value} (h : CellR ok w k r (e0 + e) j v) : CellR ok w k (winOf r e0 n) e j v := by
  cases e0 with
  | zero =>
    rw [Nat.zero_add] at h
    cases h with
    | int => exact .int
    | bool => exact .bool
    | str => exact .str
    | slice0 h1 => exact .slice0 h1
    | slice h1 h2 h3 h4 => exact .slice h1 h2 h3 h4
  | succ e0 => exact h.win

theorem winOf_n {r : Row} {e n : Nat} : (winOf r e n).n = n := by cases e <;> rfl

theorem Rds.winOf {ok : Nat → Prop} {ks : List CK} {r : Row} {b off e0 n : Nat} (h : Rds ok w ks r b off) (hn : e0 + n ≤ r.n) : Rds ok w ks (winOf r e0 n) b (off + e0 * ks.length) := by
  cases h with
  | mk v h1 h2 =>
    refine .mk (fun e j => v (e0 + e) j) (fun e j k he hk => ?_) (fun e j k he hk => ?_)
    · rw [winOf_n] at he
      have := h1 (e0 + e) j k (by omega) hk
      rw [show off + e0 * ks.length + e * ks.length + j = off + (e0 + e) * ks.length + j by rw [Nat.add_mul]; omega]
      exact this
    · rw [winOf_n] at he
      exact (h2 (e0 + e) j k (by omega) hk).winOf

theorem CellR.app_l {ok : Nat → Prop} {k : CK} {r s : Row} {e j : Nat} {v : Value} (he : e < r.n) (h : CellR ok w k r e j v) : CellR ok w k (r.app s) e j v := by
  have hb : Nat.blt e r.n = true := by simp [Nat.blt_eq, he]
  have e1 : (r.app s).I e j = r.I e j := by simp [Row.app, Row.I, hb]
  have e2 : (r.app s).B e j = r.B e j := by simp [Row.app, Row.B, hb]
  have e3 : (r.app s).S e j = r.S e j := by simp [Row.app, Row.S, hb]
  have e4 : (r.app s).R e j = r.R e j := by simp [Row.app, Row.R, hb]
  cases h with
  | int => rw [← e1]; exact .int
  | bool => rw [← e2]; exact .bool
  | str => rw [← e3]; exact .str
  | slice0 h1 => exact .slice0 (by rw [e4]; exact h1)
  | slice h1 h2 h3 h4 => exact .slice (by rw [e4]; exact h1) h2 h3 (by rw [e4]; exact h4)

theorem CellR.app_r {ok : Nat → Prop} {k : CK} {r s : Row} {e j : Nat} {v : Value} (he : r.n ≤ e) (h : CellR ok w k s (e - r.n) j v) : CellR ok w k (r.app s) e j v := by
  have hb : Nat.blt e r.n = false := by
    cases hh : Nat.blt e r.n with
    | false => rfl
    | true => rw [Nat.blt_eq] at hh; omega
  have e1 : (r.app s).I e j = s.I (e - r.n) j := by simp [Row.app, Row.I, hb]
  have e2 : (r.app s).B e j = s.B (e - r.n) j := by simp [Row.app, Row.B, hb]
  have e3 : (r.app s).S e j = s.S (e - r.n) j := by simp [Row.app, Row.S, hb]
  have e4 : (r.app s).R e j = s.R (e - r.n) j := by simp [Row.app, Row.R, hb]
  cases h with
  | int => rw [← e1]; exact .int
  | bool => rw [← e2]; exact .bool
  | str => rw [← e3]; exact .str
  | slice0 h1 => exact .slice0 (by rw [e4]; exact h1)
  | slice h1 h2 h3 h4 => exact .slice (by rw [e4]; exact h1) h2 h3 (by rw [e4]; exact h4)

/-- The cells of a row, one behind the other. -/
def rowCells (sz n : Nat) (v : Nat → Nat → Value) : List Value := (List.range (n * sz)).map fun i => v (i / sz) (i % sz)

theorem rowCells_length {sz n : Nat} {v : Nat → Nat → Value} : (rowCells sz n v).length = n * sz := by simp [rowCells]

theorem rowCells_get {sz n : Nat} {v : Nat → Nat → Value} {e j : Nat} (he : e < n) (hj : j < sz) : (rowCells sz n v)[e * sz + j]? = some (v e j) := by
  have h1 : e * sz + j < n * sz := by
    have : (e + 1) * sz ≤ n * sz := Nat.mul_le_mul_right _ (by omega)
    rw [Nat.add_mul] at this
    omega
  have h2 : (e * sz + j) / sz = e := by
    rw [Nat.add_comm, Nat.add_mul_div_right _ _ (by omega), Nat.div_eq_of_lt hj]; omega
  have h3 : (e * sz + j) % sz = j := by
    rw [Nat.add_comm, Nat.add_mul_mod_self_right, Nat.mod_eq_of_lt hj]
  simp [rowCells, h1, h2, h3]

theorem rowCells_inv {sz n : Nat} {v : Nat → Nat → Value} {i : Nat} {u : Value} (h : (rowCells sz n v)[i]? = some u) : 0 < sz ∧ i / sz < n ∧ i % sz < sz ∧ u = v (i / sz) (i % sz) ∧ i / sz * sz + i % sz = i := by
  have hi : i < n * sz := by
    have := (List.getElem?_eq_some_iff.1 h).1
    rwa [rowCells_length] at this
  have hsz : 0 < sz := by
    rcases Nat.eq_zero_or_pos sz with h0 | h0
    · subst h0; omega
    · exact h0
  refine ⟨hsz, ?_, Nat.mod_lt _ hsz, ?_, ?_⟩
  · rw [Nat.div_lt_iff_lt_mul hsz]; exact hi
  · simp [rowCells, hi] at h
    exact h.symm
  · rw [Nat.mul_comm]; exact Nat.div_add_mod i sz

/-- A row's cells, as append reads them. -/
theorem Rds.src {ok : Nat → Prop} {ks : List CK} {r : Row} {b off : Nat} (h : Rds ok w ks r b off) : ∃ v : Nat → Nat → Value, (∀ e j k, e < r.n → ks[j]? = some k → CellR ok w k r e j (v e j)) ∧
    (∀ i u, (rowCells ks.length r.n v)[i]? = some u → w.cell? ⟨b, off + i, none⟩ = some u) ∧ ∀ u ∈ rowCells ks.length r.n v, u.oneCell' = true := by
  cases h with
  | mk v h1 h2 =>
    have hk : ∀ i u, (rowCells ks.length r.n v)[i]? = some u → i / ks.length < r.n ∧ u = v (i / ks.length) (i % ks.length) ∧ (∃ k, ks[i % ks.length]? = some k) ∧ i / ks.length * ks.length + i % ks.length = i := by
      intro i u hu
      obtain ⟨g1, g2, g3, g4, g5⟩ := rowCells_inv hu
      exact ⟨g2, g4, ⟨_, List.getElem?_eq_getElem g3⟩, g5⟩
    refine ⟨v, h2, fun i u hu => ?_, fun u hu => ?_⟩
    · obtain ⟨g1, g2, ⟨k, g3⟩, g4⟩ := hk i u hu
      have := h1 _ _ _ g1 g3
      rw [← g2] at this
      rw [← this]
      congr 2
      omega
    · obtain ⟨i, hi⟩ := List.getElem?_of_mem hu
      obtain ⟨g1, g2, ⟨k, g3⟩, g4⟩ := hk i u hi
      rw [g2]
      exact (h2 _ _ _ g1 g3).one
end
end Go.Ev

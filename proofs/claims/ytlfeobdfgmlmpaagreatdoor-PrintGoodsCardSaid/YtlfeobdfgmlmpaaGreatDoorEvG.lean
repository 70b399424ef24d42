/- Stores and appends keep the relation. No conditions. -/
import Derived.Test.YtlfeobdfgmlmpaaGreatDoorEvF
import Derived.Laws.IdiomCopy
import Derived.Deep.AppendSrc
namespace Go.Ev
open Go.RowKit
section
variable {P : Program} {mem mem' : List (Option Blk)} {ρ ρ' : Map} {B : Nat} {w w' : World}

theorem setCells_block {b : Nat} {T : TypeId} : ∀ (vs : List Value) (o : Nat) (w : World) (c : Array Value), w.heap[b]? = some (.cells c T (0, 0)) → o + vs.length ≤ c.size →
    ∃ c', (w.setCells b o vs).heap[b]? = some (.cells c' T (0, 0)) ∧ c'.size = c.size ∧ (∀ i, c'[i]? = if o ≤ i ∧ i < o + vs.length then vs[i - o]? else c[i]?) ∧ (∀ k, k ≠ b → (w.setCells b o vs).heap[k]? = w.heap[k]?) ∧ (w.setCells b o vs).heap.size = w.heap.size
  | [], o, w, c, hg, _ => ⟨c, hg, rfl, fun i => by rw [if_neg (by simp)], fun _ _ => rfl, rfl⟩
  | v :: vs, o, w, c, hg, hl => by
    have hg1 : (w.setCell ⟨b, o, none⟩ v).heap[b]? = some (.cells (c.setIfInBounds o v) T (0, 0)) := by
      simp [World.setCell, Array.getElem?_modify, hg]
    obtain ⟨c', h1, h2, h3, h4, h5⟩ := setCells_block vs (o + 1) (w.setCell ⟨b, o, none⟩ v) (c.setIfInBounds o v) hg1 (by simp at hl ⊢; omega)
    refine ⟨c', h1, by simpa using h2, fun i => ?_, fun k hk => (h4 k hk).trans (Below.heap_setCell _ _ _ _ hk), by rw [World.setCells, h5]; simp⟩
    rw [h3 i]
    by_cases hi : i = o
    · subst hi
      have : i < c.size := by simp at hl; omega
      rw [if_neg (by omega), if_pos (by simp)]
      simp [this]
    · by_cases h6 : o + 1 ≤ i ∧ i < o + 1 + vs.length
      · rw [if_pos h6, if_pos (by simp; omega)]
        rw [show i - o = (i - (o + 1)) + 1 by omega]
        simp
      · rw [if_neg h6, if_neg (by simp; omega)]
        rw [Array.getElem?_setIfInBounds, if_neg (by omega)]

theorem below_setCells {b o : Nat} {vs : List Value} {w0 : World} (h : Below B w0 w) (hb : B ≤ b) : Below B w0 (w.setCells b o vs) := by
  have : ∀ (vs : List Value) (o : Nat) (w : World), Below B w0 w → Below B w0 (w.setCells b o vs) := by
    intro vs
    induction vs with
    | nil => intro o w h; exact h
    | cons v vs ih => intro o w h; exact ih _ _ (h.setCell (p := ⟨b, o, none⟩) hb v)
  exact this vs o w h

/-- An own block is written. -/
theorem MemR.write (h : MemR mem ρ B w) {id : Nat} {blk blk' : Blk} {L : Loc} (hid : mem[id]? = some (some blk)) (hnd : ∀ ks r h, blk ≠ .deep ks r h) (ho : blk.own = true) (hL : ρ id = some L) (hs : L.sub = s0) (ht : 0 < L.tot)
    (hother : ∀ k, k ≠ L.b → w'.heap[k]? = w.heap[k]?) (hsize : w'.heap.size = w.heap.size) (hr : BlkR (mem.set id (some blk')) ρ w' B L blk') : MemR (mem.set id (some blk')) ρ B w' := by
  have hfoot : ∀ b, L.foot b → b = L.b := by
    intro b hb
    rcases hb with ⟨_, hb⟩ | ⟨e, j, hb⟩
    · exact hb
    · rw [hs] at hb; cases hb
  have hO : Owned mem ρ id L.b := ⟨L, blk, hL, hid, ho, .inl ⟨ht, rfl⟩⟩
  have hown : ∀ (i b : Nat), Owned (mem.set id (some blk')) ρ i b → Owned mem ρ i b := by
    intro i b ⟨M, c, g1, g4, g5, g2⟩
    rcases get_set g4 with ⟨g6, g7⟩ | ⟨g6, g7, _⟩
    · exact ⟨M, c, g1, g7, g5, g2⟩
    · subst g6; exact ⟨M, blk, g1, hid, ho, g2⟩
  refine h.step (by simp) (fun _ _ => .inl rfl) (fun b hb => ⟨⟨by rw [hsize]; exact hb.1, fun i hM => hb.2 i (hown i b hM)⟩, hother b fun e => hb.2 id (e ▸ hO)⟩) (fun i b hi => ?_) (fun i hi => ?_) (fun i j b hi hj => h.inj i j b (hown i b hi) (hown j b hj))
  · rcases get_set hi with ⟨g6, g7⟩ | ⟨g6, g7, _⟩
    · refine .inl ⟨g7, rfl, fun M hM hob c hc => hother _ fun e => g6 (h.inj i id c ⟨M, b, hM, g7, hob, hc⟩ (e ▸ hO)), fun p e j ks r _ kps rp hh Lp q1 q2 => ?_⟩
      have hne : p ≠ id := by
        rintro rfl
        rw [hid] at q1
        cases q1
        exact hnd _ _ _ rfl
      exact ⟨by rw [List.getElem?_set_ne (fun e => hne e.symm)]; exact q1, q2, fun ht => hother _ fun e => hne (h.inj p id Lp.b ⟨Lp, _, q2, q1, rfl, .inl ⟨ht, rfl⟩⟩ (e ▸ hO))⟩
    · cases g7
      subst g6
      exact .inr ⟨L, hL, hr⟩
  · have hlt : id < mem.length := (List.getElem?_eq_some_iff.1 hid).1
    have hne : i ≠ id := by
      rintro rfl
      exact hi blk' (by simp [hlt])
    refine h.dead i fun b hb => hi b ?_
    rw [List.getElem?_set_ne (fun e => hne e.symm)]
    exact hb

/-! ### Rows -/

theorem CellR.one {ok : Nat → Prop} {k : CK} {r : Row} {e j : Nat} {v : Value} (h : CellR ok w k r e j v) : v.oneCell' = true := by
  cases h <;> rfl

theorem CellR.win {ok : Nat → Prop} {k : CK} {r : Row} {e0 n e j : Nat} {v : Value} (h : CellR ok w k r (e0 + e) j v) : CellR ok w k (r.win e0 n) e j v := by
  cases h with
  | int => exact .int
  | bool => exact .bool
  | str => exact .str
  | slice0 h1 => exact .slice0 h1
  | slice h1 h2 h3 h4 => exact .slice h1 h2 h3 h4

theorem CellR.winOf {ok : Nat → Prop} {k : CK} {r : Row} {e0 n e j : Nat} {v : Value} (h : CellR ok w k r (e0 + e) j v) : CellR ok w k (winOf r e0 n) e j v := by
  cases e0 with
  | zero =>
    rw [Nat.zero_add] at h
    cases h with
    | int => exact .int
    | bool => exact .bool
    | str => exact .str
    | slice0 h1 => exact .slice0 h1
    | slice h1 h2 h3 h4 => exact .slice h1 h2 h3 h4
  | succ e0 => exact h.win

theorem winOf_n {r : Row} {e n : Nat} : (winOf r e n).n = n := by cases e <;> rfl

theorem Rds.winOf {ok : Nat → Prop} {ks : List CK} {r : Row} {b off e0 n : Nat} (h : Rds ok w ks r b off) (hn : e0 + n ≤ r.n) : Rds ok w ks (winOf r e0 n) b (off + e0 * ks.length) := by
  cases h with
  | mk v h1 h2 =>
    refine .mk (fun e j => v (e0 + e) j) (fun e j k he hk => ?_) (fun e j k he hk => ?_)
    · rw [winOf_n] at he
      have := h1 (e0 + e) j k (by omega) hk
      rw [show off + e0 * ks.length + e * ks.length + j = off + (e0 + e) * ks.length + j by rw [Nat.add_mul]; omega]
      exact this
    · rw [winOf_n] at he
      exact (h2 (e0 + e) j k (by omega) hk).winOf

theorem CellR.app_l {ok : Nat → Prop} {k : CK} {r s : Row} {e j : Nat} {v : Value} (he : e < r.n) (h : CellR ok w k r e j v) : CellR ok w k (r.app s) e j v := by
  have hb : Nat.blt e r.n = true := by simp [Nat.blt_eq, he]
  have e1 : (r.app s).I e j = r.I e j := by simp [Row.app, Row.I, hb]
  have e2 : (r.app s).B e j = r.B e j := by simp [Row.app, Row.B, hb]
  have e3 : (r.app s).S e j = r.S e j := by simp [Row.app, Row.S, hb]
  have e4 : (r.app s).R e j = r.R e j := by simp [Row.app, Row.R, hb]
  cases h with
  | int => rw [← e1]; exact .int
  | bool => rw [← e2]; exact .bool
  | str => rw [← e3]; exact .str
  | slice0 h1 => exact .slice0 (by rw [e4]; exact h1)
  | slice h1 h2 h3 h4 => exact .slice (by rw [e4]; exact h1) h2 h3 (by rw [e4]; exact h4)

theorem CellR.app_r {ok : Nat → Prop} {k : CK} {r s : Row} {e j : Nat} {v : Value} (he : r.n ≤ e) (h : CellR ok w k s (e - r.n) j v) : CellR ok w k (r.app s) e j v := by
  have hb : Nat.blt e r.n = false := by
    cases hh : Nat.blt e r.n with
    | false => rfl
    | true => rw [Nat.blt_eq] at hh; omega
  have e1 : (r.app s).I e j = s.I (e - r.n) j := by simp [Row.app, Row.I, hb]
  have e2 : (r.app s).B e j = s.B (e - r.n) j := by simp [Row.app, Row.B, hb]
  have e3 : (r.app s).S e j = s.S (e - r.n) j := by simp [Row.app, Row.S, hb]
  have e4 : (r.app s).R e j = s.R (e - r.n) j := by simp [Row.app, Row.R, hb]
  cases h with
  | int => rw [← e1]; exact .int
  | bool => rw [← e2]; exact .bool
  | str => rw [← e3]; exact .str
  | slice0 h1 => exact .slice0 (by rw [e4]; exact h1)
  | slice h1 h2 h3 h4 => exact .slice (by rw [e4]; exact h1) h2 h3 (by rw [e4]; exact h4)

/-- The cells of a row, one behind the other. -/
def rowCells (sz n : Nat) (v : Nat → Nat → Value) : List Value := (List.range (n * sz)).map fun i => v (i / sz) (i % sz)

theorem rowCells_length {sz n : Nat} {v : Nat → Nat → Value} : (rowCells sz n v).length = n * sz := by simp [rowCells]

theorem rowCells_get {sz n : Nat} {v : Nat → Nat → Value} {e j : Nat} (he : e < n) (hj : j < sz) : (rowCells sz n v)[e * sz + j]? = some (v e j) := by
  have h1 : e * sz + j < n * sz := by
    have : (e + 1) * sz ≤ n * sz := Nat.mul_le_mul_right _ (by omega)
    rw [Nat.add_mul] at this
    omega
  have h2 : (e * sz + j) / sz = e := by
    rw [Nat.add_comm, Nat.add_mul_div_right _ _ (by omega), Nat.div_eq_of_lt hj]; omega
  have h3 : (e * sz + j) % sz = j := by
    rw [Nat.add_comm, Nat.add_mul_mod_self_right, Nat.mod_eq_of_lt hj]
  simp [rowCells, h1, h2, h3]

theorem rowCells_inv {sz n : Nat} {v : Nat → Nat → Value} {i : Nat} {u : Value} (h : (rowCells sz n v)[i]? = some u) : 0 < sz ∧ i / sz < n ∧ i % sz < sz ∧ u = v (i / sz) (i % sz) ∧ i / sz * sz + i % sz = i := by
  have hi : i < n * sz := by
    have := (List.getElem?_eq_some_iff.1 h).1
    rwa [rowCells_length] at this
  have hsz : 0 < sz := by
    rcases Nat.eq_zero_or_pos sz with h0 | h0
    · subst h0; omega
    · exact h0
  refine ⟨hsz, ?_, Nat.mod_lt _ hsz, ?_, ?_⟩
  · rw [Nat.div_lt_iff_lt_mul hsz]; exact hi
  · simp [rowCells, hi] at h
    exact h.symm
  · rw [Nat.mul_comm]; exact Nat.div_add_mod i sz

/-- A row's cells, as append reads them. -/
theorem Rds.src {ok : Nat → Prop} {ks : List CK} {r : Row} {b off : Nat} (h : Rds ok w ks r b off) : ∃ v : Nat → Nat → Value, (∀ e j k, e < r.n → ks[j]? = some k → CellR ok w k r e j (v e j)) ∧
    (∀ i u, (rowCells ks.length r.n v)[i]? = some u → w.cell? ⟨b, off + i, none⟩ = some u) ∧ ∀ u ∈ rowCells ks.length r.n v, u.oneCell' = true := by
  cases h with
  | mk v h1 h2 =>
    have hk : ∀ i u, (rowCells ks.length r.n v)[i]? = some u → i / ks.length < r.n ∧ u = v (i / ks.length) (i % ks.length) ∧ (∃ k, ks[i % ks.length]? = some k) ∧ i / ks.length * ks.length + i % ks.length = i := by
      intro i u hu
      obtain ⟨g1, g2, g3, g4, g5⟩ := rowCells_inv hu
      exact ⟨g2, g4, ⟨_, List.getElem?_eq_getElem g3⟩, g5⟩
    refine ⟨v, h2, fun i u hu => ?_, fun u hu => ?_⟩
    · obtain ⟨g1, g2, ⟨k, g3⟩, g4⟩ := hk i u hu
      have := h1 _ _ _ g1 g3
      rw [← g2] at this
      rw [← this]
      congr 2
      omega
    · obtain ⟨i, hi⟩ := List.getElem?_of_mem hu
      obtain ⟨g1, g2, ⟨k, g3⟩, g4⟩ := hk i u hi
      rw [g2]
      exact (h2 _ _ _ g1 g3).one
/-- Cells of plain kinds name no blocks. -/
theorem CellR.plain {ok ok' : Nat → Prop} {k : CK} {r : Row} {e j : Nat} {v : Value} (hk : ck1 k = true) (h : CellR ok w k r e j v) : CellR ok' w k r e j v := by
  cases h with
  | int => exact .int
  | bool => exact .bool
  | str => exact .str
  | slice0 => cases hk
  | slice => cases hk

theorem flat_ck1 : ∀ {ks : List CK}, flat ks = true → ∀ (j : Nat) (k : CK), ks[j]? = some k → ck1 k = true
  | [], _, j, k, h => by simp at h
  | .int _ :: ks, hf, j, k, h => by
    cases j with
    | zero => simp at h; subst h; rfl
    | succ j => exact flat_ck1 (ks := ks) hf j k (by simpa using h)
  | .bool :: ks, hf, j, k, h => by
    cases j with
    | zero => simp at h; subst h; rfl
    | succ j => exact flat_ck1 (ks := ks) hf j k (by simpa using h)
  | .str :: ks, hf, j, k, h => by
    cases j with
    | zero => simp at h; subst h; rfl
    | succ j => exact flat_ck1 (ks := ks) hf j k (by simpa using h)
  | .slice _ :: ks, hf, _, _, _ => by cases hf
  | .other :: ks, hf, _, _, _ => by cases hf

theorem Rds.plain {ok ok' : Nat → Prop} {ks : List CK} {r : Row} {b off : Nat} (hk : flat ks = true) (h : Rds ok w ks r b off) : Rds ok' w ks r b off := by
  cases h with
  | mk v h1 h2 => exact .mk v h1 fun e j k he hj => (h2 e j k he hj).plain (flat_ck1 hk j k hj)

/-- What a row holds, with its slices, where it may be read. -/
theorem BlkR.dat {mem : List (Option Blk)} (hm : MemR mem ρ B w) {id : Nat} {b : Blk} {L : Loc} (hb : mem[id]? = some (some b)) (hL : ρ id = some L) {ks : List CK} {r : Row} (hd : datOf b = some (ks, r)) :
    L.n = r.n ∧ L.sz = ks.length ∧ (0 < r.n → L.b < w.heap.size ∧ Rds (fun b => b < w.heap.size) w ks r L.b L.off) := by
  obtain ⟨M, hM, hr⟩ := hm.blk id b hb
  rw [hL] at hM
  cases hM
  cases b with
  | box cells => cases hd
  | map _ _ _ => cases hd
  | row ks' o r' =>
    cases hd
    refine ⟨hr.1, hr.2.1, fun hn => ⟨?_, (hr.2.2.2.1 hn).2.mono (fun b hb => ⟨hb.1, rfl⟩) rfl⟩⟩
    cases o with
    | false => exact ((hr.2.2.2.1 hn).1 rfl).1
    | true => exact own_lt hm ⟨L, _, hL, hb, rfl, .inl ⟨by have := (hr.2.2.1 rfl).2.1; omega, rfl⟩⟩
  | deep ks' r' h =>
    cases h with
    | some h => cases hd
    | none =>
      cases hd
      refine ⟨hr.1, hr.2.1, fun hn => ⟨(BlkR.deep_lt hr (.inl ⟨by have := hr.2.2.2.1; omega, rfl⟩)).1, ?_⟩⟩
      have hfl : ∀ b, L.foot b → b < w.heap.size := fun b hb => (BlkR.deep_lt hr hb).1
      obtain ⟨h1, h2, h3, h4, h5, h6, h7, h8⟩ := hr
      have key : ∀ e j, ∃ v, ∀ k, e < r.n → ks[j]? = some k → w.cell? ⟨L.b, L.off + e * ks.length + j, none⟩ = some v ∧ DCell B w k r e j (isHole none e j) (L.sub e j) v := by
        intro e j
        by_cases he : e < r.n
        · cases hk : ks[j]? with
          | none => exact ⟨undef, fun k _ h => by cases h⟩
          | some k =>
            obtain ⟨v, g1, g2⟩ := h6 e j k he hk
            exact ⟨v, fun k' _ h => by cases h; exact ⟨g1, g2⟩⟩
        · exact ⟨undef, fun k h _ => absurd h he⟩
      refine .mk (fun e j => Classical.choose (key e j)) (fun e j k he hk => (Classical.choose_spec (key e j) k he hk).1) (fun e j k he hk => ?_)
      obtain ⟨_, g2⟩ := Classical.choose_spec (key e j) k he hk
      generalize Classical.choose (key e j) = v at g2
      cases k with
      | slice sub =>
        obtain ⟨g3, g4, g5⟩ := g2
        obtain ⟨a, cap, rfl, g6, g7⟩ := g5 rfl
        rcases Nat.eq_zero_or_pos (r.R e j).n with h0 | h0
        · rw [h0]
          exact .slice0 h0
        · rcases g7 with ⟨g7, _⟩ | ⟨b', off, c, T, q1, q2, q3, q4, q5, q6⟩
          · omega
          · rw [q2]
            exact .slice rfl g6 (Array.getElem?_eq_some_iff.1 q4).1 (q6.plain g3)
      | int k => exact CellR.plain (ok := fun _ => False) rfl g2
      | bool => exact CellR.plain (ok := fun _ => False) rfl g2
      | str => exact CellR.plain (ok := fun _ => False) rfl g2
      | other => exact CellR.plain (ok := fun _ => False) rfl g2
  | bor p e0 j0 ks' r' =>
    cases hd
    obtain ⟨h1, h2, h3, h4, h5, Lp, kps, rp, h, a, g1, g2, g3, g4, g5, g6, g0, g7, g8⟩ := hr
    refine ⟨h2, h3, fun hn => ?_⟩
    obtain ⟨Mp, hMp, q1, q2, q3, q4, q5, q6, q7, q8⟩ := hm.blk p _ g1
    rw [g2] at hMp
    cases hMp
    obtain ⟨v, v1, v2⟩ := q6 e0 j0 _ g3 g4
    rw [g7] at v1
    cases v1
    obtain ⟨a', cap, v3, v4, v5⟩ := v2.2.2 g5
    obtain ⟨w1, _, w3⟩ := Value.slice.inj v3
    subst w1; subst w3
    rw [g6] at v4 v5
    rcases v5 with ⟨v5, _⟩ | ⟨b, off, c, T, u1, u2, u3, u4, u5, u6⟩
    · omega
    · have ha : L.b = b ∧ L.off = off := by
        rcases g8 with g8 | g8
        · omega
        · rw [u2] at g8
          cases g8
          exact ⟨rfl, rfl⟩
      obtain ⟨rfl, rfl⟩ := ha
      exact ⟨(Array.getElem?_eq_some_iff.1 u4).1, u6.plain h1⟩
end
end Go.Ev

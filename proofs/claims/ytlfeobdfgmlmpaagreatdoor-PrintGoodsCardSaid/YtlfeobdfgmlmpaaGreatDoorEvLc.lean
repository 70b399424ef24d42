/- Deep rows that are appended. No conditions. -/
import Derived.Test.YtlfeobdfgmlmpaaGreatDoorEvLb
namespace Go.Ev
open Go.RowKit
section
variable {P : Program} {mem mem1 mem' : List (Option Blk)} {ρ ρ' : Map} {B : Nat} {w w' : World}

/-- Blocks are forgotten, with what was borrowed of them. -/
structure Killed (mem mem1 : List (Option Blk)) (D : Nat → Prop) : Prop where
  len : mem1.length = mem.length
  old : ∀ (i : Nat) (b : Blk), mem1[i]? = some (some b) → mem[i]? = some (some b) ∧ ¬ D i ∧ ∀ p e j ks r, b = .bor p e j ks r → ¬ D p
  kept : ∀ i : Nat, ¬ D i → (∀ p e j ks r, mem[i]? ≠ some (some (.bor p e j ks r))) → mem1[i]? = mem[i]?

theorem Killed.refl (mem : List (Option Blk)) : Killed mem mem (fun _ => False) := ⟨rfl, fun _ _ h => ⟨h, id, fun _ _ _ _ _ _ h => h⟩, fun _ _ _ => rfl⟩

theorem Killed.step {D : Nat → Prop} (h : Killed mem mem1 D) (p : Nat) : Killed mem (killM p mem1) (fun i => i = p ∨ D i) := by
  unfold killM
  refine ⟨by rw [dropB_len, List.length_set, h.len], fun i b hb => ?_, fun i hi hn => ?_⟩
  · obtain ⟨g1, g2⟩ := dropB_get hb
    have hip : i ≠ p := by
      rintro rfl
      have := (List.getElem?_eq_some_iff.1 g1).1
      rw [List.getElem?_set_self (by simpa using this)] at g1
      cases g1
    rw [List.getElem?_set_ne (fun h => hip h.symm)] at g1
    obtain ⟨g3, g4, g5⟩ := h.old i b g1
    refine ⟨g3, fun hd => hd.elim hip g4, fun q e j ks r hbr hd => ?_⟩
    rcases hd with rfl | hd
    · exact g2 e j ks r hbr
    · exact g5 q e j ks r hbr hd
  · have hip : i ≠ p := fun h => hi (.inl h)
    have e1 : (mem1.set p none)[i]? = mem[i]? := by
      rw [List.getElem?_set_ne (fun h => hip h.symm)]
      exact h.kept i (fun h => hi (.inr h)) hn
    rw [dropB_set (fun q e j ks r => by rw [e1]; exact hn q e j ks r), e1]

theorem DCell.one {k : CK} {r : Row} {e j : Nat} {hole : Bool} {ob : Option Nat} {v : Value} (h : DCell B w k r e j hole ob v) : v.oneCell' = true := by
  cases k with
  | slice sub => exact h.2.1
  | int k => cases h; rfl
  | bool => cases h; rfl
  | str => cases h; rfl
  | other => cases h

theorem DCell.app_l {k : CK} {r s : Row} {e j : Nat} {hole : Bool} {ob : Option Nat} {v : Value} (he : e < r.n) (h : DCell B w k r e j hole ob v) : DCell B w k (r.app s) e j hole ob v := by
  have hb : Nat.blt e r.n = true := by simp [Nat.blt_eq, he]
  cases k with
  | slice sub => exact ⟨h.1, h.2.1, fun hh => by
      have e4 : (r.app s).R e j = r.R e j := by simp [Row.app, Row.R, hb]
      rw [e4]; exact h.2.2 hh⟩
  | int k => exact CellR.app_l he h
  | bool => exact CellR.app_l he h
  | str => exact CellR.app_l he h
  | other => exact CellR.app_l he h

theorem DCell.app_r {k : CK} {r s : Row} {e j : Nat} {hole : Bool} {ob : Option Nat} {v : Value} (he : r.n ≤ e) (h : DCell B w k s (e - r.n) j hole ob v) : DCell B w k (r.app s) e j hole ob v := by
  have hb : Nat.blt e r.n = false := by
    cases hh : Nat.blt e r.n with
    | false => rfl
    | true => rw [Nat.blt_eq] at hh; omega
  cases k with
  | slice sub => exact ⟨h.1, h.2.1, fun hh => by
      have e4 : (r.app s).R e j = s.R (e - r.n) j := by simp [Row.app, Row.R, hb]
      rw [e4]; exact h.2.2 hh⟩
  | int k => exact CellR.app_r he h
  | bool => exact CellR.app_r he h
  | str => exact CellR.app_r he h
  | other => exact CellR.app_r he h

/-- The blocks of the slices of two rows, one behind the other. -/
def sub2 (n n2 : Nat) (s1 s2 : Nat → Nat → Option Nat) : Nat → Nat → Option Nat := fun e j => if e < n then s1 e j else if e - n < n2 then s2 (e - n) j else none

/-- A new deep row, of two that are forgotten. -/
theorem deep_join (hm : MemR mem ρ B w) {D : Nat → Prop} (hk : Killed mem mem1 D) {ks : List CK} {r1 r2 : Row} {v1 v2 : Nat → Nat → Value} {s1 s2 : Nat → Nat → Option Nat} {i1 i2 : Nat} (h12 : i1 ≠ i2) (hD1 : (∃ e j b, e < r1.n ∧ s1 e j = some b) → D i1) (hD2 : D i2)
    (d1 : ∀ e j k, e < r1.n → ks[j]? = some k → DCell B w k r1 e j false (s1 e j) (v1 e j)) (d2 : ∀ e j k, e < r2.n → ks[j]? = some k → DCell B w k r2 e j false (s2 e j) (v2 e j))
    (o1 : ∀ e j b, e < r1.n → s1 e j = some b → Owned mem ρ i1 b ∧ ∃ s, ks[j]? = some (.slice s)) (o2 : ∀ e j b, e < r2.n → s2 e j = some b → Owned mem ρ i2 b ∧ ∃ s, ks[j]? = some (.slice s))
    (j1 : ∀ e j e' j' b, s1 e j = some b → s1 e' j' = some b → e = e' ∧ j = j') (j2 : ∀ e j e' j' b, s2 e j = some b → s2 e' j' = some b → e = e' ∧ j = j')
    {b' off' tot : Nat} (hw : w.heap.size ≤ w'.heap.size) (hblk : 0 < tot → B ≤ b' ∧ ∃ (c : Array Value) (T : TypeId), w'.heap[b']? = some (.cells c T (0, 0)) ∧ off' + tot * ks.length ≤ c.size)
    (hown : 0 < tot → w.heap.size ≤ b' ∨ ∃ i, D i ∧ Owned mem ρ i b') (hsub : ∀ e j b, (e < r1.n ∧ s1 e j = some b) ∨ (e < r2.n ∧ s2 e j = some b) → b ≠ b') (hsame : ∀ b, b < w.heap.size → (0 < tot → b ≠ b') → w'.heap[b]? = w.heap[b]?)
    (hcell : ∀ e j k, e < r1.n + r2.n → ks[j]? = some k → w'.cell? ⟨b', off' + e * ks.length + j, none⟩ = some (if e < r1.n then v1 e j else v2 (e - r1.n) j)) (hn : r1.n + r2.n ≤ tot) :
    ∃ ρ', MemR (mem1 ++ [some (.deep ks (r1.app r2) none)]) ρ' B w' ∧ (∀ i, i < mem.length → Less ρ ρ' i) ∧ ρ' mem.length = some ⟨b', off', ks.length, tot, r1.n + r2.n, true, sub2 r1.n r2.n s1 s2⟩ := by
  have hspec : ∀ e j b, sub2 r1.n r2.n s1 s2 e j = some b → (e < r1.n ∧ s1 e j = some b) ∨ (r1.n ≤ e ∧ e - r1.n < r2.n ∧ s2 (e - r1.n) j = some b) := by
    intro e j b h
    unfold sub2 at h
    split at h
    · exact .inl ⟨by assumption, h⟩
    · split at h
      · exact .inr ⟨by omega, by assumption, h⟩
      · cases h
  have hne : ∀ e j b, sub2 r1.n r2.n s1 s2 e j = some b → b ≠ b' := fun e j b h => by
    rcases hspec e j b h with ⟨g1, g2⟩ | ⟨_, g1, g2⟩
    · exact hsub e j b (.inl ⟨g1, g2⟩)
    · exact hsub _ j b (.inr ⟨g1, g2⟩)
  have hOw : ∀ e j b, sub2 r1.n r2.n s1 s2 e j = some b → ∃ i, D i ∧ Owned mem ρ i b := fun e j b h => by
    rcases hspec e j b h with ⟨g1, g2⟩ | ⟨_, g1, g2⟩
    · exact ⟨i1, hD1 ⟨e, j, b, g1, g2⟩, (o1 e j b g1 g2).1⟩
    · exact ⟨i2, hD2, (o2 _ j b g1 g2).1⟩
  have hdead : ∀ i, D i → ∀ c, mem1[i]? ≠ some (some c) := fun i hi c hc => (hk.old i c hc).2.1 hi
  have hpos : ∀ b, (∀ i, Owned mem ρ i b → ∃ c, (mem1 ++ [some (.deep ks (r1.app r2) none)])[i]? = some (some c)) → b < w.heap.size → 0 < tot → b ≠ b' := by
    intro b hb hlt ht he
    subst he
    rcases hown ht with h | ⟨i, h1, h2⟩
    · omega
    · obtain ⟨c, hc⟩ := hb i h2
      have hil : i < mem.length := by
        obtain ⟨_, blk, _, g, _⟩ := h2
        exact (List.getElem?_eq_some_iff.1 g).1
      rw [List.getElem?_append_left (by rw [hk.len]; exact hil)] at hc
      exact hdead i h1 c hc
  refine hm.upd (q := mem.length) (blk := .deep ks (r1.app r2) none) (by simp [hk.len]) (by rw [List.getElem?_append_right (by rw [hk.len]; exact Nat.le_refl _), hk.len]; simp) (fun i b hi hb => ?_) (fun b hb => ?_) hw (fun b hb ho => ?_) (fun ρ' => ?_) (fun h => absurd h (Nat.lt_irrefl _))
  · rcases get_snoc hb with ⟨g1, g2⟩ | ⟨g1, _⟩
    · obtain ⟨g3, g4, g5⟩ := hk.old i b g1
      refine ⟨g3, fun p e j ks' r' hbr => ?_⟩
      have g6 := g5 p e j ks' r' hbr
      subst hbr
      obtain ⟨L, _, hr⟩ := hm.blk i _ g3
      obtain ⟨_, _, _, _, _, Lp, kps, rp, hh, a, q1, _⟩ := hr
      have hp : p < mem.length := (List.getElem?_eq_some_iff.1 q1).1
      refine ⟨by omega, ?_⟩
      rw [List.getElem?_append_left (by rw [hk.len]; exact hp)]
      exact hk.kept p g6 fun _ _ _ _ _ h => by rw [q1] at h; cases h
    · rw [hk.len] at g1
      exact absurd g1 hi
  · rcases hb with ⟨ht, rfl⟩ | ⟨e, j, hb⟩
    · rcases hown ht with h | ⟨i, h1, h2⟩
      · exact .inl h
      · refine .inr ⟨i, h2, .inr fun c hc => ?_⟩
        have hil : i < mem.length := by
          obtain ⟨_, blk, _, g, _⟩ := h2
          exact (List.getElem?_eq_some_iff.1 g).1
        rw [List.getElem?_append_left (by rw [hk.len]; exact hil)] at hc
        exact hdead i h1 c hc
    · obtain ⟨i, h1, h2⟩ := hOw e j b hb
      refine .inr ⟨i, h2, .inr fun c hc => ?_⟩
      have hil : i < mem.length := by
        obtain ⟨_, blk, _, g, _⟩ := h2
        exact (List.getElem?_eq_some_iff.1 g).1
      rw [List.getElem?_append_left (by rw [hk.len]; exact hil)] at hc
      exact hdead i h1 c hc
  · exact hsame b hb (hpos b (fun i hi => (ho i hi).2) hb)
  · have hsub' : ∀ e j b, sub2 r1.n r2.n s1 s2 e j = some b → w'.heap[b]? = w.heap[b]? := fun e j b h => by
      obtain ⟨i, _, h2⟩ := hOw e j b h
      exact hsame b (own_lt hm h2) fun _ => hne e j b h
    refine ⟨rfl, rfl, rfl, hn, hblk, fun e j k he hk' => ⟨_, hcell e j k he hk', ?_⟩, fun e j b hb => ?_, fun e j e' j' b hb hb' => ?_⟩
    · by_cases hen : e < r1.n
      · have := (d1 e j k hen hk').app_l (s := r2) hen
        rw [if_pos hen]
        have es : sub2 r1.n r2.n s1 s2 e j = s1 e j := by unfold sub2; rw [if_pos hen]
        show DCell B w' k (r1.app r2) e j false (sub2 r1.n r2.n s1 s2 e j) _
        refine DCell.mono (fun b hb => hsub' e j b hb) ?_
        rw [es]; exact this
      · have he2 : e - r1.n < r2.n := by have : e < r1.n + r2.n := he; omega
        have := (d2 (e - r1.n) j k he2 hk').app_r (r := r1) (by omega)
        rw [if_neg hen]
        have es : sub2 r1.n r2.n s1 s2 e j = s2 (e - r1.n) j := by unfold sub2; rw [if_neg hen, if_pos he2]
        show DCell B w' k (r1.app r2) e j false (sub2 r1.n r2.n s1 s2 e j) _
        refine DCell.mono (fun b hb => hsub' e j b hb) ?_
        rw [es]; exact this
    · refine ⟨?_, ?_, rfl, hne e j b hb⟩
      · show e < r1.n + r2.n
        rcases hspec e j b hb with ⟨g1, _⟩ | ⟨_, g1, _⟩ <;> omega
      · rcases hspec e j b hb with ⟨g1, g2⟩ | ⟨_, g1, g2⟩
        · exact (o1 e j b g1 g2).2
        · exact (o2 _ j b g1 g2).2
    · rcases hspec e j b hb with ⟨g1, g2⟩ | ⟨g0, g1, g2⟩ <;> rcases hspec e' j' b hb' with ⟨k1, k2⟩ | ⟨k0, k1, k2⟩
      · exact j1 e j e' j' b g2 k2
      · exact absurd (hm.inj _ _ b (o1 e j b g1 g2).1 (o2 _ j' b k1 k2).1) h12
      · exact absurd (hm.inj _ _ b (o1 e' j' b k1 k2).1 (o2 _ j b g1 g2).1) h12
      · have := j2 _ _ _ _ b g2 k2
        exact ⟨by omega, this.2⟩

/-- The cells of a deep row, as values. -/
theorem deep_vals {L : Loc} {ks : List CK} {r : Row} {h : Option (Nat × Nat)} (hr : BlkR mem ρ w B L (.deep ks r h)) :
    ∃ v : Nat → Nat → Value, ∀ e j k, e < r.n → ks[j]? = some k → w.cell? ⟨L.b, L.off + e * ks.length + j, none⟩ = some (v e j) ∧ DCell B w k r e j (isHole h e j) (L.sub e j) (v e j) := by
  obtain ⟨h1, h2, h3, h4, h5, h6, h7, h8⟩ := hr
  have key : ∀ e j, ∃ v, ∀ k, e < r.n → ks[j]? = some k → w.cell? ⟨L.b, L.off + e * ks.length + j, none⟩ = some v ∧ DCell B w k r e j (isHole h e j) (L.sub e j) v := by
    intro e j
    by_cases he : e < r.n
    · cases hk : ks[j]? with
      | none => exact ⟨undef, fun k _ h => by cases h⟩
      | some k =>
        obtain ⟨v, g1, g2⟩ := h6 e j k he hk
        exact ⟨v, fun k' _ h => by cases h; exact ⟨g1, g2⟩⟩
    · exact ⟨undef, fun k h _ => absurd h he⟩
  exact ⟨fun e j => Classical.choose (key e j), fun e j k he hk => Classical.choose_spec (key e j) k he hk⟩

/-- The cells of the first n elements, one after the other. -/
theorem deep_cells {b off n : Nat} {ks : List CK} {r : Row} {v : Nat → Nat → Value} {s : Nat → Nat → Option Nat} {hl : Nat → Nat → Bool} (hn : n ≤ r.n) (hv : ∀ e j k, e < r.n → ks[j]? = some k → w.cell? ⟨b, off + e * ks.length + j, none⟩ = some (v e j) ∧ DCell B w k r e j (hl e j) (s e j) (v e j)) :
    (∀ i u, (rowCells ks.length n v)[i]? = some u → w.cell? ⟨b, off + i, none⟩ = some u) ∧ ∀ u ∈ rowCells ks.length n v, u.oneCell' = true := by
  have key : ∀ i u, (rowCells ks.length n v)[i]? = some u → ∃ e j k, e < r.n ∧ ks[j]? = some k ∧ i = e * ks.length + j ∧ u = v e j := by
    intro i u hu
    have hi : i < n * ks.length := by
      have := (List.getElem?_eq_some_iff.1 hu).1
      rw [rowCells_length] at this
      exact this
    have hpos : 0 < ks.length := by
      rcases Nat.eq_zero_or_pos ks.length with h0 | h0
      · rw [h0] at hi; omega
      · exact h0
    have hj : i % ks.length < ks.length := Nat.mod_lt _ hpos
    have he : i / ks.length < n := (Nat.div_lt_iff_lt_mul hpos).2 hi
    have hsum : i / ks.length * ks.length + i % ks.length = i := by have := Nat.div_add_mod i ks.length; rw [Nat.mul_comm]; exact this
    have hg := rowCells_get (v := v) he hj
    rw [hsum, hu] at hg
    exact ⟨_, _, ks[i % ks.length], by omega, List.getElem?_eq_getElem hj, hsum.symm, Option.some.inj hg⟩
  constructor
  · intro i u hu
    obtain ⟨e, j, k, h1, h2, h3, rfl⟩ := key i u hu
    rw [h3, ← Nat.add_assoc]
    exact (hv e j k h1 h2).1
  · intro u hu
    obtain ⟨i, hi⟩ := List.getElem?_of_mem hu
    obtain ⟨e, j, k, h1, h2, _, rfl⟩ := key i u hi
    exact (hv e j k h1 h2).2.one

/-- An append of a deep row to a deep row, or to nothing. -/
theorem appDeep_sound (hm : MemR mem ρ B w) (hB : B ≤ w.heap.size) {st xt ty el : TypeId} {ei : TypeInfo} {z : Value} (ht : P.underlying st = some (.slice el)) (hi : P.info? el = some ei) (hz : ei.zero = some z) {ks : List CK} (hsz : ei.size = ks.length)
    (hzo : zeroOk ks (lcells z) = true) (hbytes : ei.bytes ≤ 1000) {s x cs cx : Value} {r : Row} {n : Nat} (hd : appDeep mem ks s x = some (mem1, r, n)) (hxt : srcOk P xt x = true) (hbound : n ≤ 10000000000)
    (hs : V ρ mem.length s cs) (hx : V ρ mem.length x cx) :
    ∃ ρ' cv w', (Builtin.append_ #[st, xt] ty #[cs, cx]).run P w = .ok cv w' ∧ MemR (mem1 ++ [some (.deep ks r none)]) ρ' B w' ∧ mem1.length = mem.length ∧ (∀ i, i < mem.length → Less ρ ρ' i) ∧
      V ρ' (mem.length + 1) (sl0 n mem.length) cv ∧ ∀ W0 : World, W0.heap.size = B → W0.heap.size ≤ w.heap.size → Below W0.heap.size W0 w → Below W0.heap.size W0 w' := by
  obtain ⟨z1, z2⟩ := zeroOk_spec hzo
  have hzs : z.cells.size = ks.length := by rw [← z1, ← cells_lcells]; simp
  unfold appDeep at hd
  split at hd
  case h_2 => cases hd
  rename_i id2 n2
  obtain ⟨el2, hu2⟩ : ∃ el2, P.underlying xt = some (.slice el2) := by
    unfold srcOk at hxt
    split at hxt
    · rename_i el _ _ _ h1 _; exact ⟨el, h1⟩
    · rename_i h2; cases h2
    · cases hxt
  split at hd
  case h_2 => cases hd
  rename_i ksX r2 hb2
  obtain ⟨L2, hL2, hr2⟩ := hm.blk _ _ hb2
  cases hx with
  | sliceDead g1 g2 => exact absurd g2 (live_of hm hb2)
  | @slice _ _ _ L2' a2 cap2 g1 g2 g3 g4 g5 g6 =>
  rw [hL2] at g2
  cases g2
  have hr2' := hr2
  obtain ⟨p1, p2, p3, p4, p5, p6, p7, p8⟩ := hr2'
  obtain ⟨v2, hv2⟩ := deep_vals hr2
  have hn2 : n2 ≤ r2.n := by omega
  -- what is appended
  have hsrc : ∀ (hk : ksX = ks), Src P ks.length xt (.slice a2 n2 cap2) n2 (rowCells ks.length n2 v2) w := by
    intro hk
    subst hk
    obtain ⟨c1, c2⟩ := deep_cells (n := n2) hn2 hv2
    rcases Nat.eq_zero_or_pos n2 with h0 | h0
    · subst h0
      have hnil : rowCells ksX.length 0 v2 = [] := by simp [rowCells]
      rw [hnil]
      cases a2 with
      | none => exact Src.ofNil (P := P) w hu2 cap2
      | some a => exact Src.ofSlice (P := P) w hu2 a 0 cap2 [] (by simp) (fun j u hu => by simp at hu) (fun u hu => by simp at hu)
    · rw [g5 h0]
      refine Src.ofSlice (P := P) w hu2 _ n2 cap2 _ rowCells_length (fun j u hu => ?_) c2
      have := c1 j u hu
      simp only [Loc.adr, Addr.add_lit]
      simpa using this
  have hO2 : ∀ e j b, e < n2 → L2.sub e j = some b → Owned mem ρ id2 b ∧ ∃ s, ksX[j]? = some (.slice s) := fun e j b _ hb => ⟨⟨L2, _, hL2, hb2, rfl, .inr ⟨e, j, hb⟩⟩, (p7 e j b hb).2.1⟩
  have hwin : ∀ (r : Row) (n : Nat) e j, SameC r (winOf r 0 n) e j := fun r n e j => ⟨rfl, rfl, rfl, rfl⟩
  have hd2 : ∀ e j k, e < n2 → ksX[j]? = some k → DCell B w k (winOf r2 0 n2) e j false (L2.sub e j) (v2 e j) := fun e j k he hk => (hwin r2 n2 e j).dcell (hv2 e j k (by omega) hk).2
  -- the new row's cells, where they are laid anew
  have grown : ∀ (r1 : Row) (v1 : Nat → Nat → Value) (cap tot : Nat) (e j : Nat) (k : CK), r1.n + n2 ≤ tot → e < r1.n + n2 → ksX[j]? = some k → 
      ((rowCells ksX.length r1.n v1 ++ rowCells ksX.length n2 v2).toArray ++ Builtin.zeroCells z.cells (tot - (r1.n + n2)))[e * ksX.length + j]? = some (if e < r1.n then v1 e j else v2 (e - r1.n) j) := by
    intro r1 v1 _ tot e j k htot he hk
    have hj : j < ksX.length := (List.getElem?_eq_some_iff.1 hk).1
    have hlt : e * ksX.length + j < (r1.n + n2) * ksX.length := by
      have : (e + 1) * ksX.length ≤ (r1.n + n2) * ksX.length := Nat.mul_le_mul_right _ (by omega)
      rw [Nat.add_mul, Nat.one_mul] at this
      omega
    rw [Array.getElem?_append, if_pos (by simp only [List.size_toArray, List.length_append, rowCells_length]; rw [← Nat.add_mul]; exact hlt)]
    simp only [List.getElem?_toArray]
    by_cases hen : e < r1.n
    · have hl1 : e * ksX.length + j < r1.n * ksX.length := by
        have : (e + 1) * ksX.length ≤ r1.n * ksX.length := Nat.mul_le_mul_right _ (by omega)
        rw [Nat.add_mul, Nat.one_mul] at this
        omega
      rw [if_pos hen, List.getElem?_append_left (by rw [rowCells_length]; exact hl1)]
      exact rowCells_get hen hj
    · have hge2 : r1.n * ksX.length ≤ e * ksX.length := Nat.mul_le_mul_right _ (by omega)
      rw [if_neg hen, List.getElem?_append_right (by rw [rowCells_length]; omega), rowCells_length]
      rw [show e * ksX.length + j - r1.n * ksX.length = (e - r1.n) * ksX.length + j by rw [Nat.sub_mul]; omega]
      exact rowCells_get (by omega) hj
  have hsizes : ∀ (n : Nat) (v1 : Nat → Nat → Value) (tot : Nat), n + n2 ≤ tot → z.cells.size = ksX.length → tot * ksX.length ≤ ((rowCells ksX.length n v1 ++ rowCells ksX.length n2 v2).toArray ++ Builtin.zeroCells z.cells (tot - (n + n2))).size := by
    intro n v1 tot h hzs
    simp only [Array.size_append, List.size_toArray, List.length_append, rowCells_length, Builtin.zeroCells, Array.size_map, Array.size_range, hzs]
    rw [Nat.sub_mul, ← Nat.add_mul]
    have : (n + n2) * ksX.length ≤ tot * ksX.length := Nat.mul_le_mul_right _ h
    omega
  have hnewc : ∀ (c : Array Value) (T : TypeId) (i : Nat), (w.drew.alloc (.cells c T)).cell? ⟨w.heap.size, 0 + i, none⟩ = c[i]? := by
    intro c T i
    have hg : (w.drew.alloc (.cells c T)).heap[w.heap.size]? = some (.cells c T (0, 0)) := by
      show (w.heap.push _)[w.heap.size]? = _
      simp
    simp only [World.cell?, hg, Option.isSome_none, Bool.false_eq_true, if_false, Nat.zero_add]
  have hnewh : ∀ (c : Array Value) (T : TypeId), (w.drew.alloc (.cells c T)).heap[w.heap.size]? = some (.cells c T (0, 0)) := by
    intro c T
    show (w.heap.push _)[w.heap.size]? = _
    simp
  have hnewo : ∀ (c : Array Value) (T : TypeId) (b : Nat), b < w.heap.size → (w.drew.alloc (.cells c T)).heap[b]? = w.heap[b]? := fun c T b hb => by
    show (w.heap.push _)[b]? = _
    rw [Array.getElem?_push, if_neg (by omega)]
  have hnews : ∀ (c : Array Value) (T : TypeId), w.heap.size ≤ (w.drew.alloc (.cells c T)).heap.size := fun c T => by
    show _ ≤ (w.heap.push _).size
    simp
  split at hd
  · -- to nothing
    rename_i hkk
    cases cksEq_eq hkk
    cases hd
    cases hs
    rename_i a0
    have hK := (Killed.refl mem).step id2
    rcases Nat.eq_zero_or_pos n2 with h0 | h0
    · subst h0
      have hrun := run_append_nothing (P := P) w st xt ty el ei ht hi a0 0 0 (Nat.le_refl _) (.slice a2 0 cap2) (by
        rw [hsz]
        have : rowCells ks.length 0 v2 = [] := by simp [rowCells]
        rw [← this]
        exact hsrc rfl)
      obtain ⟨ρ', m1, m2, m3⟩ := deep_join (w' := w) hm hK (ks := ks) (r1 := .nil) (r2 := winOf r2 0 0) (v1 := fun _ _ => undef) (v2 := v2) (s1 := s0) (s2 := L2.sub) (i1 := id2 + 1) (i2 := id2) (by omega) (fun ⟨_, _, _, _, h⟩ => by cases h) (.inl rfl) (fun e j k he => by simp [Row.n] at he) (fun e j k he => by rw [winOf_n] at he; omega) (fun e j b _ h => by cases h) (fun e j b he => by rw [winOf_n] at he; omega)
        (fun e j e' j' b h => by cases h) p8 (b' := 0) (off' := 0) (tot := 0) (Nat.le_refl _) (fun h => by omega) (fun h => by omega) (fun e j b h => by
          rcases h with ⟨_, h⟩ | ⟨h, _⟩
          · cases h
          · rw [winOf_n] at h; omega) (fun b _ _ => rfl) (fun e j k he => by rw [winOf_n] at he; simp [Row.n] at he) (by rw [winOf_n]; simp [Row.n])
      refine ⟨ρ', _, w, hrun, m1, hK.len, m2, ?_, fun W0 _ _ h => h⟩
      exact .slice (by omega) m3 (by simp) (Nat.le_refl _) (fun h => by omega) (fun _ => ⟨by simp, .inl rfl⟩)
    · have hrun := run_append_grow_src (P := P) w st xt ty el ei z ht hi hz a0 0 0 [] (by
        cases a0 with
        | none => exact run_firstCells_none _ _ _ _ _
        | some a => exact run_firstCells_some _ _ 0 _ _ _ [] (by simp) (fun j v hv => by simp at hv)) (.slice a2 n2 cap2) n2 _ (by rw [hsz]; exact hsrc rfl) (by omega) (by omega) (by
        have hcap := nextslicecap_le (need := 0 + n2) (old := 0) (by omega)
        have : Builtin.nextslicecap (0 + n2) 0 * ei.bytes ≤ (2 * (0 + n2)) * 1000 := Nat.mul_le_mul hcap hbytes
        omega)
      have hge := grownCap_ge w (0 + n2) 0 el
      have hnil : rowCells ks.length 0 (fun _ _ => undef) = [] := by simp [rowCells]
      have hg1 := grown .nil (fun _ _ => undef) 0 (grownCap w (0 + n2) 0 el)
      have hg2 := hsizes 0 (fun _ _ => undef) (grownCap w (0 + n2) 0 el) hge hzs
      rw [hnil, List.nil_append] at hg2
      have e0 : (Row.nil).n = 0 := rfl
      rw [e0, hnil, List.nil_append] at hg1
      rw [List.nil_append] at hrun
      obtain ⟨ρ', m1, m2, m3⟩ := deep_join (w' := w.drew.alloc (.cells ((rowCells ks.length n2 v2).toArray ++ Builtin.zeroCells z.cells (grownCap w (0 + n2) 0 el - (0 + n2))) el)) hm hK (ks := ks) (r1 := .nil) (r2 := winOf r2 0 n2) (v1 := fun _ _ => undef) (v2 := v2) (s1 := s0) (s2 := L2.sub) (i1 := id2 + 1) (i2 := id2) (by omega)
        (fun ⟨_, _, _, _, h⟩ => by cases h) (.inl rfl) (fun e j k he => by simp [Row.n] at he) (fun e j k he => hd2 e j k (by rw [winOf_n] at he; exact he)) (fun e j b _ h => by cases h) (fun e j b he => hO2 e j b (by rw [winOf_n] at he; exact he))
        (fun e j e' j' b h => by cases h) p8 (b' := w.heap.size) (off' := 0) (tot := grownCap w (0 + n2) 0 el) (hnews _ _) (fun _ => ⟨hB, _, _, hnewh _ _, by simpa using hg2⟩) (fun _ => .inl (Nat.le_refl _)) (fun e j b h => by
          rcases h with ⟨_, h⟩ | ⟨h1, h⟩
          · cases h
          · have := own_lt hm (hO2 e j b (by rw [winOf_n] at h1; exact h1) h).1
            omega) (fun b hb _ => hnewo _ _ b hb) (fun e j k he hk => by
          rw [Nat.add_assoc, hnewc]
          rw [winOf_n] at he
          exact hg1 e j k hge he hk) (by rw [winOf_n]; exact hge)
      refine ⟨ρ', _, _, hrun, m1, hK.len, m2, ?_, fun W0 _ hW hb => (hb.drew).alloc (by simpa using hW) _⟩
      rw [winOf_n] at m3
      exact .slice (by omega) m3 (by simp [Row.n]) hge (fun _ => by simp [Loc.adr]) (fun _ => ⟨by simp, .inr (by simp [Loc.adr])⟩)
  · -- to a deep row
    rename_i id n1 hkk
    cases cksEq_eq hkk
    split at hd
    case h_2 => cases hd
    rename_i ksY r1 hb1
    split at hd
    case h_2 => cases hd
    rename_i hne
    rw [Bool.and_eq_true] at hne
    cases cksEq_eq hne.1
    have hnid : id ≠ id2 := fun h => by rw [h] at hne; simp at hne
    cases hd
    obtain ⟨L1, hL1, hr1⟩ := hm.blk _ _ hb1
    cases hs with
    | sliceDead q1 q2 => exact absurd q2 (live_of hm hb1)
    | @slice _ _ _ L1' a cap q1 q2 q3 q4 q5 q6 =>
    rw [hL1] at q2
    cases q2
    have hr1' := hr1
    obtain ⟨u1, u2, u3, u4, u5, u6, u7, u8⟩ := hr1'
    obtain ⟨v1, hv1⟩ := deep_vals hr1
    obtain ⟨q7, q8⟩ := q6 u3
    have hn1 : n1 ≤ r1.n := by omega
    have hK := ((Killed.refl mem).step id2).step id
    have hO1 : ∀ e j b, e < n1 → L1.sub e j = some b → Owned mem ρ id b ∧ ∃ s, ks[j]? = some (.slice s) := fun e j b _ hb => ⟨⟨L1, _, hL1, hb1, rfl, .inr ⟨e, j, hb⟩⟩, (u7 e j b hb).2.1⟩
    have hd1 : ∀ e j k, e < n1 → ks[j]? = some k → DCell B w k (winOf r1 0 n1) e j false (L1.sub e j) (v1 e j) := fun e j k he hk => (hwin r1 n1 e j).dcell (hv1 e j k (by omega) hk).2
    obtain ⟨c1, c2⟩ := deep_cells (n := n1) hn1 hv1
    have hsubne : ∀ e j b, (e < (winOf r1 0 n1).n ∧ L1.sub e j = some b) ∨ (e < (winOf r2 0 n2).n ∧ L2.sub e j = some b) → 0 < L1.tot → b ≠ L1.b := by
      intro e j b h ht
      rcases h with ⟨_, h⟩ | ⟨h1, h⟩
      · exact (u7 e j b h).2.2.2
      · intro he
        rw [winOf_n] at h1
        have h2 := (hO2 e j b h1 h).1
        exact hnid (hm.inj id id2 b (he ▸ ⟨L1, _, hL1, hb1, rfl, .inl ⟨ht, rfl⟩⟩) h2)
    by_cases hfit : n1 + n2 ≤ cap
    · have htot : n1 + n2 ≤ L1.tot := by omega
      -- the world behind it
      have core : ∀ w' : World, w'.heap.size = w.heap.size → (∀ b, (0 < L1.tot → b ≠ L1.b) → w'.heap[b]? = w.heap[b]?) → (0 < L1.tot → ∃ (c : Array Value) (T : TypeId), w'.heap[L1.b]? = some (.cells c T (0, 0)) ∧ L1.off + L1.tot * ks.length ≤ c.size) →
          (∀ e j k, e < n1 + n2 → ks[j]? = some k → w'.cell? ⟨L1.b, L1.off + e * ks.length + j, none⟩ = some (if e < n1 then v1 e j else v2 (e - n1) j)) →
          ∃ ρ', MemR (killM id (killM id2 mem) ++ [some (.deep ks ((winOf r1 0 n1).app (winOf r2 0 n2)) none)]) ρ' B w' ∧ (∀ i, i < mem.length → Less ρ ρ' i) ∧ V ρ' (mem.length + 1) (sl0 (n1 + n2) mem.length) (.slice a (n1 + n2) cap) := by
        intro w' k1 k2 k3 k4
        obtain ⟨ρ', m1, m2, m3⟩ := deep_join (w' := w') hm hK (ks := ks) (r1 := winOf r1 0 n1) (r2 := winOf r2 0 n2) (v1 := v1) (v2 := v2) (s1 := L1.sub) (s2 := L2.sub) (i1 := id) (i2 := id2) hnid (fun _ => .inl rfl) (.inr (.inl rfl))
          (fun e j k he => hd1 e j k (by rw [winOf_n] at he; exact he)) (fun e j k he => hd2 e j k (by rw [winOf_n] at he; exact he)) (fun e j b he => hO1 e j b (by rw [winOf_n] at he; exact he)) (fun e j b he => hO2 e j b (by rw [winOf_n] at he; exact he))
          u8 p8 (b' := L1.b) (off' := L1.off) (tot := L1.tot) (by omega) (fun ht => ⟨(u5 ht).1, k3 ht⟩) (fun ht => .inr ⟨id, .inl rfl, L1, _, hL1, hb1, rfl, .inl ⟨ht, rfl⟩⟩) (fun e j b h => hsubne e j b h (by
            rcases h with ⟨h, _⟩ | ⟨h, _⟩ <;> rw [winOf_n] at h <;> omega)) (fun b _ h => k2 b h) (fun e j k he hk => by
            rw [winOf_n, winOf_n] at he
            rw [winOf_n]
            exact k4 e j k he hk) (by rw [winOf_n, winOf_n]; exact htot)
        rw [winOf_n, winOf_n] at m3
        refine ⟨ρ', m1, m2, .slice (by omega) m3 (by simp) hfit (fun hp => ?_) (fun _ => ⟨by simp; omega, ?_⟩)⟩
        · rcases q8 with q8 | q8
          · omega
          · rw [q8]; simp [Loc.adr]
        · rcases q8 with q8 | q8
          · exact .inl q8
          · right; rw [q8]; simp [Loc.adr]
      rcases Nat.eq_zero_or_pos n2 with h0 | h0
      · subst h0
        have hrun := run_append_nothing (P := P) w st xt ty el ei ht hi a n1 cap (by omega) (.slice a2 0 cap2) (by
          rw [hsz]
          have : rowCells ks.length 0 v2 = [] := by simp [rowCells]
          rw [← this]
          exact hsrc rfl)
        obtain ⟨ρ', m1, m2, m3⟩ := core w rfl (fun _ _ => rfl) (fun ht => by
          obtain ⟨_, c, T, h1, h2⟩ := u5 ht
          exact ⟨c, T, h1, by rw [← u2]; exact h2⟩) (fun e j k he hk => by
          rw [if_pos (by omega)]
          exact (hv1 e j k (by omega) hk).1)
        exact ⟨ρ', _, w, hrun, m1, hK.len, m2, m3, fun W0 _ _ h => h⟩
      · have ha : a = some (L1.adr 0 0) := by
          rcases q8 with q8 | q8
          · omega
          · exact q8
        obtain ⟨b8, c, T, b9, b10⟩ := u5 (by omega)
        rw [u2] at b10
        have hcapn : n1 * ks.length + n2 * ks.length ≤ L1.tot * ks.length := by rw [← Nat.add_mul]; exact Nat.mul_le_mul_right _ htot
        have hin : L1.off + n1 * ks.length + (rowCells ks.length n2 v2).length ≤ c.size := by rw [rowCells_length]; omega
        have hrun := run_append_room_src (P := P) w st xt ty el ei ht hi L1.b L1.off n1 cap (.slice a2 n2 cap2) n2 _ (by rw [hsz]; exact hsrc rfl) hfit (fun j hj => by
            rw [hsz]
            simp [World.cell?, b9]; omega) (fun j hj => by simp [World.frozen?, b9])
        rw [hsz] at hrun
        obtain ⟨c', t1, t2, t3, t4, t5⟩ := setCells_block (rowCells ks.length n2 v2) (L1.off + n1 * ks.length) w c b9 hin
        obtain ⟨ρ', m1, m2, m3⟩ := core _ t5 (fun b hb => t4 b (hb (by omega))) (fun _ => ⟨c', T, t1, by omega⟩) (fun e j k he hk => by
          have hj : j < ks.length := (List.getElem?_eq_some_iff.1 hk).1
          simp only [World.cell?, t1, Option.isSome_none, Bool.false_eq_true, if_false, t3]
          by_cases hen : e < n1
          · have hlt : e * ks.length + j < n1 * ks.length := by
              have : (e + 1) * ks.length ≤ n1 * ks.length := Nat.mul_le_mul_right _ (by omega)
              rw [Nat.add_mul, Nat.one_mul] at this
              omega
            rw [if_neg (by omega), if_pos hen]
            have := (hv1 e j k (by omega) hk).1
            simpa [World.cell?, b9] using this
          · have hge2 : n1 * ks.length ≤ e * ks.length := Nat.mul_le_mul_right _ (by omega)
            have hlt : e * ks.length + j < (n1 + n2) * ks.length := by
              have : (e + 1) * ks.length ≤ (n1 + n2) * ks.length := Nat.mul_le_mul_right _ (by omega)
              rw [Nat.add_mul, Nat.one_mul] at this
              omega
            rw [Nat.add_mul] at hlt
            rw [if_pos (by rw [rowCells_length]; omega), if_neg hen]
            rw [show L1.off + e * ks.length + j - (L1.off + n1 * ks.length) = (e - n1) * ks.length + j by rw [Nat.sub_mul]; omega]
            exact rowCells_get (by omega) hj)
        rw [ha] at m3
        refine ⟨ρ', _, _, ?_, m1, hK.len, m2, m3, fun W0 hW _ h => below_setCells h (by rw [hW]; exact b8)⟩
        rw [ha]
        simpa [Loc.adr] using hrun
    · have hold : (Builtin.firstCells ei.size n1 (.slice a n1 cap)).run P w.drew = .ok (rowCells ks.length n1 v1).toArray w.drew := by
        rw [hsz]
        rcases Nat.eq_zero_or_pos n1 with h0 | h0
        · subst h0
          have : rowCells ks.length 0 v1 = [] := by simp [rowCells]
          rw [this]
          cases a with
          | none => exact run_firstCells_none _ _ _ _ _
          | some a => exact run_firstCells_some _ _ 0 _ _ _ [] (by simp) (fun j v hv => by simp at hv)
        · rw [q5 h0]
          refine run_firstCells_some w.drew _ n1 _ _ _ _ rowCells_length (fun j v hv => ?_)
          have := c1 j v hv
          simp only [Loc.adr, Addr.add_lit]
          simpa using this
      have hrun := run_append_grow_src (P := P) w st xt ty el ei z ht hi hz a n1 cap _ hold (.slice a2 n2 cap2) n2 _ (by rw [hsz]; exact hsrc rfl) (by omega) (by omega) (by
        have hcap := nextslicecap_le (need := n1 + n2) (old := cap) (by omega)
        have : Builtin.nextslicecap (n1 + n2) cap * ei.bytes ≤ (2 * (n1 + n2)) * 1000 := Nat.mul_le_mul hcap hbytes
        omega)
      have hge := grownCap_ge w (n1 + n2) cap el
      have hg1 := grown (winOf r1 0 n1) v1 0 (grownCap w (n1 + n2) cap el)
      have hg2 := hsizes n1 v1 (grownCap w (n1 + n2) cap el) hge hzs
      rw [winOf_n] at hg1
      obtain ⟨ρ', m1, m2, m3⟩ := deep_join (w' := w.drew.alloc (.cells ((rowCells ks.length n1 v1 ++ rowCells ks.length n2 v2).toArray ++ Builtin.zeroCells z.cells (grownCap w (n1 + n2) cap el - (n1 + n2))) el)) hm hK (ks := ks) (r1 := winOf r1 0 n1) (r2 := winOf r2 0 n2) (v1 := v1) (v2 := v2) (s1 := L1.sub) (s2 := L2.sub) (i1 := id) (i2 := id2) hnid
        (fun _ => .inl rfl) (.inr (.inl rfl)) (fun e j k he => hd1 e j k (by rw [winOf_n] at he; exact he)) (fun e j k he => hd2 e j k (by rw [winOf_n] at he; exact he)) (fun e j b he => hO1 e j b (by rw [winOf_n] at he; exact he)) (fun e j b he => hO2 e j b (by rw [winOf_n] at he; exact he))
        u8 p8 (b' := w.heap.size) (off' := 0) (tot := grownCap w (n1 + n2) cap el) (hnews _ _) (fun _ => ⟨hB, _, _, hnewh _ _, by simpa using hg2⟩) (fun _ => .inl (Nat.le_refl _)) (fun e j b h => by
          rcases h with ⟨h1, h⟩ | ⟨h1, h⟩ <;> rw [winOf_n] at h1
          · have := own_lt hm (hO1 e j b h1 h).1
            omega
          · have := own_lt hm (hO2 e j b h1 h).1
            omega) (fun b hb _ => hnewo _ _ b hb) (fun e j k he hk => by
          rw [Nat.add_assoc, hnewc]
          rw [winOf_n, winOf_n] at he
          rw [winOf_n]
          exact hg1 e j k hge he hk) (by rw [winOf_n, winOf_n]; exact hge)
      refine ⟨ρ', _, _, hrun, m1, hK.len, m2, ?_, fun W0 _ hW hb => (hb.drew).alloc (by simpa using hW) _⟩
      rw [winOf_n, winOf_n] at m3
      exact .slice (by omega) m3 (by simp) hge (fun _ => by simp [Loc.adr]) (fun _ => ⟨by simp, .inr (by simp [Loc.adr])⟩)
  · cases hd
end
end Go.Ev

/- How blocks are made, written and forgotten: the relation is kept. No conditions. -/
import Derived.Test.YtlfeobdfgmlmpaaGreatDoorEvE
import Derived.Laws.CopyRow
namespace Go.Ev
open Go.RowKit
section
variable {P : Program} {mem mem' : List (Option Blk)} {ρ ρ' : Map} {B : Nat} {w w' : World}

theorem V.cells {N : Nat} {x cx : Value} (h : V ρ N x cx) (hu : isUnk x = false) : (lcells x).length = cx.cells.size ∧ ∀ (i : Nat) (p q : Value), (lcells x)[i]? = some p → cx.cells[i]? = some q → V ρ N p q := by
  have one : ∀ (x cx : Value), V ρ N x cx → lcells x = [x] → cx.cells = #[cx] → (lcells x).length = cx.cells.size ∧ ∀ (i : Nat) (p q : Value), (lcells x)[i]? = some p → cx.cells[i]? = some q → V ρ N p q := by
    intro x cx hv h1 h2
    rw [h1, h2]
    refine ⟨rfl, fun i p q hp hq => ?_⟩
    cases i with
    | zero => simp at hp hq; subst hp; subst hq; exact hv
    | succ i => simp at hp
  cases h with
  | unk => simp [isUnk] at hu
  | agg h1 h2 => exact ⟨h1, fun i p q hp hq => h2 i p q (by simpa [lcells] using hp) hq⟩
  | bool => exact one _ _ .bool rfl rfl
  | int => exact one _ _ .int rfl rfl
  | str => exact one _ _ .str rfl rfl
  | ptrNil => exact one _ _ .ptrNil rfl rfl
  | nilFunc => exact one _ _ .nilFunc rfl rfl
  | nilIface => exact one _ _ .nilIface rfl rfl
  | @iface s b c h1 h2 =>
    cases b with
    | true =>
      obtain ⟨t, x, rfl⟩ := h1 rfl
      exact one _ _ (.iface h1 h2) rfl rfl
    | false =>
      obtain rfl := h2 rfl
      exact one _ _ (.iface h1 h2) rfl rfl
  | sliceNil => exact one _ _ .sliceNil rfl rfl
  | mapDead h1 h2 => exact one _ _ (.mapDead h1 h2) rfl rfl
  | map h1 h2 => exact one _ _ (.map h1 h2) rfl rfl
  | ptrDead h1 h2 => exact one _ _ (.ptrDead h1 h2) rfl rfl
  | sliceDead h1 h2 => exact one _ _ (.sliceDead h1 h2) rfl rfl
  | ptr h1 h2 h3 => exact one _ _ (.ptr h1 h2 h3) rfl rfl
  | slice h1 h2 h3 h4 h5 h6 => exact one _ _ (.slice h1 h2 h3 h4 h5 h6) rfl rfl
  | tuple h1 h2 => exact one _ _ (.tuple h1 h2) rfl rfl
  | func h1 h2 h3 h4 => exact one _ _ (.func h1 h2 h3 h4) rfl rfl

theorem cell1_one {N : Nat} {x cx : Value} (h : V ρ N x cx) (hx : cell1 x = true) : cx.oneCell' = true := by
  cases h with
  | @iface s b c h1 h2 =>
    cases b with
    | true =>
      obtain ⟨t, x, rfl⟩ := h1 rfl
      rfl
    | false =>
      obtain rfl := h2 rfl
      rfl
  | _ => first | rfl | simp [cell1] at hx

theorem one_unk {x : Value} (h : (lcells x).all cell1 = true) : isUnk x = false := by
  cases x <;> first | rfl | simp [lcells, cell1] at h

theorem BlkR.box_mono {cells : List Value} {L : Loc} (hN : mem.length ≤ mem'.length) (hL : ∀ id, id < mem.length → Less ρ ρ' id) (hb : w'.heap[L.b]? = w.heap[L.b]?) (h : BlkR mem ρ w B L (.box cells)) : BlkR mem' ρ' w' B L (.box cells) := by
  obtain ⟨h1, h2, h3, h4, c, T, h5, h6, h7, h0⟩ := h
  exact ⟨h1, h2, h3, h4, c, T, hb.trans h5, h6, fun j x y hx hy => (h7 j x y hx hy).mono hN hL, h0⟩

theorem BlkR.row_mono {ks : List CK} {own : Bool} {r : Row} {L : Loc} (hok : ∀ b, okB mem ρ w b → okB mem' ρ' w' b ∧ w'.heap[b]? = w.heap[b]?) (hb : own = true → 0 < L.tot → w'.heap[L.b]? = w.heap[L.b]?)
    (h : BlkR mem ρ w B L (.row ks own r)) : BlkR mem' ρ' w' B L (.row ks own r) := by
  obtain ⟨h1, h2, h3, h4, h0⟩ := h
  refine ⟨h1, h2, fun ho => ⟨(h3 ho).1, (h3 ho).2.1, fun ht => ?_⟩, fun hn => ⟨fun ho => (hok _ ((h4 hn).1 ho)).1, ?_⟩, h0⟩
  · obtain ⟨h5, c, T, h6, h7⟩ := (h3 ho).2.2 ht
    exact ⟨h5, c, T, (hb ho ht).trans h6, h7⟩
  · have h5 := (h4 hn).2
    refine h5.mono hok ?_
    cases own with
    | false => exact (hok _ ((h4 hn).1 rfl)).2
    | true => exact hb rfl (by have := (h3 rfl).2.1; omega)

theorem BlkR.foot_same {L : Loc} {blk : Blk} (hN : mem.length ≤ mem'.length) (hL : ∀ id, id < mem.length → Less ρ ρ' id) (hok : ∀ b, okB mem ρ w b → okB mem' ρ' w' b ∧ w'.heap[b]? = w.heap[b]?)
    (hf : blk.own = true → ∀ b, L.foot b → w'.heap[b]? = w.heap[b]?) (hup : Upb mem ρ w mem' ρ' w' blk) (hr : BlkR mem ρ w B L blk) : BlkR mem' ρ' w' B L blk := by
  cases blk with
  | box cells => exact BlkR.box_mono hN hL (hf rfl _ (.inl ⟨hr.2.2.2.1, rfl⟩)) hr
  | row ks own r => exact BlkR.row_mono hok (fun ho ht => hf ho _ (.inl ⟨ht, rfl⟩)) hr
  | deep ks r h => exact BlkR.deep_same (hf rfl) hr
  | bor p e j ks r => exact BlkR.bor_same hup hr
  | map k I Bo =>
    obtain ⟨h1, h2, h3, es, c, h4, h5⟩ := hr
    exact ⟨h1, h2, h3, es, c, (hf rfl _ (.inl ⟨h2, rfl⟩)).trans h4, h5⟩

/-- The general step: every block of the new memory is an old one that has not turned, or is shown. -/
theorem MemR.step (h : MemR mem ρ B w) (hN : mem.length ≤ mem'.length) (hL : ∀ id, id < mem.length → Less ρ ρ' id) (hok : ∀ b, okB mem ρ w b → okB mem' ρ' w' b ∧ w'.heap[b]? = w.heap[b]?)
    (hblk : ∀ (id : Nat) (blk : Blk), mem'[id]? = some (some blk) → (mem[id]? = some (some blk) ∧ ρ' id = ρ id ∧ (∀ L, ρ id = some L → blk.own = true → ∀ b, L.foot b → w'.heap[b]? = w.heap[b]?) ∧ Upb mem ρ w mem' ρ' w' blk) ∨ ∃ L, ρ' id = some L ∧ BlkR mem' ρ' w' B L blk)
    (hdead : ∀ (id : Nat), (∀ (b : Blk), mem'[id]? ≠ some (some b)) → ρ' id = none)
    (hinj : ∀ (i j b : Nat), Owned mem' ρ' i b → Owned mem' ρ' j b → i = j) : MemR mem' ρ' B w' := by
  refine ⟨fun id blk hid => ?_, hdead, hinj⟩
  rcases hblk id blk hid with ⟨h1, h2, h3, h4⟩ | h1
  · obtain ⟨L, hL', hr⟩ := h.blk id blk h1
    exact ⟨L, h2.trans hL', BlkR.foot_same hN hL hok (h3 L hL') h4 hr⟩
  · exact h1

theorem own_lt (h : MemR mem ρ B w) {id b : Nat} (ho : Owned mem ρ id b) : b < w.heap.size := by
  obtain ⟨L, blk, h1, h3, h4, h2⟩ := ho
  obtain ⟨M, hM, hr⟩ := h.blk id blk h3
  rw [h1] at hM
  cases hM
  cases blk with
  | box cells =>
    obtain ⟨_, _, _, _, c, T, h5, _, _, h0⟩ := hr
    rcases h2 with ⟨_, rfl⟩ | ⟨e, j, h2⟩
    · exact (Array.getElem?_eq_some_iff.1 h5).1
    · rw [h0] at h2; cases h2
  | row ks own r =>
    rcases h2 with ⟨ht, rfl⟩ | ⟨e, j, h2⟩
    · obtain ⟨_, c, T, h5, _⟩ := (hr.2.2.1 h4).2.2 ht
      exact (Array.getElem?_eq_some_iff.1 h5).1
    · rw [hr.2.2.2.2] at h2; cases h2
  | deep ks r hh => exact (BlkR.deep_lt hr h2).1
  | bor p e j ks r => cases h4
  | map k I Bo =>
    obtain ⟨_, _, h0, es, c, h5, _⟩ := hr
    rcases h2 with ⟨_, rfl⟩ | ⟨e, j, h2⟩
    · exact (Array.getElem?_eq_some_iff.1 h5).1
    · rw [h0] at h2; cases h2

theorem get_snoc {α : Type} {l : List α} {x y : α} {i : Nat} (h : (l ++ [x])[i]? = some y) : l[i]? = some y ∧ i < l.length ∨ i = l.length ∧ y = x := by
  rw [List.getElem?_append] at h
  split at h
  · exact .inl ⟨h, by assumption⟩
  · rename_i hi
    have : i - l.length = 0 := by
      have := (List.getElem?_eq_some_iff.1 h).1
      simp at this
      omega
    rw [this] at h
    simp at h
    exact .inr ⟨by omega, h.symm⟩

/-- The place of a new block. -/
def Map.snoc (ρ : Map) (n : Nat) (L : Loc) : Map := fun id => if id = n then some L else ρ id

theorem Map.snoc_new {n : Nat} {L : Loc} : Map.snoc ρ n L n = some L := by simp [Map.snoc]
theorem Map.snoc_old {n id : Nat} {L : Loc} (h : id < n) : Map.snoc ρ n L id = ρ id := by simp [Map.snoc]; omega

theorem Loc.foot_s0 {L : Loc} (h : L.sub = s0) {b : Nat} (hb : L.foot b) : 0 < L.tot ∧ b = L.b := by
  rcases hb with hb | ⟨e, j, hb⟩
  · exact hb
  · rw [h] at hb; cases hb
theorem Loc.fresh {L : Loc} {n : Nat} (h : L.sub = s0) (h2 : 0 < L.tot → n ≤ L.b) : ∀ b, L.foot b → n ≤ b := fun b hb => by
  obtain ⟨h3, rfl⟩ := Loc.foot_s0 h hb
  exact h2 h3

/-- A new block in new memory (or without room). -/
theorem MemR.alloc (h : MemR mem ρ B w) (hb : Below w.heap.size w w') {blk : Blk} {L : Loc} (hfresh : blk.own = true → ∀ b, L.foot b → w.heap.size ≤ b) (hr : BlkR (mem ++ [some blk]) (Map.snoc ρ mem.length L) w' B L blk) :
    MemR (mem ++ [some blk]) (Map.snoc ρ mem.length L) B w' := by
  have old : ∀ (i b : Nat), Owned (mem ++ [some blk]) (Map.snoc ρ mem.length L) i b → (Owned mem ρ i b ∧ b < w.heap.size) ∨ (i = mem.length ∧ w.heap.size ≤ b) := by
    intro i b ⟨M, blk', g1, g4, g5, g2⟩
    rcases get_snoc g4 with ⟨g6, g7⟩ | ⟨g6, g8⟩
    · rw [Map.snoc_old g7] at g1
      have : Owned mem ρ i b := ⟨M, blk', g1, g6, g5, g2⟩
      exact .inl ⟨this, own_lt h this⟩
    · subst g6
      cases g8
      rw [Map.snoc_new] at g1
      cases g1
      exact .inr ⟨rfl, hfresh g5 b g2⟩
  have hok : ∀ b, okB mem ρ w b → okB (mem ++ [some blk]) (Map.snoc ρ mem.length L) w' b ∧ w'.heap[b]? = w.heap[b]? := by
    intro b ⟨h1, h2⟩
    refine ⟨⟨Nat.lt_of_lt_of_le h1 hb.size, fun id ho => ?_⟩, hb.block b h1⟩
    rcases old id b ho with ⟨g1, _⟩ | ⟨_, g2⟩
    · exact h2 id g1
    · omega
  refine h.step (by simp) (fun id hid => .inl (Map.snoc_old hid)) hok (fun id b hid => ?_) (fun id hid => ?_) (fun i j b hi hj => ?_)
  · rcases get_snoc hid with ⟨g6, g7⟩ | ⟨g6, g7⟩
    · refine .inl ⟨g6, Map.snoc_old g7, fun M hM ho c hc => hb.block _ (own_lt h ⟨M, b, hM, g6, ho, hc⟩), fun p e j ks r _ kps rp hh Lp q1 q2 => ?_⟩
      have hp : p < mem.length := (List.getElem?_eq_some_iff.1 q1).1
      exact ⟨by rw [List.getElem?_append_left hp]; exact q1, (Map.snoc_old hp).trans q2, fun ht => hb.block _ (own_lt h ⟨Lp, _, q2, q1, rfl, .inl ⟨ht, rfl⟩⟩)⟩
    · cases g7
      subst g6
      exact .inr ⟨L, Map.snoc_new, hr⟩
  · have hne : id ≠ mem.length := by
      rintro rfl
      exact hid blk (by simp)
    have : Map.snoc ρ mem.length L id = ρ id := by simp [Map.snoc, hne]
    rw [this]
    refine h.dead id fun b hb' => hid b ?_
    have := (List.getElem?_eq_some_iff.1 hb').1
    rw [List.getElem?_append_left this]
    exact hb'
  · rcases old i b hi with ⟨p1, p2⟩ | ⟨p1, p2⟩ <;> rcases old j b hj with ⟨q1, q2⟩ | ⟨q1, q2⟩
    · exact h.inj i j b p1 q1
    · omega
    · omega
    · omega

theorem get_set {α : Type} {l : List α} {x y : α} {n i : Nat} (h : (l.set n x)[i]? = some y) : (i ≠ n ∧ l[i]? = some y) ∨ (i = n ∧ y = x ∧ n < l.length) := by
  rw [List.getElem?_set] at h
  by_cases hni : n = i
  · simp only [hni, if_true] at h
    split at h
    · simp at h
      exact .inr ⟨hni.symm, h.symm, by omega⟩
    · cases h
  · simp only [hni, if_false] at h
    exact .inl ⟨fun e => hni e.symm, h⟩

/-- A block is only read from now on. -/
theorem MemR.freeze (h : MemR mem ρ B w) {id : Nat} {ks : List CK} {own : Bool} {r : Row} (hid : mem[id]? = some (some (.row ks own r))) : ∃ ρ', (∀ i, Less ρ ρ' i) ∧ (∀ i, i ≠ id → ρ' i = ρ i) ∧ MemR (mem.set id (some (.row ks false r))) ρ' B w ∧
    (∀ b, okB mem ρ w b → okB (mem.set id (some (.row ks false r))) ρ' w b) ∧ (∀ L, ρ id = some L → 0 < L.n → okB (mem.set id (some (.row ks false r))) ρ' w L.b) := by
  obtain ⟨L, hL, hr⟩ := h.blk id _ hid
  have hless : ∀ i, Less ρ (fun i => if i = id then some { L with own := false } else ρ i) i := by
    intro i
    by_cases hi : i = id
    · subst hi; exact .inr (.inr ⟨L, false, L.sub, hL, by simp, fun hf => by cases hf⟩)
    · exact .inl (by simp [hi])
  refine ⟨fun i => if i = id then some { L with own := false } else ρ i, hless, fun i hi => by simp [hi], ?_⟩
  have hlt : id < mem.length := (List.getElem?_eq_some_iff.1 hid).1
  have hown : ∀ (i b : Nat), Owned (mem.set id (some (.row ks false r))) (fun i => if i = id then some { L with own := false } else ρ i) i b → i ≠ id ∧ Owned mem ρ i b := by
    intro i b ⟨M, blk, g1, g4, g5, g2⟩
    rcases get_set g4 with ⟨g6, g7⟩ | ⟨g6, g7, _⟩
    · simp only [g6, if_false] at g1
      exact ⟨g6, M, blk, g1, g7, g5, g2⟩
    · cases g7
      cases g5
  have hok : ∀ b, okB mem ρ w b → okB (mem.set id (some (.row ks false r))) (fun i => if i = id then some { L with own := false } else ρ i) w b :=
    fun b ⟨h1, h2⟩ => ⟨h1, fun i ho => h2 i (hown i b ho).2⟩
  have hL0 : 0 < L.n → okB (mem.set id (some (.row ks false r))) (fun i => if i = id then some { L with own := false } else ρ i) w L.b := by
    intro hn
    have hn' : 0 < r.n := by have := hr.1; omega
    cases own with
    | false => exact hok _ ((hr.2.2.2.1 hn').1 rfl)
    | true =>
      have ht : 0 < L.tot := by have := (hr.2.2.1 rfl).2.1; omega
      have ho : Owned mem ρ id L.b := ⟨L, _, hL, hid, rfl, .inl ⟨ht, rfl⟩⟩
      refine ⟨own_lt h ho, fun i hM => ?_⟩
      obtain ⟨q1, q2⟩ := hown i L.b hM
      exact q1 (h.inj i id L.b q2 ho)
  refine ⟨?_, hok, fun M hM hn => ?_⟩
  · refine h.step (by simp) (fun i _ => hless i) (fun b hb => ⟨hok b hb, rfl⟩) (fun i b hi => ?_) (fun i hi => ?_) (fun i j b hi hj => ?_)
    · rcases get_set hi with ⟨g6, g7⟩ | ⟨g6, g7, _⟩
      · refine .inl ⟨g7, by simp [g6], fun _ _ _ _ _ => rfl, fun p e j ks' r' _ kps rp hh Lp q1 q2 => ?_⟩
        have hne : p ≠ id := by rintro rfl; rw [hid] at q1; cases q1
        exact ⟨by rw [List.getElem?_set_ne (fun e => hne e.symm)]; exact q1, by simp [hne, q2], fun _ => rfl⟩
      · cases g7
        refine .inr ⟨{ L with own := false }, by simp [g6], hr.1, hr.2.1, (fun hf => by cases hf), fun hn => ⟨fun _ => hL0 (by have := hr.1; omega), ?_⟩, hr.2.2.2.2⟩
        exact (hr.2.2.2.1 hn).2.mono (fun b hb => ⟨hok b hb, rfl⟩) rfl
    · have hne : i ≠ id := by
        rintro rfl
        exact hi (.row ks false r) (by simp [hlt])
      simp only [hne, if_false]
      refine h.dead i fun b hb => hi b ?_
      rw [List.getElem?_set_ne (fun e => hne e.symm)]
      exact hb
    · exact h.inj i j b (hown i b hi).2 (hown j b hj).2
  · rw [hL] at hM
    cases hM
    exact hL0 hn
end
end Go.Ev

/- How blocks are made, written and forgotten: the relation is kept. No conditions. -/
import Derived.Test.YtofkkhdmjllcfaaDoorEvE
import Derived.Laws.CopyRow
namespace Go.Ev
open Go.RowKit
section
variable {P : Program} {mem mem' : List (Option Blk)} {ρ ρ' : Map} {B : Nat} {w w' : World}

theorem V.cells {N : Nat} {x cx : Value} (h : V ρ N x cx) (hu : isUnk x = false) : (lcells x).length = cx.cells.size ∧ ∀ (i : Nat) (p q : Value), (lcells x)[i]? = some p → cx.cells[i]? = some q → V ρ N p q := by
  have one : ∀ (x cx : Value), V ρ N x cx → lcells x = [x] → cx.cells = #[cx] → (lcells x).length = cx.cells.size ∧ ∀ (i : Nat) (p q : Value), (lcells x)[i]? = some p → cx.cells[i]? = some q → V ρ N p q := by
    intro x cx hv h1 h2
    rw [h1, h2]
    refine ⟨rfl, fun i p q hp hq => ?_⟩
    cases i with
    | zero => simp at hp hq; subst hp; subst hq; exact hv
    | succ i => simp at hp
  cases h with
  | unk => simp [isUnk] at hu
  | agg h1 h2 => exact ⟨h1, fun i p q hp hq => h2 i p q (by simpa [lcells] using hp) hq⟩
  | bool => exact one _ _ .bool rfl rfl
  | int => exact one _ _ .int rfl rfl
  | str => exact one _ _ .str rfl rfl
  | ptrNil => exact one _ _ .ptrNil rfl rfl
  | nilFunc => exact one _ _ .nilFunc rfl rfl
  | nilIface => exact one _ _ .nilIface rfl rfl
  | @iface s b c h1 h2 =>
    cases b with
    | true =>
      obtain ⟨t, x, rfl⟩ := h1 rfl
      exact one _ _ (.iface h1 h2) rfl rfl
    | false =>
      obtain rfl := h2 rfl
      exact one _ _ (.iface h1 h2) rfl rfl
  | sliceNil => exact one _ _ .sliceNil rfl rfl
  | ptrDead h1 h2 => exact one _ _ (.ptrDead h1 h2) rfl rfl
  | sliceDead h1 h2 => exact one _ _ (.sliceDead h1 h2) rfl rfl
  | ptr h1 h2 h3 => exact one _ _ (.ptr h1 h2 h3) rfl rfl
  | slice h1 h2 h3 h4 h5 h6 => exact one _ _ (.slice h1 h2 h3 h4 h5 h6) rfl rfl
  | tuple h1 h2 => exact one _ _ (.tuple h1 h2) rfl rfl
  | func h1 h2 h3 h4 => exact one _ _ (.func h1 h2 h3 h4) rfl rfl

theorem cell1_one {N : Nat} {x cx : Value} (h : V ρ N x cx) (hx : cell1 x = true) : cx.oneCell' = true := by
  cases h with
  | @iface s b c h1 h2 =>
    cases b with
    | true =>
      obtain ⟨t, x, rfl⟩ := h1 rfl
      rfl
    | false =>
      obtain rfl := h2 rfl
      rfl
  | _ => first | rfl | simp [cell1] at hx

theorem one_unk {x : Value} (h : (lcells x).all cell1 = true) : isUnk x = false := by
  cases x <;> first | rfl | simp [lcells, cell1] at h

theorem BlkR.box_mono {cells : List Value} {L : Loc} (hN : mem.length ≤ mem'.length) (hL : ∀ id, id < mem.length → Less ρ ρ' id) (hb : w'.heap[L.b]? = w.heap[L.b]?) (h : BlkR mem ρ w B L (.box cells)) : BlkR mem' ρ' w' B L (.box cells) := by
  obtain ⟨h1, h2, h3, h4, c, T, h5, h6, h7⟩ := h
  exact ⟨h1, h2, h3, h4, c, T, hb.trans h5, h6, fun j x y hx hy => (h7 j x y hx hy).mono hN hL⟩

theorem BlkR.row_mono {ks : List CK} {own : Bool} {r : Row} {L : Loc} (hok : ∀ b, okB mem ρ w b → okB mem' ρ' w' b ∧ w'.heap[b]? = w.heap[b]?) (hb : own = true → 0 < L.tot → w'.heap[L.b]? = w.heap[L.b]?)
    (h : BlkR mem ρ w B L (.row ks own r)) : BlkR mem' ρ' w' B L (.row ks own r) := by
  obtain ⟨h1, h2, h3, h4⟩ := h
  refine ⟨h1, h2, fun ho => ⟨(h3 ho).1, (h3 ho).2.1, fun ht => ?_⟩, fun hn => ⟨fun ho => (hok _ ((h4 hn).1 ho)).1, ?_⟩⟩
  · obtain ⟨h5, c, T, h6, h7⟩ := (h3 ho).2.2 ht
    exact ⟨h5, c, T, (hb ho ht).trans h6, h7⟩
  · have h5 := (h4 hn).2
    refine h5.mono hok ?_
    cases own with
    | false => exact (hok _ ((h4 hn).1 rfl)).2
    | true => exact hb rfl (by have := (h3 rfl).2.1; omega)

/-- The general step: every block of the new memory is an old one that has not turned, or is shown. -/
theorem MemR.step (h : MemR mem ρ B w) (hN : mem.length ≤ mem'.length) (hL : ∀ id, id < mem.length → Less ρ ρ' id) (hok : ∀ b, okB mem ρ w b → okB mem' ρ' w' b ∧ w'.heap[b]? = w.heap[b]?)
    (hblk : ∀ (id : Nat) (blk : Blk), mem'[id]? = some (some blk) → (mem[id]? = some (some blk) ∧ ρ' id = ρ id ∧ ∀ L, ρ id = some L → blk.own = true → 0 < L.tot → w'.heap[L.b]? = w.heap[L.b]?) ∨ ∃ L, ρ' id = some L ∧ BlkR mem' ρ' w' B L blk)
    (hdead : ∀ (id : Nat), (∀ (b : Blk), mem'[id]? ≠ some (some b)) → ρ' id = none)
    (hinj : ∀ (i j : Nat) (L M : Loc), Owned mem' ρ' i L → Owned mem' ρ' j M → L.b = M.b → i = j) : MemR mem' ρ' B w' := by
  refine ⟨fun id blk hid => ?_, hdead, hinj⟩
  rcases hblk id blk hid with ⟨h1, h2, h3⟩ | h1
  · obtain ⟨L, hL', hr⟩ := h.blk id blk h1
    refine ⟨L, h2.trans hL', ?_⟩
    cases blk with
    | box cells => exact BlkR.box_mono hN hL (h3 L hL' rfl hr.2.2.2.1) hr
    | row ks own r => exact BlkR.row_mono hok (fun ho => h3 L hL' ho) hr
  · exact h1

theorem own_lt (h : MemR mem ρ B w) {id : Nat} {L : Loc} (ho : Owned mem ρ id L) : L.b < w.heap.size := by
  obtain ⟨h1, h2, blk, h3, h4⟩ := ho
  obtain ⟨M, hM, hr⟩ := h.blk id blk h3
  rw [h1] at hM
  cases hM
  cases blk with
  | box cells =>
    obtain ⟨_, _, _, _, c, T, h5, _⟩ := hr
    exact (Array.getElem?_eq_some_iff.1 h5).1
  | row ks own r =>
    obtain ⟨_, c, T, h5, _⟩ := (hr.2.2.1 h4).2.2 h2
    exact (Array.getElem?_eq_some_iff.1 h5).1

theorem get_snoc {α : Type} {l : List α} {x y : α} {i : Nat} (h : (l ++ [x])[i]? = some y) : l[i]? = some y ∧ i < l.length ∨ i = l.length ∧ y = x := by
  rw [List.getElem?_append] at h
  split at h
  · exact .inl ⟨h, by assumption⟩
  · rename_i hi
    have : i - l.length = 0 := by
      have := (List.getElem?_eq_some_iff.1 h).1
      simp at this
      omega
    rw [this] at h
    simp at h
    exact .inr ⟨by omega, h.symm⟩

/-- The place of a new block. -/
def Map.snoc (ρ : Map) (n : Nat) (L : Loc) : Map := fun id => if id = n then some L else ρ id

theorem Map.snoc_new {n : Nat} {L : Loc} : Map.snoc ρ n L n = some L := by simp [Map.snoc]
theorem Map.snoc_old {n id : Nat} {L : Loc} (h : id < n) : Map.snoc ρ n L id = ρ id := by simp [Map.snoc]; omega

/-- A new block in new memory (or without room). -/
theorem MemR.alloc (h : MemR mem ρ B w) (hb : Below w.heap.size w w') {blk : Blk} {L : Loc} (hfresh : 0 < L.tot → w.heap.size ≤ L.b) (hr : BlkR (mem ++ [some blk]) (Map.snoc ρ mem.length L) w' B L blk) :
    MemR (mem ++ [some blk]) (Map.snoc ρ mem.length L) B w' := by
  have hok : ∀ b, okB mem ρ w b → okB (mem ++ [some blk]) (Map.snoc ρ mem.length L) w' b ∧ w'.heap[b]? = w.heap[b]? := by
    intro b ⟨h1, h2⟩
    refine ⟨⟨Nat.lt_of_lt_of_le h1 hb.size, fun id M ⟨g1, g2, g3, g4, g5⟩ => ?_⟩, hb.block b h1⟩
    rcases get_snoc g4 with ⟨g6, g7⟩ | ⟨g6, _⟩
    · rw [Map.snoc_old g7] at g1
      exact h2 id M ⟨g1, g2, g3, g6, g5⟩
    · subst g6
      rw [Map.snoc_new] at g1
      cases g1
      have := hfresh g2
      omega
  refine h.step (by simp) (fun id hid => .inl (Map.snoc_old hid)) hok (fun id b hid => ?_) (fun id hid => ?_) (fun i j M K hi hj hMK => ?_)
  · rcases get_snoc hid with ⟨g6, g7⟩ | ⟨g6, g7⟩
    · exact .inl ⟨g6, Map.snoc_old g7, fun M hM ho ht => hb.block _ (own_lt h ⟨hM, ht, b, g6, ho⟩)⟩
    · cases g7
      subst g6
      exact .inr ⟨L, Map.snoc_new, hr⟩
  · have hne : id ≠ mem.length := by
      rintro rfl
      exact hid blk (by simp)
    have : Map.snoc ρ mem.length L id = ρ id := by simp [Map.snoc, hne]
    rw [this]
    refine h.dead id fun b hb' => hid b ?_
    have := (List.getElem?_eq_some_iff.1 hb').1
    rw [List.getElem?_append_left this]
    exact hb'
  · have old : ∀ (i : Nat) (M : Loc), Owned (mem ++ [some blk]) (Map.snoc ρ mem.length L) i M → (Owned mem ρ i M ∧ M.b < w.heap.size) ∨ (i = mem.length ∧ w.heap.size ≤ M.b) := by
      intro i M ⟨g1, g2, g3, g4, g5⟩
      rcases get_snoc g4 with ⟨g6, g7⟩ | ⟨g6, _⟩
      · rw [Map.snoc_old g7] at g1
        have : Owned mem ρ i M := ⟨g1, g2, g3, g6, g5⟩
        exact .inl ⟨this, own_lt h this⟩
      · subst g6
        rw [Map.snoc_new] at g1
        cases g1
        exact .inr ⟨rfl, hfresh g2⟩
    rcases old i M hi with ⟨p1, p2⟩ | ⟨p1, p2⟩ <;> rcases old j K hj with ⟨q1, q2⟩ | ⟨q1, q2⟩
    · exact h.inj i j M K p1 q1 hMK
    · omega
    · omega
    · omega

theorem get_set {α : Type} {l : List α} {x y : α} {n i : Nat} (h : (l.set n x)[i]? = some y) : (i ≠ n ∧ l[i]? = some y) ∨ (i = n ∧ y = x ∧ n < l.length) := by
  rw [List.getElem?_set] at h
  by_cases hni : n = i
  · simp only [hni, if_true] at h
    split at h
    · simp at h
      exact .inr ⟨hni.symm, h.symm, by omega⟩
    · cases h
  · simp only [hni, if_false] at h
    exact .inl ⟨fun e => hni e.symm, h⟩

/-- A block is only read from now on. -/
theorem MemR.freeze (h : MemR mem ρ B w) {id : Nat} {ks : List CK} {own : Bool} {r : Row} (hid : mem[id]? = some (some (.row ks own r))) : ∃ ρ', (∀ i, Less ρ ρ' i) ∧ (∀ i, i ≠ id → ρ' i = ρ i) ∧ MemR (mem.set id (some (.row ks false r))) ρ' B w ∧
    (∀ b, okB mem ρ w b → okB (mem.set id (some (.row ks false r))) ρ' w b) ∧ (∀ L, ρ id = some L → 0 < L.n → okB (mem.set id (some (.row ks false r))) ρ' w L.b) := by
  obtain ⟨L, hL, hr⟩ := h.blk id _ hid
  refine ⟨fun i => if i = id then some { L with own := false } else ρ i, fun i => ?_, fun i hi => by simp [hi], ?_⟩
  · by_cases hi : i = id
    · subst hi; exact .inr (.inr ⟨L, hL, by simp⟩)
    · exact .inl (by simp [hi])
  have hlt : id < mem.length := (List.getElem?_eq_some_iff.1 hid).1
  have hown : ∀ (i : Nat) (M : Loc), Owned (mem.set id (some (.row ks false r))) (fun i => if i = id then some { L with own := false } else ρ i) i M → i ≠ id ∧ Owned mem ρ i M := by
    intro i M ⟨g1, g2, g3, g4, g5⟩
    rcases get_set g4 with ⟨g6, g7⟩ | ⟨g6, g7, _⟩
    · simp only [g6, if_false] at g1
      exact ⟨g6, g1, g2, g3, g7, g5⟩
    · cases g7
      cases g5
  have hok : ∀ b, okB mem ρ w b → okB (mem.set id (some (.row ks false r))) (fun i => if i = id then some { L with own := false } else ρ i) w b :=
    fun b ⟨h1, h2⟩ => ⟨h1, fun i M ho => h2 i M (hown i M ho).2⟩
  have hL0 : 0 < L.n → okB (mem.set id (some (.row ks false r))) (fun i => if i = id then some { L with own := false } else ρ i) w L.b := by
    intro hn
    have hn' : 0 < r.n := by have := hr.1; omega
    cases own with
    | false => exact hok _ ((hr.2.2.2 hn').1 rfl)
    | true =>
      have ht : 0 < L.tot := by have := (hr.2.2.1 rfl).2.1; omega
      have ho : Owned mem ρ id L := ⟨hL, ht, _, hid, rfl⟩
      refine ⟨own_lt h ho, fun i M hM hb => ?_⟩
      obtain ⟨q1, q2⟩ := hown i M hM
      exact q1 (h.inj i id M L q2 ho hb)
  refine ⟨?_, hok, fun M hM hn => ?_⟩
  · refine h.step (by simp) (fun i _ => ?_) (fun b hb => ⟨hok b hb, rfl⟩) (fun i b hi => ?_) (fun i hi => ?_) (fun i j M K hi hj hMK => ?_)
    · by_cases hi : i = id
      · subst hi; exact .inr (.inr ⟨L, hL, by simp⟩)
      · exact .inl (by simp [hi])
    · rcases get_set hi with ⟨g6, g7⟩ | ⟨g6, g7, _⟩
      · exact .inl ⟨g7, by simp [g6], fun _ _ _ _ => rfl⟩
      · cases g7
        refine .inr ⟨{ L with own := false }, by simp [g6], hr.1, hr.2.1, (fun hf => by cases hf), fun hn => ⟨fun _ => hL0 (by have := hr.1; omega), ?_⟩⟩
        exact (hr.2.2.2 hn).2.mono (fun b hb => ⟨hok b hb, rfl⟩) rfl
    · have hne : i ≠ id := by
        rintro rfl
        exact hi (.row ks false r) (by simp [hlt])
      simp only [hne, if_false]
      refine h.dead i fun b hb => hi b ?_
      rw [List.getElem?_set_ne (fun e => hne e.symm)]
      exact hb
    · exact h.inj i j M K (hown i M hi).2 (hown j K hj).2 hMK
  · rw [hL] at hM
    cases hM
    exact hL0 hn
end
end Go.Ev

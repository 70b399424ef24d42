/- The evaluator's pure operations: what they yield is what the machine yields. No conditions. -/
import Derived.Test.YtlfeobdfgmlmpaaGreatDoorEvB
import Derived.Laws.Cells
import Derived.Laws.Entries
import Derived.Laws.Slices
import Derived.Laws.StructEq
namespace Go.Ev
open Go.RowKit
section
variable {P : Program} {mem : List (Option Blk)} {ρ : Map} {B : Nat} {w : World}

theorem Loc.adr_add (L : Loc) (e j m : Nat) : (L.adr e j).add m = L.adr e (j + m) := by
  unfold Loc.adr Addr.add
  split
  · subst m; rfl
  · simp [Nat.add_assoc]

theorem aggT_spec {t : TypeId} {b : Bool} (h : aggT P t = some b) (w : World) : (isAgg t).run P w = .ok b w := by
  unfold aggT at h
  unfold isAgg
  cases hu : P.underlying t with
  | none => rw [hu] at h; simp at h
  | some d =>
    rw [hu] at h
    simp only [Sem.run_bind, run_underlying hu, Result.andThen]
    cases d <;> simp at h <;> subst h <;> rfl

theorem run_typeInfo {t : TypeId} {i : TypeInfo} (h : P.info? t = some i) (w : World) : (typeInfo t).run P w = .ok i w := by
  simp [typeInfo, h]

theorem run_sizeOf {t : TypeId} {i : TypeInfo} (h : P.info? t = some i) (w : World) : (sizeOf t).run P w = .ok i.size w := by
  simp [sizeOf, run_typeInfo h]

theorem run_loadVar_one {t : TypeId} (h : aggT P t = some false) {a : Addr} {v : Value} {w : World} (hc : w.cell? a = some v) : (loadVar t a).run P w = .ok v w := by
  simp only [loadVar, Sem.run_bind, aggT_spec h, Result.andThen, Bool.false_eq_true, if_false, run_load, hc]

theorem run_loadVar_agg {t : TypeId} {i : TypeInfo} (hi : P.info? t = some i) (h : aggT P t = some true) {a : Addr} {cs : List Value} (hl : cs.length = i.size) {w : World}
    (hc : ∀ j v, cs[j]? = some v → w.cell? (a.add j) = some v) : (loadVar t a).run P w = .ok (.agg ⟨cs⟩) w := by
  have := run_loadCells_list (P := P) w a cs hc
  rw [hl] at this
  simp [loadVar, Sem.run_bind, aggT_spec h, Result.andThen, run_sizeOf hi, this]

/-- What a place in a box leads to. -/
theorem box_cell (hm : MemR mem ρ B w) {id : Nat} {cells : List Value} (hb : mem[id]? = some (some (.box cells))) {L : Loc} (hL : ρ id = some L) {e : Nat} (he : e < L.n) {j : Nat} {x : Value} (hx : cells[j]? = some x) :
    ∃ y, V ρ mem.length x y ∧ ∀ w', Below w.heap.size w w' → w'.cell? (L.adr e j) = some y := by
  obtain ⟨M, hM, h1, h2, h3, h4, c, T, h5, h6, h7, _⟩ := hm.blk id _ hb
  rw [hL] at hM
  cases hM
  have hj : j < c.size := by rw [h6]; exact (List.getElem?_eq_some_iff.1 hx).1
  have he0 : e = 0 := by omega
  subst he0
  refine ⟨c[j], h7 j x _ hx (Array.getElem?_eq_getElem hj), fun w' hw' => ?_⟩
  have hlt : L.b < w.heap.size := (Array.getElem?_eq_some_iff.1 h5).1
  have : w'.heap[L.b]? = some (.cells c T (0, 0)) := (hw'.block _ hlt).trans h5
  simp [World.cell?, Loc.adr, this, h2, hj]

/-- What a place in a row leads to. -/
theorem row_cell (hm : MemR mem ρ B w) {id : Nat} {ks : List CK} {own : Bool} {r : Row} (hb : mem[id]? = some (some (.row ks own r))) {L : Loc} (hL : ρ id = some L) {e : Nat} (he : e < L.n) {j : Nat} {k : CK} (hk : ks[j]? = some k) :
    ∃ y, CellR (okB mem ρ w) w k r e j y ∧ ∀ w', Below w.heap.size w w' → w'.cell? (L.adr e j) = some y := by
  obtain ⟨M, hM, h1, h2, h3, h4, _⟩ := hm.blk id _ hb
  rw [hL] at hM
  cases hM
  obtain ⟨_, h6⟩ := h4 (by omega)
  cases h6 with
  | mk v hv1 hv2 =>
    refine ⟨v e j, hv2 e j k (by omega) hk, fun w' hw' => ?_⟩
    have h7 := hv1 e j k (by omega) hk
    have hlt : L.b < w.heap.size := World.block_lt_of_cell? w _ h7
    rw [← h2] at h7
    rw [show L.adr e j = (⟨L.b, L.off + e * L.sz + j, none⟩ : Addr) from rfl, World.cell?_of_block (w := w) (hw'.block _ hlt)]
    exact h7

/-- A kind of a cell that is no slice. -/
def ck1 : CK → Bool
  | .slice _ => false
  | _ => true

/-- What a place leads to, in anything that holds a row. -/
theorem flat_cell (hm : MemR mem ρ B w) {id : Nat} {b : Blk} {ks : List CK} {r : Row} (hb : mem[id]? = some (some b)) (hr : rowOf b = some (ks, r)) {L : Loc} (hL : ρ id = some L) {e : Nat} (he : e < L.n) {j : Nat} {k : CK} (hk : ks[j]? = some k) :
    ∃ y, (ck1 k = true → CellR (okB mem ρ w) w k r e j y) ∧ ∀ w', Below w.heap.size w w' → w'.cell? (L.adr e j) = some y := by
  have deepc : ∀ {id : Nat} {ks : List CK} {r : Row} {h : Option (Nat × Nat)} {L : Loc} (hb : mem[id]? = some (some (.deep ks r h))) (hL : ρ id = some L) {e : Nat} (he : e < L.n) {j : Nat} {k : CK} (hk : ks[j]? = some k),
      ∃ y, DCell B w k r e j (isHole h e j) (L.sub e j) y ∧ ∀ w', Below w.heap.size w w' → w'.cell? (L.adr e j) = some y := by
    intro id ks r h L hb hL e he j k hk
    obtain ⟨M, hM, h1, h2, h3, h4, h5, h6, h7, h8⟩ := hm.blk id _ hb
    rw [hL] at hM
    cases hM
    obtain ⟨v, g1, g2⟩ := h6 e j k (by omega) hk
    refine ⟨v, g2, fun w' hw' => ?_⟩
    have hlt : L.b < w.heap.size := World.block_lt_of_cell? w _ g1
    rw [← h2] at g1
    rw [show L.adr e j = (⟨L.b, L.off + e * L.sz + j, none⟩ : Addr) from rfl, World.cell?_of_block (w := w) (hw'.block _ hlt)]
    exact g1
  cases b with
  | box cells => cases hr
  | map _ _ _ => cases hr
  | row ks' o r' =>
    cases hr
    obtain ⟨y, h1, h2⟩ := row_cell hm hb hL he hk
    exact ⟨y, fun _ => h1, h2⟩
  | deep ks' r' h =>
    cases hr
    obtain ⟨y, h1, h2⟩ := deepc hb hL he hk
    refine ⟨y, fun hc => ?_, h2⟩
    cases k with
    | slice sub => cases hc
    | int k => exact CellR.mono (ok := fun _ => False) (fun _ hf => hf.elim) h1
    | bool => exact CellR.mono (ok := fun _ => False) (fun _ hf => hf.elim) h1
    | str => exact CellR.mono (ok := fun _ => False) (fun _ hf => hf.elim) h1
    | other => exact CellR.mono (ok := fun _ => False) (fun _ hf => hf.elim) h1
  | bor p e0 j0 ks' r' =>
    cases hr
    obtain ⟨M, hM, h1, h2, h3, h4, h5, Lp, kps, rp, h, a, g1, g2, g3, g4, g5, g6, g0, g7, g8⟩ := hm.blk id _ hb
    rw [hL] at hM
    cases hM
    obtain ⟨Mp, hMp, q1, q2, q3, q4, q5, q6, q7, q8⟩ := hm.blk p _ g1
    rw [g2] at hMp
    cases hMp
    obtain ⟨v, v1, v2⟩ := q6 e0 j0 _ g3 g4
    rw [g7] at v1
    cases v1
    obtain ⟨a', cap, v3, v4, v5⟩ := v2.2.2 g5
    obtain ⟨w1, _, w3⟩ := Value.slice.inj v3
    subst w1; subst w3
    rw [g6] at v4 v5
    rcases v5 with ⟨v5, _⟩ | ⟨b, off, c, T, u1, u2, u3, u4, u5, u6⟩
    · omega
    · have ha : L.b = b ∧ L.off = off := by
        rcases g8 with g8 | g8
        · omega
        · rw [u2] at g8
          cases g8
          exact ⟨rfl, rfl⟩
      obtain ⟨rfl, rfl⟩ := ha
      cases u6 with
      | mk v hv1 hv2 =>
        refine ⟨v e j, fun _ => (hv2 e j k (by omega) hk).mono fun _ hf => hf.elim, fun w' hw' => ?_⟩
        have h7 := hv1 e j k (by omega) hk
        have hlt : L.b < w.heap.size := World.block_lt_of_cell? w _ h7
        rw [← h3] at h7
        rw [show L.adr e j = (⟨L.b, L.off + e * L.sz + j, none⟩ : Addr) from rfl, World.cell?_of_block (w := w) (hw'.block _ hlt)]
        exact h7

theorem rowVals_spec {r : Row} {e : Nat} : ∀ {ks : List CK} {j : Nat} {vs : List Value}, rowVals r e ks j = some vs → vs.length = ks.length ∧
    ∀ (i : Nat) (k : CK) (x : Value), ks[i]? = some k → vs[i]? = some x → (atom1 x = true ∧ ck1 k = true) ∧ ∀ (ok : Nat → Prop) (w : World) (v : Value), CellR ok w k r e (j + i) v → v = x
  | [], j, vs, h => by simp [rowVals] at h; subst h; simp
  | k :: ks, j, vs, h => by
    have key : ∀ x : Value, (atom1 x = true ∧ ck1 k = true) → (∀ (ok : Nat → Prop) (w : World) (v : Value), CellR ok w k r e j v → v = x) → (rowVals r e ks (j + 1)).map (x :: ·) = some vs → vs.length = (k :: ks).length ∧
        ∀ (i : Nat) (k' : CK) (x : Value), (k :: ks)[i]? = some k' → vs[i]? = some x → (atom1 x = true ∧ ck1 k' = true) ∧ ∀ (ok : Nat → Prop) (w : World) (v : Value), CellR ok w k' r e (j + i) v → v = x := by
      intro x hx hc hmap
      cases hr : rowVals r e ks (j + 1) with
      | none => rw [hr] at hmap; simp at hmap
      | some us =>
        rw [hr] at hmap
        simp at hmap
        subst hmap
        obtain ⟨h1, h2⟩ := rowVals_spec hr
        refine ⟨by simp [h1], fun i k' y hk hy => ?_⟩
        cases i with
        | zero => simp at hk hy; subst hk; subst hy; exact ⟨hx, fun ok w v hv => hc ok w v hv⟩
        | succ i =>
          simp at hk hy
          obtain ⟨h3, h4⟩ := h2 i k' y hk hy
          exact ⟨h3, fun ok w v hv => h4 ok w v (by rw [show j + 1 + i = j + (i + 1) by omega]; exact hv)⟩
    cases k with
    | int kd => exact key _ ⟨rfl, rfl⟩ (fun ok w v hv => by cases hv; rfl) h
    | bool => exact key _ ⟨rfl, rfl⟩ (fun ok w v hv => by cases hv; rfl) h
    | str => exact key _ ⟨rfl, rfl⟩ (fun ok w v hv => by cases hv; rfl) h
    | slice _ => simp [rowVals] at h
    | other => simp [rowVals] at h

theorem take_drop_getElem? {α : Type} (l : List α) (j n i : Nat) (h : i < n) : ((l.drop j).take n)[i]? = l[j + i]? := by
  rw [List.getElem?_take, if_pos h, List.getElem?_drop]

theorem loadV_sound (hm : MemR mem ρ B w) {t : TypeId} {x v cx : Value} (h : loadV P mem t x = some v) (hx : V ρ mem.length x cx) :
    ∃ cv, V ρ mem.length v cv ∧ ∀ w', Below w.heap.size w w' → (Instr.loadAt t cx).run P w' = .ok cv w' := by
  unfold loadV at h
  split at h
  · rename_i id e j i ag hi hag
    cases hx with
    | ptrDead h1 h2 =>
      exfalso
      split at h
      · rename_i cells hb; obtain ⟨L, hL, _⟩ := hm.blk _ _ hb; rw [h2] at hL; cases hL
      · rename_i b hnb hb; obtain ⟨L, hL, _⟩ := hm.blk _ _ hb; rw [h2] at hL; cases hL
      · cases h
    | ptr h1 h2 h3 =>
      rename_i L
      have hrun : ∀ (w' : World) (cv : Value), (loadVar t (L.adr e j)).run P w' = .ok cv w' → (Instr.loadAt t (.pointer (some (L.adr e j)))).run P w' = .ok cv w' := by
        intro w' cv hv
        simp [Instr.loadAt, Instr.sureAddr, hv]
      split at h
      · rename_i cells hb
        cases ag with
        | true =>
          simp only at h
          split at h
          · rename_i hle
            cases h
            have hcell : ∀ i', i' < i.size → ∃ y, (∃ x, cells[j + i']? = some x ∧ V ρ mem.length x y) ∧ ∀ w', Below w.heap.size w w' → w'.cell? (L.adr e (j + i')) = some y := by
              intro i' hi'
              obtain ⟨y, hy1, hy2⟩ := box_cell hm hb h2 h3 (List.getElem?_eq_getElem (show j + i' < cells.length by omega))
              exact ⟨y, ⟨_, List.getElem?_eq_getElem (by omega), hy1⟩, hy2⟩
            let f : Nat → Value := fun i' => if hi' : i' < i.size then Classical.choose (hcell i' hi') else undef
            have hf : ∀ i', i' < i.size → (∃ x, cells[j + i']? = some x ∧ V ρ mem.length x (f i')) ∧ ∀ w', Below w.heap.size w w' → w'.cell? (L.adr e (j + i')) = some (f i') := by
              intro i' hi'
              have := Classical.choose_spec (hcell i' hi')
              simp only [f, hi', dif_pos]
              exact this
            refine ⟨.agg ⟨(List.range i.size).map f⟩, .agg (by simp; omega) fun i' p q hp hq => ?_, fun w' hw' => hrun _ _ (run_loadVar_agg hi hag (by simp) fun i' v hv => ?_)⟩
            · simp only [List.getElem?_toArray] at hp hq
              have hi' : i' < i.size := by have := (List.getElem?_eq_some_iff.1 hq).1; simpa using this
              rw [take_drop_getElem? _ _ _ _ hi'] at hp
              simp [hi'] at hq
              subst hq
              obtain ⟨⟨x, hx1, hx2⟩, _⟩ := hf i' hi'
              rw [hp] at hx1
              cases hx1
              exact hx2
            · have hi' : i' < i.size := by have := (List.getElem?_eq_some_iff.1 hv).1; simpa using this
              simp [hi'] at hv
              subst hv
              rw [Loc.adr_add]
              exact (hf i' hi').2 w' hw'
          · cases h
        | false =>
          simp only at h
          obtain ⟨y, hy1, hy2⟩ := box_cell hm hb h2 h3 h
          exact ⟨y, hy1, fun w' hw' => hrun _ _ (run_loadVar_one hag (hy2 w' hw'))⟩
      · rename_i b hnb hb
        split at h
        case h_2 => cases h
        rename_i ks r hro
        cases ag with
        | true =>
          simp only at h
          split at h
          · rename_i hle
            cases hr : rowVals r e ((ks.drop j).take i.size) j with
            | none => rw [hr] at h; simp at h
            | some vs =>
              rw [hr] at h
              simp at h
              subst h
              obtain ⟨h4, h5⟩ := rowVals_spec hr
              have hlen : vs.length = i.size := by rw [h4]; simp; omega
              have hcell : ∀ i' v, vs[i']? = some v → atom1 v = true ∧ ∀ w', Below w.heap.size w w' → w'.cell? (L.adr e (j + i')) = some v := by
                intro i' v hv
                have hi' : i' < i.size := by have := (List.getElem?_eq_some_iff.1 hv).1; omega
                have hk : ks[j + i']? = some ks[j + i'] := List.getElem?_eq_getElem (by omega)
                obtain ⟨y, hy1, hy2⟩ := flat_cell hm hb hro h2 h3 hk
                obtain ⟨h6, h7⟩ := h5 i' ks[j + i'] v (by rw [take_drop_getElem? _ _ _ _ hi', hk]) hv
                rw [h7 _ _ _ (hy1 h6.2)] at hy2
                exact ⟨h6.1, hy2⟩
              refine ⟨.agg ⟨vs⟩, .agg rfl fun i' p q hp hq => ?_, fun w' hw' => hrun _ _ (run_loadVar_agg hi hag hlen fun i' v hv => ?_)⟩
              · rw [hp] at hq
                cases hq
                exact V.refl1 (hcell i' p (by simpa using hp)).1
              · rw [Loc.adr_add]
                exact (hcell i' v hv).2 w' hw'
          · cases h
        | false =>
          simp only at h
          split at h
          · rename_i u hu
            cases h
            obtain ⟨h4, h5⟩ := rowVals_spec hu
            have hj : j < ks.length := by
              simp at h4
              omega
            have hk : ks[j]? = some ks[j] := List.getElem?_eq_getElem hj
            obtain ⟨y, hy1, hy2⟩ := flat_cell hm hb hro h2 h3 hk
            obtain ⟨h6, h7⟩ := h5 0 ks[j] v (by rw [take_drop_getElem? _ _ _ _ (by omega)]; exact hk) rfl
            rw [h7 _ _ _ (hy1 h6.2)] at hy2
            exact ⟨v, V.refl1 h6.1, fun w' hw' => hrun _ _ (run_loadVar_one hag (hy2 w' hw'))⟩
          · cases h
      · cases h
  · cases h
end
end Go.Ev

/- Guards, and operations that make or write memory, or call: what the evaluator does, the machine does. No conditions. -/
import Derived.Test.YtlfeobdfgmlmpaaGreatDoorEvP
namespace Go.Ev
open Go.RowKit
section
variable {P : Program} {mem mem' : List (Option Blk)} {ρ ρ' : Map} {B : Nat} {w w' : World}

theorem Rel.reput {w0 : World} {σ : St} {a : Act} {cs : List (Array Value)} (h : Rel w0 σ a cs w ρ) {t : Tmp} {x y : Value} (hy : a.tmps[t]? = some y) (hxy : V ρ σ.mem.length x y) : Rel w0 (σ.put (some t) x) a cs w ρ := by
  have h1 := h.tmps.set t hxy
  have h2 : a.tmps.setIfInBounds t y = a.tmps := by
    apply Array.ext_getElem?
    intro i
    rw [Array.getElem?_setIfInBounds]
    by_cases hi : t = i
    · subst hi
      have := (Array.getElem?_eq_some_iff.1 hy).1
      simp [this, ← hy]
    · simp [hi]
  rw [h2] at h1
  exact ⟨h.defers, h1, h.saved, h.below, h.mem⟩

theorem guard_sound {α : Type} {w0 : World} {σ : St} {a : Act} {cs : List (Array Value)} (hR : Rel w0 σ a cs w ρ) {ops : Array Oper} {o : Oper} {yes no : St → Option α} {r : α} (h : guardV ops.toList σ o yes no = some r) :
    (Region.wanted o (yielded ops a.tmps) = true ∧ ∃ σ', Rel w0 σ' a cs w ρ ∧ yes σ' = some r) ∨ (Region.wanted o (yielded ops a.tmps) = false ∧ ∃ σ', Rel w0 σ' a cs w ρ ∧ no σ' = some r) := by
  simp only [guardV, getF_eq, putK_eq] at h
  split at h
  · rename_i hg
    exact .inl ⟨by simp [Region.wanted, hg], σ, hR, h⟩
  · rename_i j want hg
    split at h
    · rename_i t ht
      have ht' : (ops[j]?).bind (·.dst) = some t := by simpa using ht
      have hlt : ∀ v, σ.τ.getD t unk = v → v ≠ unk → σ.τ[t]? = some v := by
        intro v hv hne
        rw [List.getD_eq_getElem?_getD] at hv
        cases hx : σ.τ[t]? with
        | none => rw [hx] at hv; exact absurd hv.symm hne
        | some x => rw [hx] at hv; simp at hv; rw [hv]
      split at h
      · rename_i b hb
        have h1 := hlt _ hb (by simp)
        have hsz : t < a.tmps.size := by rw [← hR.tmps.1]; exact (List.getElem?_eq_some_iff.1 h1).1
        have h2 : a.tmps[t]? = some a.tmps[t] := Array.getElem?_eq_getElem hsz
        have h3 := hR.tmps.2 t _ _ h1 h2
        generalize a.tmps[t] = y at *
        cases h3
        have hy : yielded ops a.tmps j = some b := by simp [yielded, ht', h2]
        have hput : ∀ c : Bool, b = c → Rel w0 (σ.put (some t) (.bool c)) a cs w ρ := fun c hc => hR.reput h2 (by rw [hc]; exact .bool)
        split at h
        · cases b with
          | true => exact .inl ⟨by simp [Region.wanted, hg, hy], _, hput true rfl, h⟩
          | false => exact .inr ⟨by simp [Region.wanted, hg, hy], _, hput false rfl, h⟩
        · cases b with
          | true => exact .inr ⟨by simp [Region.wanted, hg, hy], _, hput true rfl, h⟩
          | false => exact .inl ⟨by simp [Region.wanted, hg, hy], _, hput false rfl, h⟩
      · rename_i hb
        have h1 := hlt _ hb (by simp)
        have hsz : t < a.tmps.size := by rw [← hR.tmps.1]; exact (List.getElem?_eq_some_iff.1 h1).1
        have h2 : a.tmps[t]? = some a.tmps[t] := Array.getElem?_eq_getElem hsz
        have h3 := hR.tmps.2 t _ _ h1 h2
        generalize a.tmps[t] = y at *
        cases h3
        have hy : yielded ops a.tmps j = none := by simp [yielded, ht', h2]
        exact .inr ⟨by simp [Region.wanted, hg, hy], σ, hR, h⟩
      · cases h
    · cases h

/-- What is asked of a call that is gone through in place. -/
def InlOk {α : Type} (C : Cx) (w0 : World) (f : FuncId → List Value → St → (Value → St → Option α) → Option α) : Prop :=
  ∀ (g : FuncId) (args : List Value) (σ : St) (k : Value → St → Option α) (r : α), f g args σ k = some r → ∀ (a : Act) (cs : List (Array Value)) (w : World) (ρ : Map) (cargs : List Value), Rel w0 σ a cs w ρ → Vs ρ σ.mem.length args cargs →
    Calls C.P g ⟨cargs⟩ w fun e w' => ∃ cv v σ1 ρ1, e = .returned cv ∧ Rel w0 σ1 a cs w' ρ1 ∧ V ρ1 σ1.mem.length v cv ∧ k v σ1 = some r

theorem below_le {w0 : World} (h : Below w0.heap.size w0 w) : w0.heap.size ≤ w.heap.size := h.size

theorem rel_new {w0 : World} {σ : St} {a : Act} {cs : List (Array Value)} (hR : Rel w0 σ a cs w ρ) {blk : Blk} {ρ1 : Map} {w1 : World} (hb : Below w0.heap.size w0 w1) (hm : MemR (σ.mem ++ [some blk]) ρ1 w0.heap.size w1) (hρ : ∀ id, id < σ.mem.length → Less ρ ρ1 id)
    {d : Option Tmp} {v : Nat → Value} {cv : Value} (hv : V ρ1 (σ.mem.length + 1) (v σ.mem.length) cv) : Rel w0 (σ.new d v blk) (a.put d cv) cs w1 ρ1 := by
  have h1 := hR.mono hb hm (by simp) hρ
  exact h1.put d (by simpa using hv)

theorem lcells_cells (x : Value) : (lcells x) = x.cells.toList := (cells_lcells x).symm

set_option maxHeartbeats 1000000 in
theorem evEff_sound {α : Type} {C : Cx} {w0 : World} (hC : CxAt C w0) {inl : FuncId → List Value → St → (Value → St → Option α) → Option α} (hinl : InlOk C w0 inl) {σ : St} {a : Act} {cs : List (Array Value)} (hR : Rel w0 σ a cs w ρ) {o : Oper} {k : St → Option α} {r : α}
    (hby : (∃ s d x, o.op = .convert s d x) → isBytes C.P o.op = true) (h : evEff C σ o inl k = some r) {K : Act → World → Prop} {Q : Exit → Act → World → Prop} (hK : ∀ (σ1 : St) (a1 : Act) (w1 : World) (ρ1 : Map), Rel w0 σ1 a1 cs w1 ρ1 → k σ1 = some r → K a1 w1) : o.wp C.P a w K Q := by
  have hE : ∀ x, V ρ σ.mem.length (env σ.τ x) (a.eval x) := fun x => hR.tmps.env x
  have hB : w0.heap.size ≤ w.heap.size := hR.below.size
  unfold evEff at h
  simp only at h
  split at h
  · -- alloc
    rename_i t ho
    split at h
    · rename_i z hz
      split at h
      · rename_i hat
        obtain ⟨it, hi, hiz⟩ := Option.bind_eq_some_iff.1 hz
        have hrun : (execOp a.eval o).run C.P w = .ok (.value (.pointer (some ⟨w.heap.size, 0, none⟩))) (w.alloc (.cells z.cells t)) := by
          simp [execOp, ho, Instr.alloc, zeroValue, run_typeInfo hi, hiz, newVar, newRow]
        have hu : isUnk z = false := by cases z <;> first | rfl | simp [atom] at hat
        have hv := (V.atom (ρ := ρ) (N := σ.mem.length) hat).cells hu
        obtain ⟨L, hL1, hL2, hm⟩ := hR.mem.box hB (xs := lcells z) (c := z.cells) t hv.1.symm (fun i x y hx hy => hv.2 i x y hx hy)
        unfold Oper.wp
        rw [hrun]
        refine hK _ _ _ _ (rel_new hR (below_alloc hB hR.below _) hm (fun id hid => .inl (Map.snoc_old hid)) ?_) h
        have := V.ptr (ρ := Map.snoc ρ σ.mem.length L) (N := σ.mem.length + 1) (id := σ.mem.length) (e := 0) (j := 0) (L := L) (by omega) Map.snoc_new (by omega)
        rw [hL2] at this
        exact this
      · cases h
    · cases h
  · -- box
    rename_i t x ho
    split at h
    · rename_i hu
      have hrun : (execOp a.eval o).run C.P w = .ok (.value (.pointer (some ⟨w.heap.size, 0, none⟩))) (w.alloc (.cells (a.eval x).cells t)) := by
        simp [execOp, ho, Instr.box, newVar, newRow]
      have hv := (hE x).cells hu
      obtain ⟨L, hL1, hL2, hm⟩ := hR.mem.box hB (xs := lcells (env σ.τ x)) (c := (a.eval x).cells) t hv.1.symm (fun i x y hx hy => hv.2 i x y hx hy)
      unfold Oper.wp
      rw [hrun]
      refine hK _ _ _ _ (rel_new hR (below_alloc hB hR.below _) hm (fun id hid => .inl (Map.snoc_old hid)) ?_) h
      have := V.ptr (ρ := Map.snoc ρ σ.mem.length L) (N := σ.mem.length + 1) (id := σ.mem.length) (e := 0) (j := 0) (L := L) (by omega) Map.snoc_new (by omega)
      rw [hL2] at this
      exact this
    · cases h
  · -- build
    rename_i t parts ho
    obtain ⟨v, cv, h1, h2, h3⟩ := evBuild_sound (P := C.P) hE ho h
    unfold Oper.wp
    rw [h3 w]
    exact hK _ _ _ _ (hR.put _ h2) h1
  · -- buildSlice
    rename_i t len parts ho
    split at h
    · rename_i el hu
      split at h
      · rename_i ei hei hall
        split at h
        · rename_i z hz
          split at h
          · rename_i hcond
            obtain ⟨c1, c2, c3⟩ := hcond
            split at h
            · rename_i cells hfill
              obtain ⟨z1, z2⟩ := zeroOk_spec c3
              have hzs : z.cells.size = (kinds C.P 8 el).length := by rw [← z1, ← cells_lcells]; simp
              have hbase : ∀ (i : Nat) (x y : Value), ((Array.range (len * ei.size)).map (z.cells[· % z.cells.size]!))[i]? = some x → ((Array.range (len * ei.size)).map (z.cells[· % z.cells.size]!))[i]? = some y → V ρ σ.mem.length x y := by
                intro i x y hx hy
                rw [hx] at hy
                cases hy
                have hi : i < len * ei.size := by have := (Array.getElem?_eq_some_iff.1 hx).1; simpa using this
                have hpos : 0 < ei.size := by
                  rcases Nat.eq_zero_or_pos ei.size with h0 | h0
                  · rw [h0] at hi; omega
                  · exact h0
                have hm : i % z.cells.size < z.cells.size := Nat.mod_lt _ (by omega)
                simp only [Array.getElem?_map, Array.getElem?_range, hi, if_true, Option.map_some, Option.some.injEq] at hx
                rw [getElem!_pos z.cells _ hm] at hx
                subst hx
                exact zeroOk_V c3 (i % z.cells.size) _ (by rw [← cells_lcells]; simp [hm])
              have hpq : ∀ (i : Nat) (p q : Nat × Value), (parts.toList.map fun p => (p.1, env σ.τ p.2))[i]? = some p → ((parts.map fun (i, x) => (i, a.eval x)).toList)[i]? = some q → p.1 = q.1 ∧ isUnk p.2 = false ∧ V ρ σ.mem.length p.2 q.2 := by
                intro i p q hp hq
                have hun := List.all_eq_true.1 hall p (List.mem_of_getElem? hp)
                simp only [Array.toList_map, List.getElem?_map, Option.map_eq_some_iff] at hp hq
                obtain ⟨x, hx, rfl⟩ := hp
                obtain ⟨y, hy, rfl⟩ := hq
                rw [hx] at hy
                cases hy
                exact ⟨rfl, by simpa using hun, hE _⟩
              obtain ⟨out', o1, o2, o3, o4⟩ := fill_V (ρ := ρ) (N := σ.mem.length) _ ((parts.map fun (i, x) => (i, a.eval x)).toList) _ ((Array.range (len * ei.size)).map (z.cells[· % z.cells.size]!)) cells hfill (by simp) hpq rfl hbase
              have hcs : cells.size = len * ei.size := by rw [o3]; simp
              have hrun : (execOp a.eval o).run C.P w = .ok (.value (.slice (some ⟨w.heap.size, 0, none⟩) len len)) (w.alloc (.cells out' el)) := by
                have h24 : ¬ (len * ei.size > 2 ^ 24) := by omega
                rcases Nat.eq_zero_or_pos (len * ei.size) with h0 | h0
                · have e0 : ∀ f : Nat → Value, (Array.range (len * ei.size)).map f = #[] := by intro f; rw [h0]; simp [Array.range_zero']
                  rw [e0] at o1
                  simp only [execOp, ho]
                  simp only [Instr.buildSlice, Sem.run_bind, run_underlying hu, run_sizeOf hei, Result.andThen_ok, if_neg h24, if_pos h0, Sem.run_pure, e0, o1, newRow, newObj]
                  rfl
                · have hne : ¬ (len * ei.size = 0) := by omega
                  simp only [execOp, ho]
                  simp only [Instr.buildSlice, Sem.run_bind, run_underlying hu, run_sizeOf hei, Result.andThen_ok, if_neg h24, if_neg hne, zeroValue, run_typeInfo hei, hz, Sem.run_pure, o1, newRow, newObj]
                  rfl
              split at h
              · -- nothing
                rename_i hlen0
                have hl0 : len = 0 := Nat.eq_of_beq_eq_true hlen0
                have hz0 : out'.size = 0 := by rw [← o2, hcs, hl0, Nat.zero_mul]
                obtain ⟨L, hL1, hL2, hm⟩ := hR.mem.box hB (xs := []) (c := out') el hz0 (fun i x y hx hy => by simp at hx)
                unfold Oper.wp
                rw [hrun]
                refine hK _ _ _ _ (rel_new hR (below_alloc hB hR.below _) hm (fun id hid => .inl (Map.snoc_old hid)) ?_) h
                rw [hl0]
                exact .sliceNil
              split at h
              · -- a deep row
                rename_i rr mem1 hsl hlit
                obtain ⟨sub, k1, k3, _, k5, k6, k7⟩ := litDeep_sound hR.mem (ks := kinds C.P 8 el) (n := len) (cells := cells.toList) (ccs := out'.toList) (by simp [hcs, c2]) (by simp [o2]) (fun i x c hx hc => o4 i x c (by simpa using hx) (by simpa using hc)) len σ.mem mem1 _ rr (.refl _) hlit (Nat.le_refl _)
                have hrn : rr.n = len := k1
                have hcell : ∀ (e j : Nat) (kk : CK), e < rr.n → (kinds C.P 8 el)[j]? = some kk → out'[e * (kinds C.P 8 el).length + j]? = some (out'.getD (e * (kinds C.P 8 el).length + j) undef) := by
                  intro e j kk he hk
                  have hj : j < (kinds C.P 8 el).length := (List.getElem?_eq_some_iff.1 hk).1
                  have hlt : e * (kinds C.P 8 el).length + j < out'.size := by
                    have : (e + 1) * (kinds C.P 8 el).length ≤ len * (kinds C.P 8 el).length := Nat.mul_le_mul_right _ (by omega)
                    rw [Nat.add_mul, Nat.one_mul] at this
                    rw [← o2, hcs, c2]
                    omega
                  rw [Array.getElem?_eq_getElem hlt, Array.getD_eq_getD_getElem?, Array.getElem?_eq_getElem hlt, Option.getD_some]
                obtain ⟨ρ', n1, n2, n3⟩ := hR.mem.newDeep hB k3 (ks := kinds C.P 8 el) (r := rr) (c := out') (T := el) (tot := len) (sub := sub) (by rw [← o2, hcs, c2]; exact Nat.le_refl _) (by omega) (fun e j => out'.getD (e * (kinds C.P 8 el).length + j) undef) hcell
                  (fun e j kk he hk => k5 e j kk _ (by omega) (by omega) hk (by simpa using hcell e j kk he hk)) (fun e j b hb => by
                    obtain ⟨_, q1, q2, id, q3, _, q4⟩ := k6 e j b hb
                    exact ⟨by omega, q2, id, q3, q4⟩) k7
                unfold Oper.wp
                rw [hrun]
                have hR1 : Rel w0 { σ with mem := mem1 ++ [some (.deep (kinds C.P 8 el) rr none)] } a cs (w.alloc (.cells out' el)) ρ' := hR.mono (below_alloc hB hR.below _) n1 (by simp [k3.1]) n2
                have h9 := hR1.put o.dst (x := sl0 len σ.mem.length) (y := .slice (some ⟨w.heap.size, 0, none⟩) len len) (by
                  rw [hrn] at n3
                  exact V.newDeep n3 (by simp [k3.1]) (Nat.le_refl _) (Nat.le_refl _))
                refine hK _ _ _ ρ' ?_ h
                simpa [St.new, k3.1] using h9
              split at h
              · rename_i rr mem1 hlit
                obtain ⟨ρ1, k1, k2, k3, _, k5⟩ := litRow_sound (w := w) (ks := kinds C.P 8 el) (n := len) (cells := cells.toList) (ccs := out'.toList) (by simp [hcs, c2]) (by simp [o2]) len σ.mem mem1 ρ _ rr hlit (Nat.le_refl _) hR.mem (fun i x c hx hc => o4 i x c (by simpa using hx) (by simpa using hc))
                have hrn : rr.n = len := k3
                have hm3 := MemR.newRow (w := w) (w1 := w) k2 hB (ks := kinds C.P 8 el) (r := rr) (c := out') (T := el) (tot := len) (Below.refl _ _) rfl (by rw [← o2, hcs, c2]; exact Nat.le_refl _) (by omega) (fun e j => out'.getD (e * (kinds C.P 8 el).length + j) undef)
                  (fun e j kk he hk => by
                    have hj : j < (kinds C.P 8 el).length := (List.getElem?_eq_some_iff.1 hk).1
                    have hlt : e * (kinds C.P 8 el).length + j < out'.size := by
                      have : (e + 1) * (kinds C.P 8 el).length ≤ len * (kinds C.P 8 el).length := Nat.mul_le_mul_right _ (by omega)
                      rw [Nat.add_mul, Nat.one_mul] at this
                      rw [← o2, hcs, c2]
                      omega
                    rw [Array.getElem?_eq_getElem hlt, Array.getD_eq_getD_getElem?, Array.getElem?_eq_getElem hlt, Option.getD_some])
                  (fun e j kk he hk => by
                    have hj : j < (kinds C.P 8 el).length := (List.getElem?_eq_some_iff.1 hk).1
                    have hlt : e * (kinds C.P 8 el).length + j < out'.size := by
                      have : (e + 1) * (kinds C.P 8 el).length ≤ len * (kinds C.P 8 el).length := Nat.mul_le_mul_right _ (by omega)
                      rw [Nat.add_mul, Nat.one_mul] at this
                      rw [← o2, hcs, c2]
                      omega
                    refine k5 e j kk _ (by omega) (by omega) hk ?_
                    rw [Array.getD_eq_getD_getElem?, Array.getElem?_eq_getElem hlt, Option.getD_some]
                    simp [hlt])
                have hR1 := hR.mono hR.below k2 (by rw [k1.len]; exact Nat.le_refl _) (fun id _ => k1.less id)
                unfold Oper.wp
                rw [hrun]
                refine hK _ _ _ _ (rel_new hR1 (below_alloc hB hR.below _) hm3 (fun id hid => .inl (Map.snoc_old hid)) ?_) h
                rw [hrn]
                exact V.newRow (by simp) (Nat.le_refl _) (Nat.le_refl _)
              · cases h
            · cases h
          · cases h
        · cases h
      · cases h
    · cases h
  · -- store
    rename_i t x y ho
    split at h
    · rename_i mem1 hs
      obtain ⟨w', ρ1, k1, k2, k3, k4, k5⟩ := storeV_sound hs hR.mem (hE x) (hE y)
      have hrun : (execOp a.eval o).run C.P w = .ok .skip w' := by
        simp [execOp, ho, k1]
      unfold Oper.wp
      rw [hrun]
      have hR1 := hR.mono (k5 w0 hR.below) k2 (by omega) (fun id _ => k4 id)
      exact hK _ _ _ _ (hR1.put _ (.tuple rfl fun i x y hx _ => by simp at hx)) h
    · split at h
      · rename_i cnd mem1 hs
        obtain ⟨hc, h⟩ := br_none' h
        subst hc
        obtain ⟨w', ρ1, k1, k2, k3, k4, k5⟩ := storeD_sound hs hR.mem (hE x) (hE y)
        have hrun : (execOp a.eval o).run C.P w = .ok .skip w' := by
          simp [execOp, ho, k1]
        unfold Oper.wp
        rw [hrun]
        have hR1 := hR.mono (k5 w0 hR.below) k2 (by omega) k4
        exact hK _ _ _ _ (hR1.put _ (.tuple rfl fun i x y hx _ => by simp at hx)) h
      · cases h
  · -- makeSlice
    rename_i t l c ho
    have hl := hE l
    have hc := hE c
    split at h
    · rename_i el kl l' kc c' hu hl' hc'
      rw [hl'] at hl
      rw [hc'] at hc
      split at h
      · rename_i ei hei
        split at h
        · rename_i z hz
          split at h
          · rename_i hcond
            split at h
            · rename_i hdk
              rw [Bool.and_eq_true] at hdk
              obtain ⟨hb, h⟩ := br_none' h
              simp only [Bool.and_eq_true, decide_eq_true_eq] at hb
              generalize hcl : a.eval l = cl at hl
              generalize hcc : a.eval c = cc at hc
              cases hl; cases hc
              obtain ⟨ρ', cv, w', k1, k2, k3, k4, k5⟩ := makeDeep_sound (P := C.P) hR.mem hB hu hei hz hcond.1 hcond.2.1 hcond.2.2 hdk.2 kl kc hb.1.1 hb.1.2 hb.2
              have hrun : (execOp a.eval o).run C.P w = .ok (.value cv) w' := by
                simp [execOp, ho, hcl, hcc, k1]
              unfold Oper.wp
              rw [hrun]
              exact hK _ _ _ _ (rel_new hR (k5 w0 hB hR.below) k2 k3 k4) h
            obtain ⟨hb, h⟩ := br_none' h
            simp only [Bool.and_eq_true, decide_eq_true_eq] at hb
            generalize hcl : a.eval l = cl at hl
            generalize hcc : a.eval c = cc at hc
            cases hl; cases hc
            obtain ⟨L, cv, w', k1, k2, k3, k4⟩ := makeSlice_sound (P := C.P) hR.mem hB hu hei hz hcond.1 hcond.2.1 hcond.2.2 kl kc hb.1.1 hb.1.2 hb.2
            have hrun : (execOp a.eval o).run C.P w = .ok (.value cv) w' := by
              simp [execOp, ho, hcl, hcc, k1]
            unfold Oper.wp
            rw [hrun]
            exact hK _ _ _ _ (rel_new hR (k4 w0 hB hR.below) k2 (fun id hid => .inl (Map.snoc_old hid)) k3) h
          · cases h
        · cases h
      · cases h
    · cases h
  · -- bytes of a string
    rename_i src dst x ho
    have hx := hE x
    split at h
    · rename_i el s hu hxs
      rw [hxs] at hx
      split at h
      · rename_i ei hu8 hei
        split at h
        · rename_i hsz
          generalize hcx : a.eval x = cx at hx
          cases hx
          have hns : isBytes C.P o.op = true := hby ⟨_, _, _, ho⟩
          have hsrc : C.P.underlying src = some .string := by
            rw [ho] at hns
            unfold isBytes at hns
            simp only at hns
            split at hns
            · assumption
            · cases hns
          obtain ⟨L, cv, w', k1, k2, k3, k4⟩ := bytes_sound (P := C.P) hR.mem s hsrc hu hu8
          have hrun : (execOp a.eval o).run C.P w = .ok (.value cv) w' := by
            simp [execOp, ho, hcx, k1]
          unfold Oper.wp
          rw [hrun]
          exact hK _ _ _ _ (rel_new hR (hR.below.trans (k4.mono hB)) k2 (fun id hid => .inl (Map.snoc_old hid)) k3) h
        · cases h
      · cases h
    · cases h
  · -- makeMap
    rename_i t ho
    split at h
    · rename_i kt et hu
      have hrun : (execOp a.eval o).run C.P w = .ok (.value (.map (some w.heap.size))) (w.alloc (.map #[] 0)) := by
        have hmk : (Instr.makeMap t none).run C.P w = .ok (.map (some w.heap.size)) (w.alloc (.map #[] 0)) := rfl
        simp [execOp, ho, hmk]
      split at h
      · rename_i kd hk he
        have hm := hR.mem.newMap hB (k := .int kd) (z := .int kd 0) rfl
        unfold Oper.wp
        rw [hrun]
        exact hK _ _ _ _ (rel_new hR (below_alloc hB hR.below _) hm (fun id hid => .inl (Map.snoc_old hid)) (.map (by omega) Map.snoc_new)) h
      · have hm := hR.mem.newMap hB (k := .bool) (z := .bool false) rfl
        unfold Oper.wp
        rw [hrun]
        exact hK _ _ _ _ (rel_new hR (below_alloc hB hR.below _) hm (fun id hid => .inl (Map.snoc_old hid)) (.map (by omega) Map.snoc_new)) h
      · cases h
    · cases h
  · -- mapUpdate
    rename_i t m x v ho
    split at h
    · rename_i kt et hu
      split at h
      · rename_i mem1 hk hs
        obtain ⟨w', ρ1, k1, k2, k3, k4, k5⟩ := mapStore_sound hs hR.mem hu hk (hE m) (hE x) (hE v)
        have hrun : (execOp a.eval o).run C.P w = .ok .skip w' := by
          simp [execOp, ho, k1]
        unfold Oper.wp
        rw [hrun]
        have hR1 := hR.mono (k5 w0 hR.below) k2 (by omega) k4
        exact hK _ _ _ _ (hR1.put _ (.tuple rfl fun i x y hx _ => by simp at hx)) h
      · cases h
    · cases h
  · -- call
    rename_i c ho
    split at h
    · rename_i hcal
      split at h
      · rename_i st xt s x hat has
        have ea : c.argTypes = #[st, xt] := by rw [← Array.toArray_toList (xs := c.argTypes), hat]
        obtain ⟨p, q, hpq⟩ : ∃ p q, c.args.toList = [p, q] := by
          have hlen : c.args.toList.length = 2 := by have := congrArg List.length has; simpa using this
          match hc : c.args.toList, hlen with
          | [p, q], _ => exact ⟨p, q, rfl⟩
        rw [hpq] at has
        simp only [List.map_cons, List.map_nil, List.cons.injEq, and_true] at has
        have eargs : c.args = #[p, q] := by rw [← Array.toArray_toList (xs := c.args), hpq]
        split at h
        · rename_i el hu hsk
          split at h
          · rename_i ei hei
            split at h
            · rename_i z hz
              split at h
              · rename_i hcond
                split at h
                · rename_i ido rr n r2 hd hsrc
                  obtain ⟨hb, h⟩ := br_none' h
                  simp only [decide_eq_true_eq] at hb
                  obtain ⟨ρt, t1, t2, t3⟩ := takeDst_sound hR.mem s
                  have hRt : Rel w0 { σ with mem := takeDst σ.mem s } a cs w ρt := hR.mono hR.below t1 (by omega) t3
                  have hs := hRt.tmps.env p
                  have hx := hRt.tmps.env q
                  rw [show env ({ σ with mem := takeDst σ.mem s } : St).τ p = s from has.1] at hs
                  rw [show env ({ σ with mem := takeDst σ.mem s } : St).τ q = x from has.2] at hx
                  obtain ⟨consts, hbrun⟩ := run_builtin (P := C.P) a o c .append ho hcal
                  obtain ⟨ρ1, cv, w', k1, k2, k3, k4, k5⟩ := append_sound (P := C.P) (ty := o.type) t1 hB hu hei hz hcond.1 hcond.2.1 hcond.2.2 hd hsrc hsk hb hs hx
                  have hrun : (execOp a.eval o).run C.P w = .ok (.value cv) w' := by
                    rw [hbrun, eargs, ea]
                    simp [builtin, k1]
                  unfold Oper.wp
                  rw [hrun]
                  cases ido with
                  | none =>
                    have hR1 : Rel w0 { σ with mem := takeDst σ.mem s ++ [some (.row (kinds C.P 8 el) true (rr.app r2))] } a cs w' ρ1 := hRt.mono (k5 w0 rfl hB hR.below) k2 (by simp) k3
                    exact hK _ _ _ ρ1 (hR1.put o.dst (by simpa using k4)) h
                  | some i =>
                    have hR1 : Rel w0 { σ with mem := (takeDst σ.mem s).set i none ++ [some (.row (kinds C.P 8 el) true (rr.app r2))] } a cs w' ρ1 := hRt.mono (k5 w0 rfl hB hR.below) k2 (by simp) k3
                    have h9 := hR1.put o.dst (x := sl0 (n + r2.n) (takeDst σ.mem s).length) (y := cv) (by simpa using k4)
                    refine hK _ _ _ ρ1 ?_ h
                    simpa [St.new] using h9
                · split at h
                  · rename_i mem1 rr n hd
                    obtain ⟨hb, h⟩ := br_none' h
                    simp only [decide_eq_true_eq] at hb
                    have hs := hR.tmps.env p
                    have hx := hR.tmps.env q
                    rw [show env σ.τ p = s from has.1] at hs
                    rw [show env σ.τ q = x from has.2] at hx
                    obtain ⟨consts, hbrun⟩ := run_builtin (P := C.P) a o c .append ho hcal
                    obtain ⟨ρ1, cv, w', k1, k2, k3, k4, k5, k6⟩ := appDeep_sound (P := C.P) (ty := o.type) hR.mem hB hu hei hz hcond.1 hcond.2.1 hcond.2.2 hd hsk hb hs hx
                    have hrun : (execOp a.eval o).run C.P w = .ok (.value cv) w' := by
                      rw [hbrun, eargs, ea]
                      simp [builtin, k1]
                    unfold Oper.wp
                    rw [hrun]
                    have hR1 : Rel w0 { σ with mem := mem1 ++ [some (.deep (kinds C.P 8 el) rr none)] } a cs w' ρ1 := hR.mono (k6 w0 rfl hB hR.below) k2 (by simp [k3]) k4
                    have h9 := hR1.put o.dst (x := sl0 n σ.mem.length) (y := cv) (by simpa [k3] using k5)
                    refine hK _ _ _ ρ1 ?_ h
                    simpa [St.new, k3] using h9
                  · cases h
              · cases h
            · cases h
          · cases h
        · cases h
      · cases h
    · cases h
    · split at h
      · rename_i g args hg
        split at h
        · rename_i f hX
          obtain ⟨cargs, hv, hrun⟩ := calleeOf_sound (P := C.P) hE ho hg
          split at h
          · rename_i bb vs hf
            cases bb with
            | false => cases h
            | true =>
            obtain ⟨p1, p2, p3⟩ := hC.ext g f hX args vs hf
            rw [hv.plainEq p1] at hrun
            unfold Oper.wp
            rw [hrun, p3]
            exact hK _ _ _ _ (hR.put o.dst (V.ofPlain p2)) h
          · cases h
        split at h
        · rename_i hok
          obtain ⟨cargs, hv, hrun⟩ := calleeOf_sound (P := C.P) hE ho hg
          split at h
          · rename_i F hF
            split at h
            · rename_i ds hds
              split at h
              · rename_i cnd rs hrs
                split at h
                · rename_i us mem1 hfrom
                  cases cnd with
                  | false => cases h
                  | true =>
                  change k _ = some r at h
                  unfold Oper.wp
                  rw [hrun, hC.enter g hok]
                  show Calls _ _ _ _ _
                  refine ((hC.den g F hF).callP hR.below hR.mem hds hv hrs).mono fun e w' ⟨cv, he, hb, us', mem', ρ', h1, h2, h3⟩ => ?_
                  subst he
                  obtain ⟨us2, ρ2, m1, m2, m3, m4⟩ := import_sound hR.mem hb hB h1 h2 h3
                  rw [hfrom] at m1
                  cases m1
                  have hR1 := hR.mono (hR.below.trans (hb.mono hB)) m2 (by simp) (fun id hid => .inl (m3 id hid))
                  exact hK _ _ _ _ (hR1.put o.dst m4) h
                · cases h
              · cases h
            · cases h
          · split at h
            · rename_i F hF
              split at h
              · rename_i b v σ1 hFa
                cases b with
                | false => cases h
                | true =>
                unfold Oper.wp
                rw [hrun, hC.enter g hok]
                show Calls _ _ _ _ _
                refine (hC.inpl g F hF w0 (Below.refl _ _) args σ v σ1 hFa a cs w ρ cargs hR hv).mono fun e w' ⟨cv, ρ1, he, h1, h2⟩ => ?_
                subst he
                exact hK _ _ _ _ (h1.put o.dst h2) h
              · cases h
            · unfold Oper.wp
              rw [hrun, hC.enter g hok]
              show Calls _ _ _ _ _
              refine (hinl g args σ _ r h a cs w ρ cargs hR hv).mono fun e w' ⟨cv, v, σ1, ρ1, he, h1, h2, h3⟩ => ?_
              subst he
              exact hK _ _ _ _ (h1.put o.dst h2) h3
        · cases h
      · cases h
  · cases h
end
end Go.Ev

/- New blocks: boxes, made rows, rows that are written out, structs that are put together. No conditions. -/
import Derived.Test.YtlfeobdfgmlmpaaGreatDoorEvI
import Derived.Laws.MakeOwn
namespace Go.Ev
open Go.RowKit
section
variable {P : Program} {mem mem' : List (Option Blk)} {ρ ρ' : Map} {B : Nat} {w w' : World}

theorem below_alloc {W0 : World} (hW : W0.heap.size ≤ w.heap.size) (h : Below W0.heap.size W0 w) (o : Obj) : Below W0.heap.size W0 (w.alloc o) := h.alloc hW o

theorem MemR.box (h : MemR mem ρ B w) (hB : B ≤ w.heap.size) {xs : List Value} {c : Array Value} (T : TypeId) (hs : c.size = xs.length) (hv : ∀ (i : Nat) (x y : Value), xs[i]? = some x → c[i]? = some y → V ρ mem.length x y) :
    ∃ L, L.n = 1 ∧ L.adr 0 0 = ⟨w.heap.size, 0, none⟩ ∧ MemR (mem ++ [some (.box xs)]) (Map.snoc ρ mem.length L) B (w.alloc (.cells c T)) := by
  refine ⟨⟨w.heap.size, 0, 0, 1, 1, true, s0⟩, rfl, rfl, h.alloc (Below.alloc (Below.refl _ _) (Nat.le_refl _) _) (fun _ => Loc.fresh rfl fun _ => Nat.le_refl _) ⟨hB, rfl, rfl, Nat.one_pos, c, T, ?_, hs, fun j x y hx hy => ?_, rfl⟩⟩
  · show (w.heap.push _)[w.heap.size]? = _
    simp
  · exact (hv j x y hx hy).mono (by simp) fun id hid => .inl (Map.snoc_old hid)

/-- A new row of the call's own. -/
theorem MemR.newRow (h : MemR mem ρ B w) (hB : B ≤ w.heap.size) {ks : List CK} {r : Row} {c : Array Value} {T : TypeId} {tot : Nat} {w1 : World} (hw : Below w.heap.size w w1) (hsz : w1.heap.size = w.heap.size) (hc : tot * ks.length ≤ c.size) (hn : r.n ≤ tot)
    (v : Nat → Nat → Value) (h1 : ∀ e j k, e < r.n → ks[j]? = some k → c[e * ks.length + j]? = some (v e j)) (h2 : ∀ e j k, e < r.n → ks[j]? = some k → CellR (okB mem ρ w) w k r e j (v e j)) :
    MemR (mem ++ [some (.row ks true r)]) (Map.snoc ρ mem.length ⟨w.heap.size, 0, ks.length, tot, r.n, true, s0⟩) B (w1.alloc (.cells c T)) := by
  have hb : Below w.heap.size w (w1.alloc (.cells c T)) := hw.alloc (by omega) _
  have hg : (w1.alloc (.cells c T)).heap[w.heap.size]? = some (.cells c T (0, 0)) := by
    show (w1.heap.push _)[w.heap.size]? = _
    rw [← hsz]
    simp
  refine h.alloc hb (fun _ => Loc.fresh rfl fun _ => Nat.le_refl _) ⟨rfl, rfl, fun _ => ⟨rfl, hn, fun _ => ⟨hB, c, T, hg, by simpa using hc⟩⟩, fun _ => ⟨(fun hf => by cases hf), .mk v (fun e j k he hk => ?_) (fun e j k he hk => ?_)⟩, rfl⟩
  · have := h1 e j k he hk
    simp [World.cell?, hg, this]
  · refine (h2 e j k he hk).mono fun b hbk => ⟨⟨Nat.lt_of_lt_of_le hbk.1 hb.size, fun id ⟨M, blk, g1, g3, g4, g2⟩ => ?_⟩, hb.block b hbk.1⟩
    rcases get_snoc g3 with ⟨g6, g7⟩ | ⟨g6, _⟩
    · rw [Map.snoc_old g7] at g1
      exact hbk.2 id ⟨M, blk, g1, g6, g4, g2⟩
    · subst g6
      rw [Map.snoc_new] at g1
      cases g1
      obtain ⟨_, g7⟩ := Loc.foot_s0 rfl g2
      have := hbk.1
      simp at g7
      omega

theorem V.newRow {n : Nat} {ks : List CK} {w : World} {tot cap : Nat} {N : Nat} (hN : mem.length < N) (hn : n ≤ cap) (ht : cap ≤ tot) : V (Map.snoc ρ mem.length ⟨w.heap.size, 0, ks.length, tot, n, true, s0⟩) N (.slice (some ⟨mem.length, 0, some 0⟩) n 0) (.slice (some ⟨w.heap.size, 0, none⟩) n cap) :=
  .slice (L := ⟨w.heap.size, 0, ks.length, tot, n, true, s0⟩) hN Map.snoc_new (by simp) hn (fun _ => by simp [Loc.adr]) (fun _ => ⟨by simpa using ht, .inr (by simp [Loc.adr])⟩)

/-! ### Zeros -/
theorem zeroOk_spec : ∀ {ks : List CK} {vs : List Value}, zeroOk ks vs = true → vs.length = ks.length ∧ ∀ (j : Nat) (k : CK), ks[j]? = some k → ∃ v, vs[j]? = some v ∧ ∀ (ok : Nat → Prop) (w : World) (n e j' : Nat), CellR ok w k (Row.zeros n) e j' v
  | [], [], _ => ⟨rfl, fun j k h => by simp at h⟩
  | ck :: ks, [], h => by cases ck <;> simp [zeroOk] at h
  | [], v :: vs, h => by simp [zeroOk] at h
  | ck :: ks, v :: vs, h => by
    have key : zeroOk ks vs = true ∧ ∀ (ok : Nat → Prop) (w : World) (n e j' : Nat), CellR ok w ck (Row.zeros n) e j' v := by
      unfold zeroOk at h
      split at h
      · rename_i heq1 heq2; cases heq1
      · rename_i k ks' k' vs' heq1 heq2
        cases heq1; cases heq2
        simp only [Bool.and_eq_true] at h
        cases same_eq h.1
        exact ⟨h.2, fun ok w n e j' => .int⟩
      · rename_i ks' vs' heq1 heq2
        cases heq1; cases heq2
        exact ⟨h, fun ok w n e j' => .bool⟩
      · rename_i ks' s vs' heq1 heq2
        cases heq1; cases heq2
        simp only [Bool.and_eq_true] at h
        have hs : s = ByteArray.empty := by
          obtain ⟨⟨l⟩⟩ := s
          have : l = [] := by simpa using h.1
          subst this
          rfl
        subst hs
        exact ⟨h.2, fun ok w n e j' => .str⟩
      · rename_i sub ks' vs' heq1 heq2
        cases heq1; cases heq2
        exact ⟨h, fun ok w n e j' => .slice0 rfl⟩
      · cases h
    obtain ⟨h1, h2⟩ := zeroOk_spec key.1
    refine ⟨by simp [h1], fun j k hk => ?_⟩
    cases j with
    | zero => simp at hk; subst hk; exact ⟨v, rfl, key.2⟩
    | succ j => simp at hk; obtain ⟨u, hu, hc⟩ := h2 j k hk; exact ⟨u, by simpa using hu, hc⟩

theorem madeCells_get {z : Array Value} {n sz e j : Nat} (hz : z.size = sz) (he : e < n) (hj : j < sz) {v : Value} (hv : z[j]? = some v) : (madeCells z (n * sz))[e * sz + j]? = some v := by
  have h1 : e * sz + j < n * sz := by
    have : (e + 1) * sz ≤ n * sz := Nat.mul_le_mul_right _ (by omega)
    rw [Nat.add_mul] at this
    omega
  have h3 : (e * sz + j) % sz = j := by
    rw [Nat.add_comm, Nat.add_mul_mod_self_right, Nat.mod_eq_of_lt hj]
  have hjz : j < z.size := by omega
  have : z[j] = v := by
    rw [Array.getElem?_eq_getElem hjz] at hv
    exact Option.some.inj hv
  have h4 : z[j]! = v := by rw [getElem!_pos z j hjz, this]
  simp [madeCells, h1, hz, h3, h4]

theorem cells_lcells (z : Value) : z.cells.toList = lcells z := by cases z <;> rfl

theorem makeSlice_sound (h : MemR mem ρ B w) (hB : B ≤ w.heap.size) {t el : TypeId} {ei : TypeInfo} {z : Value} (ht : P.underlying t = some (.slice el)) (hi : P.info? el = some ei) (hz : ei.zero = some z) {ks : List CK} (hsz : ei.size = ks.length) (hzo : zeroOk ks (lcells z) = true)
    (hbytes : ei.bytes ≤ 1000) (kl kc : IntKind) {l c : Int} (h0 : 0 ≤ l) (hlc : l ≤ c) (hc : c ≤ 100000000000) :
    ∃ L cv w', (Instr.makeSlice t (.int kl l) (.int kc c)).run P w = .ok cv w' ∧ MemR (mem ++ [some (.row ks true (Row.zeros l.toNat))]) (Map.snoc ρ mem.length L) B w' ∧ V (Map.snoc ρ mem.length L) (mem.length + 1) (sl0 l.toNat mem.length) cv ∧
      ∀ W0 : World, W0.heap.size ≤ w.heap.size → Below W0.heap.size W0 w → Below W0.heap.size W0 w' := by
  have hrun := run_make (P := P) w t el ei z ht hi hz kl kc l c h0 hlc (by
    have h1 : (ei.bytes : Int) * c ≤ 1000 * c := Int.mul_le_mul_of_nonneg_right (by omega) (by omega)
    omega) (by omega)
  obtain ⟨g1, g2⟩ := zeroOk_spec hzo
  have hzs : z.cells.size = ks.length := by rw [← g1, ← cells_lcells]; simp
  have hcell : ∀ (j : Nat) (k : CK), ks[j]? = some k → ∃ v, z.cells[j]? = some v ∧ ∀ (ok : Nat → Prop) (w : World) (n e j' : Nat), CellR ok w k (Row.zeros n) e j' v := by
    intro j k hk
    obtain ⟨v, hv, hc⟩ := g2 j k hk
    rw [← cells_lcells] at hv
    exact ⟨v, by simpa using hv, hc⟩
  refine ⟨⟨w.heap.size, 0, ks.length, c.toNat, l.toNat, true, s0⟩, _, _, hrun, ?_, V.newRow (by omega) (by omega) (Nat.le_refl _), fun W0 hW hb => below_alloc hW hb _⟩
  refine MemR.newRow h hB (r := Row.zeros l.toNat) (tot := c.toNat) (Below.refl _ _) rfl (by rw [size_madeCells, hsz]; exact Nat.le_refl _) (show l.toNat ≤ c.toNat by omega) (fun _ j => z.cells.getD j undef) (fun e j k he hk => ?_) (fun e j k he hk => ?_)
  · obtain ⟨v, hv, _⟩ := hcell j k hk
    have hj : j < ks.length := (List.getElem?_eq_some_iff.1 hk).1
    rw [hsz]
    have he' : e < l.toNat := he
    rw [madeCells_get hzs (show e < c.toNat by omega) hj hv, Array.getD_eq_getD_getElem?, hv, Option.getD_some]
  · obtain ⟨v, hv, hcr⟩ := hcell j k hk
    have : z.cells.getD j undef = v := by rw [Array.getD_eq_getD_getElem?, hv, Option.getD_some]
    rw [this]
    exact hcr _ _ _ _ _

/-! ### Cells that are put together -/
theorem foldSet_V {N off : Nat} : ∀ (xs ys : List Value) (k : Nat) (c d : Array Value), xs.length = ys.length → (∀ (i : Nat) (x y : Value), xs[i]? = some x → ys[i]? = some y → V ρ N x y) → c.size = d.size → (∀ (i : Nat) (x y : Value), c[i]? = some x → d[i]? = some y → V ρ N x y) →
    ((xs.zipIdx k).foldl (fun cs p => cs.setIfInBounds (off + p.2) p.1) c).size = ((ys.zipIdx k).foldl (fun cs p => cs.setIfInBounds (off + p.2) p.1) d).size ∧
    ((xs.zipIdx k).foldl (fun cs p => cs.setIfInBounds (off + p.2) p.1) c).size = c.size ∧
    ∀ (i : Nat) (x y : Value), ((xs.zipIdx k).foldl (fun cs p => cs.setIfInBounds (off + p.2) p.1) c)[i]? = some x → ((ys.zipIdx k).foldl (fun cs p => cs.setIfInBounds (off + p.2) p.1) d)[i]? = some y → V ρ N x y
  | [], [], k, c, d, _, _, hs, hv => ⟨hs, rfl, hv⟩
  | [], y :: ys, k, c, d, hl, _, _, _ => by simp at hl
  | x :: xs, [], k, c, d, hl, _, _, _ => by simp at hl
  | x :: xs, y :: ys, k, c, d, hl, hxy, hs, hv => by
    simp only [List.zipIdx_cons, List.foldl_cons]
    have h0 := foldSet_V (off := off) xs ys (k + 1) (c.setIfInBounds (off + k) x) (d.setIfInBounds (off + k) y) (by simpa using hl) (fun i p q hp hq => hxy (i + 1) p q (by simpa using hp) (by simpa using hq)) (by simp [hs]) (fun i p q hp hq => by
      rw [Array.getElem?_setIfInBounds] at hp hq
      by_cases hi : off + k = i
      · rw [if_pos hi] at hp hq
        split at hp
        · split at hq
          · cases hp; cases hq
            exact hxy 0 x y rfl rfl
          · cases hq
        · cases hp
      · rw [if_neg hi] at hp hq
        exact hv i p q hp hq)
    exact ⟨h0.1, by rw [h0.2.1]; simp, h0.2.2⟩

theorem fill_V {N : Nat} {place : Nat → Option (Nat × Nat)} : ∀ (ps qs : List (Nat × Value)) (c d out : Array Value), Instr.fill place c ps = some out → ps.length = qs.length → (∀ (i : Nat) (p q : Nat × Value), ps[i]? = some p → qs[i]? = some q → p.1 = q.1 ∧ isUnk p.2 = false ∧ V ρ N p.2 q.2) →
    c.size = d.size → (∀ (i : Nat) (x y : Value), c[i]? = some x → d[i]? = some y → V ρ N x y) →
    ∃ out', Instr.fill place d qs = some out' ∧ out.size = out'.size ∧ out.size = c.size ∧ ∀ (i : Nat) (x y : Value), out[i]? = some x → out'[i]? = some y → V ρ N x y
  | [], [], c, d, out, h, _, _, hs, hv => by simp [Instr.fill] at h; subst h; exact ⟨d, rfl, hs, rfl, hv⟩
  | [], q :: qs, c, d, out, h, hl, _, _, _ => by simp at hl
  | p :: ps, [], c, d, out, h, hl, _, _, _ => by simp at hl
  | (i, v) :: ps, (i', v') :: qs, c, d, out, h, hl, hpq, hs, hv => by
    obtain ⟨rfl, hu, hvv⟩ := hpq 0 (i, v) (i', v') rfl rfl
    obtain ⟨k1, k2⟩ := hvv.cells hu
    rw [← cells_lcells] at k1 k2
    simp only [Array.length_toList] at k1
    simp only [Instr.fill] at h ⊢
    cases hp : place i with
    | none => rw [hp] at h; cases h
    | some q =>
      obtain ⟨off, size⟩ := q
      rw [hp] at h
      simp only at h ⊢
      split at h
      · cases h
      · rename_i hcond
        rw [if_neg (by rw [← k1, ← hs]; exact hcond)]
        have h1 := foldSet_V (ρ := ρ) (N := N) (off := off) v.cells.toList v'.cells.toList 0 c d (by simpa using k1) (fun i p q hp hq => k2 i p q hp (by simpa using hq)) hs hv
        have e1 : ∀ (u : Value) (c : Array Value), u.cells.zipIdx.foldl (fun cs x => cs.setIfInBounds (off + x.2) x.1) c = (u.cells.toList.zipIdx 0).foldl (fun cs p => cs.setIfInBounds (off + p.2) p.1) c := by
          intro u c
          rw [← Array.foldl_toList, Array.toList_zipIdx]
        have e2 : (v.cells.zipIdx.foldl (fun cs (x : Value × Nat) => match x with | (c, j) => cs.setIfInBounds (off + j) c) c) = (v.cells.toList.zipIdx 0).foldl (fun cs p => cs.setIfInBounds (off + p.2) p.1) c := e1 v c
        have e3 : (v'.cells.zipIdx.foldl (fun cs (x : Value × Nat) => match x with | (c, j) => cs.setIfInBounds (off + j) c) d) = (v'.cells.toList.zipIdx 0).foldl (fun cs p => cs.setIfInBounds (off + p.2) p.1) d := e1 v' d
        rw [e2] at h
        rw [e3]
        obtain ⟨out', o1, o2, o3, o4⟩ := fill_V ps qs _ _ out h (by simpa using hl) (fun n p q hp hq => hpq (n + 1) p q (by simpa using hp) (by simpa using hq)) h1.1 h1.2.2
        exact ⟨out', o1, o2, o3.trans h1.2.1, o4⟩
end
end Go.Ev

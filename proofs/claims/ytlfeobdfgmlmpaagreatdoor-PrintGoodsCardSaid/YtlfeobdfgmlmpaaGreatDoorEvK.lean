/- Rows out of cells that are written out; appends. No conditions. -/
import Derived.Test.YtlfeobdfgmlmpaaGreatDoorEvJ
namespace Go.Ev
open Go.RowKit
section
variable {P : Program} {mem mem' : List (Option Blk)} {ρ ρ' : Map} {B : Nat} {w w' : World}

theorem zeroOk_V {N : Nat} : ∀ {ks : List CK} {vs : List Value}, zeroOk ks vs = true → ∀ (j : Nat) (v : Value), vs[j]? = some v → V ρ N v v
  | [], [], _, j, v, h => by simp at h
  | ck :: ks, [], h, j, v, hv => by simp at hv
  | [], v :: vs, h, j, u, hv => by simp [zeroOk] at h
  | ck :: ks, v :: vs, h, j, u, hv => by
    have key : zeroOk ks vs = true ∧ V ρ N v v := by
      unfold zeroOk at h
      split at h
      · rename_i heq1 heq2; cases heq1
      · rename_i k ks' k' vs' heq1 heq2
        cases heq1; cases heq2
        simp only [Bool.and_eq_true] at h
        exact ⟨h.2, .int⟩
      · rename_i ks' vs' heq1 heq2
        cases heq1; cases heq2
        exact ⟨h, .bool⟩
      · rename_i ks' s vs' heq1 heq2
        cases heq1; cases heq2
        simp only [Bool.and_eq_true] at h
        exact ⟨h.2, .str⟩
      · rename_i sub ks' vs' heq1 heq2
        cases heq1; cases heq2
        exact ⟨h, .sliceNil⟩
      · cases h
    cases j with
    | zero => simp at hv; subst hv; exact key.2
    | succ j => simp at hv; exact zeroOk_V key.1 j u hv

theorem drop_take_get {α : Type} {l : List α} {a n i : Nat} {x : α} (h : ((l.drop a).take n)[i]? = some x) : i < n ∧ l[a + i]? = some x := by
  rw [List.getElem?_take] at h
  split at h
  · rw [List.getElem?_drop] at h; exact ⟨by assumption, h⟩
  · cases h

theorem litRow_sound {ks : List CK} {n : Nat} {cells ccs : List Value} (hcl : cells.length = n * ks.length) (hcc : ccs.length = cells.length) : ∀ (m : Nat) (mem mem1 : List (Option Blk)) (ρ : Map) (r r1 : Row), litRow mem ks n cells m r = some (r1, mem1) → m ≤ n → MemR mem ρ B w →
    (∀ (i : Nat) (x c : Value), cells[i]? = some x → ccs[i]? = some c → V ρ mem.length x c) →
    ∃ ρ1, Kept mem ρ w mem1 ρ1 ∧ MemR mem1 ρ1 B w ∧ r1.n = r.n ∧ (∀ (ok : Nat → Prop) (w' : World) (k : CK) (e j : Nat) (v : Value), e < n - m → CellR ok w' k r e j v → CellR ok w' k r1 e j v) ∧
      ∀ (e j : Nat) (k : CK) (c : Value), n - m ≤ e → e < n → ks[j]? = some k → ccs[e * ks.length + j]? = some c → CellR (okB mem1 ρ1 w) w k r1 e j c
  | 0, mem, mem1, ρ, r, r1, h, hm, hR, hv => by
    simp [litRow] at h
    obtain ⟨rfl, rfl⟩ := h
    exact ⟨ρ, .refl .., hR, rfl, fun _ _ _ _ _ _ _ hc => hc, fun e j k c h1 h2 => by omega⟩
  | m + 1, mem, mem1, ρ, r, r1, h, hm, hR, hv => by
    simp only [litRow] at h
    split at h
    · rename_i r2 mem2 h1
      have hrow : (n - (m + 1)) * ks.length + ks.length ≤ n * ks.length := by
        have : (n - (m + 1) + 1) * ks.length ≤ n * ks.length := Nat.mul_le_mul_right _ (by omega)
        rwa [Nat.add_mul, Nat.one_mul] at this
      obtain ⟨ρ2, g1, g2, g3, g4, g5, g6⟩ := setCells_sound (w := w) _ mem mem2 ρ r r2 0 ks ((ccs.drop ((n - (m + 1)) * ks.length)).take ks.length) h1 hR (by simp; omega) (fun i x c hx hc => hv _ x c (drop_take_get hx).2 (drop_take_get hc).2)
      obtain ⟨ρ1, k1, k2, k3, k4, k5⟩ := litRow_sound hcl hcc m mem2 mem1 ρ2 r2 r1 h (by omega) g2 (fun i x c hx hc => by
        rw [g1.len]
        exact (hv i x c hx hc).mono (Nat.le_refl _) fun id _ => g1.less id)
      refine ⟨ρ1, g1.trans k1, k2, k3.trans g3, fun ok w' k e j v he hc => k4 ok w' k e j v (by omega) (g5 ok w' k e j v (.inl (by omega)) hc), fun e j k c he1 he2 hk hc => ?_⟩
      by_cases hee : e = n - (m + 1)
      · subst hee
        have hj : j < ks.length := (List.getElem?_eq_some_iff.1 hk).1
        have := g6 j k c hk (by rw [List.getElem?_take, if_pos hj, List.getElem?_drop]; exact hc)
        rw [Nat.zero_add] at this
        exact k4 _ _ _ _ _ _ (by omega) (this.mono fun b hb => ⟨k1.ok b hb, rfl⟩)
      · exact k5 e j k c (by omega) he2 hk hc
    · cases h

/-- An own row is left for a new one that begins in it. -/
theorem MemR.replace (h : MemR mem ρ B w) {id : Nat} {ks : List CK} {r r' : Row} {L L' : Loc} (hid : mem[id]? = some (some (.row ks true r))) (hL : ρ id = some L) (hb : L'.b = L.b) (hpos : 0 < L'.tot → 0 < L.tot)
    (hother : ∀ k, k ≠ L.b → w'.heap[k]? = w.heap[k]?) (hsame : L.tot = 0 → w' = w) (hsize : w'.heap.size = w.heap.size)
    (hr : BlkR (mem.set id none ++ [some (.row ks true r')]) (fun i => if i = mem.length then some L' else if i = id then none else ρ i) w' B L' (.row ks true r')) :
    MemR (mem.set id none ++ [some (.row ks true r')]) (fun i => if i = mem.length then some L' else if i = id then none else ρ i) B w' := by
  have hlt : id < mem.length := (List.getElem?_eq_some_iff.1 hid).1
  have get : ∀ (i : Nat) (b : Blk), (mem.set id none ++ [some (.row ks true r')])[i]? = some (some b) → (i ≠ id ∧ i < mem.length ∧ mem[i]? = some (some b)) ∨ (i = mem.length ∧ b = .row ks true r') := by
    intro i b hi
    rcases get_snoc hi with ⟨g1, g2⟩ | ⟨g1, g2⟩
    · rcases get_set g1 with ⟨g3, g4⟩ | ⟨_, g4, _⟩
      · exact .inl ⟨g3, by simpa using g2, g4⟩
      · cases g4
    · cases g2
      exact .inr ⟨by simpa using g1, rfl⟩
  have hs : L.sub = s0 := by
    obtain ⟨M, hM, hbr⟩ := h.blk _ _ hid
    rw [hL] at hM
    cases hM
    exact hbr.2.2.2.2
  have hs' : L'.sub = s0 := hr.2.2.2.2
  have hO : 0 < L.tot → Owned mem ρ id L.b := fun ht => ⟨L, _, hL, hid, rfl, .inl ⟨ht, rfl⟩⟩
  have hown : ∀ (i b : Nat), Owned (mem.set id none ++ [some (.row ks true r')]) (fun i => if i = mem.length then some L' else if i = id then none else ρ i) i b → (i ≠ id ∧ Owned mem ρ i b) ∨ (i = mem.length ∧ b = L.b ∧ Owned mem ρ id L.b) := by
    intro i b ⟨M, blk, g1, g3, g4, g2⟩
    rcases get i blk g3 with ⟨g5, g6, g7⟩ | ⟨g5, g6⟩
    · have hne : i ≠ mem.length := by omega
      simp only [hne, g5, if_false] at g1
      exact .inl ⟨g5, M, blk, g1, g7, g4, g2⟩
    · subst g5
      simp at g1
      subst g1
      obtain ⟨g8, g9⟩ := Loc.foot_s0 hs' g2
      exact .inr ⟨rfl, by rw [g9, hb], hO (hpos g8)⟩
  refine h.step (by simp) (fun i hi => ?_) (fun b hb' => ⟨⟨by rw [hsize]; exact hb'.1, fun i hM => ?_⟩, ?_⟩) (fun i b hi => ?_) (fun i hi => ?_) (fun i j b hi hj => ?_)
  · have hne : i ≠ mem.length := by omega
    by_cases hii : i = id
    · exact .inr (.inl (by simp [hii]; omega))
    · exact .inl (by simp [hne, hii])
  · rcases hown i b hM with ⟨_, g1⟩ | ⟨_, g1, g2⟩
    · exact hb'.2 i g1
    · exact hb'.2 id (g1 ▸ g2)
  · rcases Nat.eq_zero_or_pos L.tot with h0 | h0
    · rw [hsame h0]
    · exact hother b fun e => hb'.2 id (e ▸ hO h0)
  · rcases get i b hi with ⟨g5, g6, g7⟩ | ⟨g5, g6⟩
    · have hne : i ≠ mem.length := by omega
      refine .inl ⟨g7, by simp [hne, g5], fun M hM hob c hc => ?_, fun p e j ks' r'' _ kps rp hh Lp q1 q2 => ?_⟩
      · rcases Nat.eq_zero_or_pos L.tot with h0 | h0
        · rw [hsame h0]
        · exact hother _ fun e => g5 (h.inj i id c ⟨M, b, hM, g7, hob, hc⟩ (e ▸ hO h0))
      · have hp : p < mem.length := (List.getElem?_eq_some_iff.1 q1).1
        have hpi : p ≠ id := by rintro rfl; rw [hid] at q1; cases q1
        have hpn : p ≠ mem.length := by omega
        refine ⟨?_, by simp [hpi, hpn, q2], fun ht => ?_⟩
        · rw [List.getElem?_append_left (by simpa using hp), List.getElem?_set_ne (fun e => hpi e.symm)]
          exact q1
        · rcases Nat.eq_zero_or_pos L.tot with h0 | h0
          · rw [hsame h0]
          · exact hother _ fun e => hpi (h.inj p id Lp.b ⟨Lp, _, q2, q1, rfl, .inl ⟨ht, rfl⟩⟩ (e ▸ hO h0))
    · subst g5; subst g6
      exact .inr ⟨L', by simp, hr⟩
  · have hne : i ≠ mem.length := by
      rintro rfl
      exact hi (.row ks true r') (by rw [List.getElem?_append_right (by simp)]; simp)
    by_cases hii : i = id
    · simp [hii]; omega
    · simp only [hne, hii, if_false]
      refine h.dead i fun b hb' => hi b ?_
      have hil : i < mem.length := (List.getElem?_eq_some_iff.1 hb').1
      rw [List.getElem?_append_left (by simpa using hil), List.getElem?_set_ne (fun e => hii e.symm)]
      exact hb'
  · rcases hown i b hi with ⟨p1, p2⟩ | ⟨p1, p2, p3⟩ <;> rcases hown j b hj with ⟨q1, q2⟩ | ⟨q1, q2, q3⟩
    · exact h.inj i j b p2 q2
    · exact absurd (h.inj i id b p2 (q2 ▸ q3)) p1
    · exact absurd (h.inj j id b q2 (p2 ▸ p3)) q1
    · omega
end
end Go.Ev

/- What a call hands back comes into the caller's memory; what a function hands back is made of its own. No conditions. -/
import Derived.Test.YtlfeobdfgmlmpaaGreatDoorEvM
namespace Go.Ev
open Go.RowKit
section
variable {P : Program} {mem mem' : List (Option Blk)} {ρ ρ' : Map} {B : Nat} {w w' : World}

theorem flat_get : ∀ {ks : List CK} {j : Nat} {k : CK}, flat ks = true → ks[j]? = some k → (∃ kd, k = .int kd) ∨ k = .bool ∨ k = .str
  | [], j, k, _, h => by simp at h
  | c :: ks, 0, k, hf, h => by
    simp at h
    subst h
    cases c <;> simp [flat] at hf ⊢
  | c :: ks, j + 1, k, hf, h => by
    simp at h
    refine flat_get ?_ h
    cases c <;> simp [flat] at hf ⊢ <;> exact hf

theorem CellR.flat {ok ok' : Nat → Prop} {k : CK} {r : Row} {e j : Nat} {v : Value} (hk : (∃ kd, k = .int kd) ∨ k = .bool ∨ k = .str) (h : CellR ok w k r e j v) : CellR ok' w' k r e j v := by
  rcases hk with ⟨kd, rfl⟩ | rfl | rfl <;> cases h
  · exact .int
  · exact .bool
  · exact .str

theorem Rds.flat {ok ok' : Nat → Prop} {ks : List CK} {r : Row} {b off : Nat} (hf : flat ks = true) (hb : w'.heap[b]? = w.heap[b]?) (h : Rds ok w ks r b off) : Rds ok' w' ks r b off := by
  cases h with
  | mk v h1 h2 => exact .mk v (fun e j k he hk => (World.cell?_of_block (a := ⟨b, off + e * ks.length + j, none⟩) hb).trans (h1 e j k he hk)) fun e j k he hk => (h2 e j k he hk).flat (flat_get hf hk)

/-- A block that is handed over. -/
def FlatB (b : Blk) : Prop := (∃ ks r, b = .row ks true r ∧ flat ks = true) ∨ ∃ ks r, b = .deep ks r none
/-- Only blocks that are handed over. -/
def Flat (mem : List (Option Blk)) : Prop := ∀ (id : Nat) (b : Blk), mem[id]? = some (some b) → FlatB b

theorem outB_flat (ks : List CK) (r : Row) : FlatB (outB ks r) := by
  unfold outB
  split
  · exact .inl ⟨_, _, rfl, by assumption⟩
  · exact .inr ⟨_, _, rfl⟩

/-- What is handed over does not lean on other blocks. -/
theorem FlatB.free {b : Blk} {L : Loc} (h : FlatB b) (hr : BlkR mem ρ w B L b) : BlkR mem' ρ' w B L b := by
  rcases h with ⟨ks, r, rfl, hf⟩ | ⟨ks, r, rfl⟩
  · exact ⟨hr.1, hr.2.1, hr.2.2.1, fun hn => ⟨(fun hf => by cases hf), ((hr.2.2.2.1 hn).2).flat hf rfl⟩, hr.2.2.2.2⟩
  · exact hr
theorem SubR.base {B' : Nat} (hB : B' ≤ B) {ks : List CK} {r : Row} {ob : Option Nat} {v : Value} (h : SubR B w ks r ob v) : SubR B' w ks r ob v := by
  obtain ⟨a, cap, h1, h2, h3⟩ := h
  refine ⟨a, cap, h1, h2, ?_⟩
  rcases h3 with h3 | ⟨b, off, c, T, g1, g2, g3, g4⟩
  · exact .inl h3
  · exact .inr ⟨b, off, c, T, g1, g2, by omega, g4⟩
theorem DCell.base {B' : Nat} (hB : B' ≤ B) {k : CK} {r : Row} {e j : Nat} {hole : Bool} {ob : Option Nat} {v : Value} (h : DCell B w k r e j hole ob v) : DCell B' w k r e j hole ob v := by
  cases k with
  | slice sub => exact ⟨h.1, h.2.1, fun hh => (h.2.2 hh).base hB⟩
  | int k => exact h
  | bool => exact h
  | str => exact h
  | other => exact h
theorem FlatB.base {B' : Nat} (hB : B' ≤ B) {b : Blk} {L : Loc} (h : FlatB b) (hr : BlkR mem ρ w B L b) : BlkR mem ρ w B' L b := by
  rcases h with ⟨ks, r, rfl, hf⟩ | ⟨ks, r, rfl⟩
  · refine ⟨hr.1, hr.2.1, fun ho => ⟨(hr.2.2.1 ho).1, (hr.2.2.1 ho).2.1, fun ht => ?_⟩, hr.2.2.2⟩
    obtain ⟨k1, k2⟩ := (hr.2.2.1 ho).2.2 ht
    exact ⟨by omega, k2⟩
  · obtain ⟨h1, h2, h3, h4, h5, h6, h7, h8⟩ := hr
    refine ⟨h1, h2, h3, h4, fun ht => ?_, fun e j k he hk => ?_, h7, h8⟩
    · obtain ⟨k1, k2⟩ := h5 ht
      exact ⟨by omega, k2⟩
    · obtain ⟨v, g1, g2⟩ := h6 e j k he hk
      exact ⟨v, g1, g2.base hB⟩
theorem FlatB.fresh {b : Blk} {L : Loc} (h : FlatB b) (hr : BlkR mem ρ w B L b) : ∀ c, L.foot c → B ≤ c := by
  rcases h with ⟨ks, r, rfl, hf⟩ | ⟨ks, r, rfl⟩
  · exact Loc.fresh hr.2.2.2.2 fun ht => ((hr.2.2.1 rfl).2.2 ht).1
  · exact fun c hc => (BlkR.deep_lt hr hc).2

theorem Flat.snoc (h : Flat mem) {b : Blk} (hf : FlatB b) : Flat (mem ++ [some b]) := by
  intro id c hc
  rcases get_snoc hc with ⟨h1, _⟩ | ⟨_, h1⟩
  · exact h id c h1
  · cases h1; exact hf

theorem fromD1_flat {m1 m2 : List (Option Blk)} {d : D} {x : Value} (h : fromD1 true m1 d = some (x, m2)) (hf : Flat m1) : Flat m2 ∧ (atom1 x = true ∨ (∃ id n, x = .slice (some ⟨id, 0, some 0⟩) n 0) ∨ ∃ b, x = errV b) := by
  unfold fromD1 at h
  split at h
  · split at h
    · rename_i ha
      cases h
      exact ⟨hf, .inl ha⟩
    · cases h
  · rename_i ks r
    cases h
    exact ⟨hf.snoc (outB_flat ks r), .inr (.inl ⟨_, _, rfl⟩)⟩
  · cases h
  · cases h
  · cases h
    exact ⟨hf, .inr (.inr ⟨_, rfl⟩)⟩

theorem fromD1s_flat : ∀ {ds : List D} {m1 m2 : List (Option Blk)} {xs : List Value}, fromD1s true ds m1 = some (xs, m2) → Flat m1 → Flat m2
  | [], m1, m2, xs, h, hf => by simp [fromD1s] at h; rw [← h.2]; exact hf
  | d :: ds, m1, m2, xs, h, hf => by
    simp only [fromD1s] at h
    split at h
    · rename_i x m3 h1
      split at h
      · rename_i ys m4 h2
        cases h
        exact fromD1s_flat h2 (fromD1_flat h1 hf).1
      · cases h
    · cases h

theorem fromD_flat {m1 m2 : List (Option Blk)} {d : D} {x : Value} (h : fromD true m1 d = some (x, m2)) (hf : Flat m1) : Flat m2 := by
  unfold fromD at h
  split at h
  · split at h
    · rename_i h1
      cases h
      exact fromD1s_flat h1 hf
    · cases h
  · exact (fromD1_flat h hf).1

theorem fromDs_flat : ∀ {ds : List D} {m1 m2 : List (Option Blk)} {xs : List Value}, fromDs true ds m1 = some (xs, m2) → Flat m1 → Flat m2
  | [], m1, m2, xs, h, hf => by simp [fromDs] at h; rw [← h.2]; exact hf
  | d :: ds, m1, m2, xs, h, hf => by
    simp only [fromDs] at h
    split at h
    · rename_i x m3 h1
      split at h
      · rename_i ys m4 h2
        cases h
        exact fromDs_flat h2 (fromD_flat h1 hf)
      · cases h
    · cases h

/-! ### The caller's memory, and what came out of the call behind it -/

theorem get_app {α : Type} {l m : List α} {i : Nat} {x : α} (h : (l ++ m)[i]? = some x) : (i < l.length ∧ l[i]? = some x) ∨ (l.length ≤ i ∧ m[i - l.length]? = some x) := by
  rw [List.getElem?_append] at h
  split at h
  · exact .inl ⟨by assumption, h⟩
  · exact .inr ⟨by omega, h⟩

def Map.join (ρ : Map) (n : Nat) (ρ' : Map) : Map := fun id => if id < n then ρ id else ρ' (id - n)

theorem MemR.join (h : MemR mem ρ B w) (hb : Below w.heap.size w w') (hB : B ≤ w.heap.size) (h' : MemR mem' ρ' w.heap.size w') (hf : Flat mem') : MemR (mem ++ mem') (Map.join ρ mem.length ρ') B w' := by
  have hown : ∀ (i b : Nat), Owned (mem ++ mem') (Map.join ρ mem.length ρ') i b → (i < mem.length ∧ Owned mem ρ i b ∧ b < w.heap.size) ∨ (mem.length ≤ i ∧ Owned mem' ρ' (i - mem.length) b ∧ w.heap.size ≤ b) := by
    intro i b ⟨M, blk, g1, g3, g4, g2⟩
    rcases get_app g3 with ⟨g5, g6⟩ | ⟨g5, g6⟩
    · simp only [Map.join, g5, if_true] at g1
      have : Owned mem ρ i b := ⟨M, blk, g1, g6, g4, g2⟩
      exact .inl ⟨g5, this, own_lt h this⟩
    · have hne : ¬ i < mem.length := by omega
      simp only [Map.join, hne, if_false] at g1
      refine .inr ⟨g5, ⟨M, blk, g1, g6, g4, g2⟩, ?_⟩
      obtain ⟨L, hL, hr⟩ := h'.blk _ _ g6
      rw [g1] at hL
      cases hL
      exact (hf _ _ g6).fresh hr b g2
  have hok : ∀ b, okB mem ρ w b → okB (mem ++ mem') (Map.join ρ mem.length ρ') w' b ∧ w'.heap[b]? = w.heap[b]? := by
    intro b hb'
    refine ⟨⟨Nat.lt_of_lt_of_le hb'.1 hb.size, fun i hM => ?_⟩, hb.block b hb'.1⟩
    rcases hown i b hM with ⟨_, g1, _⟩ | ⟨_, _, g1⟩
    · exact hb'.2 i g1
    · have := hb'.1; omega
  refine h.step (by simp) (fun i hi => .inl (by simp [Map.join, hi])) hok (fun i b hi => ?_) (fun i hi => ?_) (fun i j b hi hj => ?_)
  · rcases get_app hi with ⟨g5, g6⟩ | ⟨g5, g6⟩
    · refine .inl ⟨g6, by simp [Map.join, g5], fun M hM ho c hc => hb.block _ (own_lt h ⟨M, b, hM, g6, ho, hc⟩), fun p e j ks r _ kps rp hh Lp q1 q2 => ?_⟩
      have hp : p < mem.length := (List.getElem?_eq_some_iff.1 q1).1
      exact ⟨by rw [List.getElem?_append_left hp]; exact q1, by simp [Map.join, hp, q2], fun ht => hb.block _ (own_lt h ⟨Lp, _, q2, q1, rfl, .inl ⟨ht, rfl⟩⟩)⟩
    · obtain ⟨L, hL, hr⟩ := h'.blk _ _ g6
      have hne : ¬ i < mem.length := by omega
      exact .inr ⟨L, by simp [Map.join, hne, hL], (hf _ _ g6).free ((hf _ _ g6).base hB hr)⟩
  · by_cases hlt : i < mem.length
    · simp only [Map.join, hlt, if_true]
      exact h.dead i fun b hb' => hi b (by rw [List.getElem?_append_left hlt]; exact hb')
    · simp only [Map.join, hlt, if_false]
      exact h'.dead _ fun b hb' => hi b (by rw [List.getElem?_append_right (by omega)]; exact hb')
  · rcases hown i b hi with ⟨p1, p2, p3⟩ | ⟨p1, p2, p3⟩ <;> rcases hown j b hj with ⟨q1, q2, q3⟩ | ⟨q1, q2, q3⟩
    · exact h.inj i j b p2 q2
    · omega
    · omega
    · have := h'.inj _ _ b p2 q2
      omega

/-- The same data, behind another memory. -/
structure Shift (ρ' ρ2 : Map) (n k : Nat) : Prop where
  map : ∀ id, ρ2 (id + k) = ρ' id

theorem shift1 {N k : Nat} {ρ2 : Map} (hρ : ∀ id, ρ2 (id + k) = ρ' id) {d : D} {m1 m2 : List (Option Blk)} {x : Value} (h : fromD1 true m1 d = some (x, m2)) (hk : mem.length = k) :
    ∃ y, fromD1 true (mem ++ m1) d = some (y, mem ++ m2) ∧ ∀ N2 c, N + k ≤ N2 → V ρ' N x c → V ρ2 N2 y c := by
  unfold fromD1 at h
  split at h
  · split at h
    · rename_i x' ha
      cases h
      refine ⟨x, by simp only [fromD1, ha], fun N2 c _ hv => ?_⟩
      have : c = x := hv.atom1_eq ha
      subst this
      exact V.refl1 ha
    · cases h
  · rename_i ks r
    cases h
    refine ⟨.slice (some ⟨(mem ++ m1).length, 0, some 0⟩) r.n 0, by simp only [fromD1, List.append_assoc], fun N2 c hN hv => ?_⟩
    rw [List.length_append, hk, Nat.add_comm k]
    cases hv with
    | sliceDead h1 h2 => exact .sliceDead (by omega) (by rw [hρ]; exact h2)
    | slice h1 h2 h3 h4 h5 h6 => exact .slice (by omega) (by rw [hρ]; exact h2) h3 h4 h5 h6
  · cases h
  · cases h
  · cases h
    refine ⟨errV _, rfl, fun N2 c _ hv => ?_⟩
    cases hv with
    | iface h1 h2 => exact .iface h1 h2

theorem shift1s {N k : Nat} {ρ2 : Map} (hρ : ∀ id, ρ2 (id + k) = ρ' id) (hk : mem.length = k) : ∀ {ds : List D} {m1 m2 : List (Option Blk)} {xs : List Value}, fromD1s true ds m1 = some (xs, m2) →
    ∃ ys, fromD1s true ds (mem ++ m1) = some (ys, mem ++ m2) ∧ ∀ N2 cs, N + k ≤ N2 → Vs ρ' N xs cs → Vs ρ2 N2 ys cs
  | [], m1, m2, xs, h => by
    simp [fromD1s] at h
    obtain ⟨rfl, rfl⟩ := h
    exact ⟨[], rfl, fun N2 cs _ hv => by rw [hv.nil_inv]; exact .nil⟩
  | d :: ds, m1, m2, xs, h => by
    simp only [fromD1s] at h
    split at h
    · rename_i x m3 h1
      split at h
      · rename_i ys m4 h2
        cases h
        obtain ⟨y, k1, k2⟩ := shift1 (N := N) hρ h1 hk
        obtain ⟨zs, l1, l2⟩ := shift1s (N := N) hρ hk h2
        refine ⟨y :: zs, by simp [fromD1s, k1, l1], fun N2 cs hN hv => ?_⟩
        obtain ⟨c, cs', rfl, g1, g2⟩ := hv.inv
        exact .cons (k2 N2 c hN g1) (l2 N2 cs' hN g2)
      · cases h
    · cases h

theorem shiftD {N k : Nat} {ρ2 : Map} (hρ : ∀ id, ρ2 (id + k) = ρ' id) {d : D} {m1 m2 : List (Option Blk)} {x : Value} (h : fromD true m1 d = some (x, m2)) (hk : mem.length = k) :
    ∃ y, fromD true (mem ++ m1) d = some (y, mem ++ m2) ∧ ∀ N2 c, N + k ≤ N2 → V ρ' N x c → V ρ2 N2 y c := by
  unfold fromD at h ⊢
  split at h
  · rename_i ds
    split at h
    · rename_i xs m3 h1
      cases h
      obtain ⟨ys, k1, k2⟩ := shift1s (N := N) hρ hk h1
      refine ⟨.agg ⟨ys⟩, by simp [k1], fun N2 c hN hv => ?_⟩
      cases hv with
      | @agg _ cs g1 g2 =>
        have := k2 N2 cs.toList hN ⟨by simpa using g1, fun i x c hx hc => g2 i x c (by simpa using hx) (by simpa using hc)⟩
        exact this.agg
    · cases h
  · obtain ⟨y, k1, k2⟩ := shift1 (N := N) hρ h hk
    refine ⟨y, ?_, k2⟩
    rw [← k1]

theorem shiftDs {N k : Nat} {ρ2 : Map} (hρ : ∀ id, ρ2 (id + k) = ρ' id) (hk : mem.length = k) : ∀ {ds : List D} {m1 m2 : List (Option Blk)} {xs : List Value}, fromDs true ds m1 = some (xs, m2) →
    ∃ ys, fromDs true ds (mem ++ m1) = some (ys, mem ++ m2) ∧ ys.length = xs.length ∧ ∀ N2 cs, N + k ≤ N2 → Vs ρ' N xs cs → Vs ρ2 N2 ys cs
  | [], m1, m2, xs, h => by
    simp [fromDs] at h
    obtain ⟨rfl, rfl⟩ := h
    exact ⟨[], rfl, rfl, fun N2 cs _ hv => by rw [hv.nil_inv]; exact .nil⟩
  | d :: ds, m1, m2, xs, h => by
    simp only [fromDs] at h
    split at h
    · rename_i x m3 h1
      split at h
      · rename_i ys m4 h2
        cases h
        obtain ⟨y, k1, k2⟩ := shiftD (N := N) hρ h1 hk
        obtain ⟨zs, l1, l0, l2⟩ := shiftDs (N := N) hρ hk h2
        refine ⟨y :: zs, by simp [fromDs, k1, l1], by simp [l0], fun N2 cs hN hv => ?_⟩
        obtain ⟨c, cs', rfl, g1, g2⟩ := hv.inv
        exact .cons (k2 N2 c hN g1) (l2 N2 cs' hN g2)
      · cases h
    · cases h

theorem tupV_V {N : Nat} {xs : List Value} {c : Value} (h : V ρ N (tupV xs) c) : ∃ cs, c = tupV cs ∧ Vs ρ N xs cs := by
  match xs, h with
  | [x], h => exact ⟨[c], rfl, .cons h .nil⟩
  | [], h =>
    cases h with
    | @tuple _ ys h1 h2 =>
      refine ⟨ys.toList, ?_, by simpa using h1, fun i x c hx hc => by simp at hx⟩
      have : ys.toList = [] := by simpa using h1.symm
      rw [this]
      have : ys = #[] := by simpa using this
      rw [this]; rfl
  | x :: y :: xs, h =>
    cases h with
    | @tuple _ ys h1 h2 =>
      refine ⟨ys.toList, ?_, by simpa using h1, fun i x c hx hc => h2 i x c (by simpa using hx) (by simpa using hc)⟩
      obtain ⟨l⟩ := ys
      match l, h1 with
      | a :: b :: l, _ => rfl

theorem Vs.tupV {N : Nat} {xs cs : List Value} (h : Vs ρ N xs cs) : V ρ N (tupV xs) (tupV cs) := by
  match xs, cs, h with
  | [x], cs, h =>
    obtain ⟨c, cs', rfl, h1, h2⟩ := h.inv
    rw [h2.nil_inv]
    exact h1
  | [], cs, h => rw [h.nil_inv]; exact .tuple rfl fun i x c hx => by simp at hx
  | x :: y :: xs, cs, h =>
    obtain ⟨c, cs', rfl, h1, h2⟩ := h.inv
    obtain ⟨c2, cs2, rfl, h3, h4⟩ := h2.inv
    exact (Vs.cons h1 (Vs.cons h3 h4)).tuple

/-- A call by contract: what it gives, in the caller's memory. -/
theorem import_sound (h : MemR mem ρ B w) (hb : Below w.heap.size w w') (hB : B ≤ w.heap.size) {rs : List D} {us : List Value} {cv : Value} (hf : fromDs true rs [] = some (us, mem')) (h' : MemR mem' ρ' w.heap.size w') (hv : V ρ' mem'.length (tupV us) cv) :
    ∃ us2 ρ2, fromDs true rs mem = some (us2, mem ++ mem') ∧ MemR (mem ++ mem') ρ2 B w' ∧ (∀ id, id < mem.length → ρ2 id = ρ id) ∧ V ρ2 (mem ++ mem').length (tupV us2) cv := by
  have hfl : Flat mem' := fromDs_flat hf (fun id b h => by simp at h)
  obtain ⟨ys, k1, k0, k2⟩ := shiftDs (N := mem'.length) (k := mem.length) (mem := mem) (ρ' := ρ') (ρ2 := Map.join ρ mem.length ρ') (fun id => by simp [Map.join]; omega) rfl hf
  rw [List.append_nil] at k1
  obtain ⟨cs, rfl, g1⟩ := tupV_V hv
  exact ⟨ys, Map.join ρ mem.length ρ', k1, h.join hb hB h' hfl, fun id hid => by simp [Map.join, hid], (k2 _ _ (by simp; omega) g1).tupV⟩
end
end Go.Ev

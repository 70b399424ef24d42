/- What a function hands back is made of its own rows. No conditions. -/
import Derived.Test.YtlfeobdfgmlmpaaGreatDoorEvN
namespace Go.Ev
open Go.RowKit
section
variable {P : Program} {mem mem' : List (Option Blk)} {ρ ρ' : Map} {B : Nat} {w w' : World}

theorem MemR.snocFlat (h : MemR mem ρ B w) (hf : Flat mem) {blk : Blk} {L : Loc} (hdis : ∀ (j b : Nat), Owned mem ρ j b → ¬ L.foot b) (hr : ∀ (m : List (Option Blk)) (ρ : Map), BlkR m ρ w B L blk) :
    MemR (mem ++ [some blk]) (Map.snoc ρ mem.length L) B w := by
  have hown : ∀ (i b : Nat), Owned (mem ++ [some blk]) (Map.snoc ρ mem.length L) i b → (i < mem.length ∧ Owned mem ρ i b) ∨ (i = mem.length ∧ L.foot b) := by
    intro i b ⟨M, c, g1, g3, g4, g2⟩
    rcases get_snoc g3 with ⟨g5, g6⟩ | ⟨g5, _⟩
    · rw [Map.snoc_old g6] at g1
      exact .inl ⟨g6, M, c, g1, g5, g4, g2⟩
    · subst g5
      rw [Map.snoc_new] at g1
      cases g1
      exact .inr ⟨rfl, g2⟩
  refine ⟨fun i b hi => ?_, fun i hi => ?_, fun i j b hi hj => ?_⟩
  · rcases get_snoc hi with ⟨g5, g6⟩ | ⟨g5, g6⟩
    · obtain ⟨M, hM, hr⟩ := h.blk i b g5
      exact ⟨M, (Map.snoc_old g6).trans hM, (hf i b g5).free hr⟩
    · cases g6
      subst g5
      exact ⟨L, Map.snoc_new, hr _ _⟩
  · have hne : i ≠ mem.length := by
      rintro rfl
      exact hi blk (by simp)
    have : Map.snoc ρ mem.length L i = ρ i := by simp [Map.snoc, hne]
    rw [this]
    refine h.dead i fun b hb' => hi b ?_
    rw [List.getElem?_append_left (List.getElem?_eq_some_iff.1 hb').1]
    exact hb'
  · rcases hown i b hi with ⟨p1, p2⟩ | ⟨p1, p2⟩ <;> rcases hown j b hj with ⟨q1, q2⟩ | ⟨q1, q2⟩
    · exact h.inj i j b p2 q2
    · exact absurd q2 (hdis i b p2)
    · exact absurd p2 (hdis j b q2)
    · omega

def Apart (mem : List (Option Blk)) (ρ : Map) (m1 : List (Option Blk)) (ρ1 : Map) : Prop := ∀ (i j b : Nat), Owned mem ρ i b → ¬ Owned m1 ρ1 j b

/-- A nil slice, handed over. -/
theorem outB_nil (ks : List CK) (m : List (Option Blk)) (ρ : Map) : BlkR m ρ w B ⟨0, 0, ks.length, 0, 0, true, s0⟩ (outB ks .nil) := by
  unfold outB
  split
  · exact ⟨rfl, rfl, fun _ => ⟨rfl, Nat.le_refl _, fun h => by simp at h⟩, fun h => by simp [Row.n] at h, rfl⟩
  · exact ⟨rfl, rfl, rfl, Nat.le_refl _, fun h => by simp at h, fun e j k he => by simp [Row.n] at he, fun e j b h => by simp at h, fun e j e' j' b h => by simp at h⟩

theorem resD1_sound (hm : MemR mem ρ B w) {x c : Value} {ck : CK} {d : D} {mem1 : List (Option Blk)} (h : resD1 ck mem x = some (d, mem1)) (hx : V ρ mem.length x c) {m1 : List (Option Blk)} {ρ1 : Map} (hm1 : MemR m1 ρ1 B w) (hf : Flat m1) (hdis : Apart mem ρ m1 ρ1) :
    ∃ ρ', (∀ i, Less ρ ρ' i) ∧ MemR mem1 ρ' B w ∧ mem1.length = mem.length ∧ ∃ v m2 ρ2, fromD1 true m1 d = some (v, m2) ∧ MemR m2 ρ2 B w ∧ Flat m2 ∧ m1.length ≤ m2.length ∧ (∀ id, id < m1.length → ρ2 id = ρ1 id) ∧ V ρ2 m2.length v c ∧ Apart mem1 ρ' m2 ρ2 := by
  -- a block that is handed over
  have main : ∀ {id e len : Nat} {blk : Blk} {ks : List CK} {r : Row} {L : Loc} (_ : mem[id]? = some (some blk)) (_ : ρ id = some L) (_ : blk.own = true) (_ : L.own = true) (_ : L.n = r.n) (sub' : Nat → Nat → Option Nat)
      (_ : ∀ e' j b, sub' e' j = some b → L.foot b) (_ : ∀ (m : List (Option Blk)) (ρ : Map), e + len ≤ L.n → e ≤ L.tot → BlkR m ρ w B ⟨L.b, L.off + e * L.sz, L.sz, L.tot - e, len, true, sub'⟩ (outB ks (winOf r e len)))
      (_ : V ρ mem.length (.slice (some ⟨id, e, some 0⟩) len 0) c) {mem1 : List (Option Blk)} (_ : ∃ ρ', (∀ i, Less ρ ρ' i) ∧ MemR mem1 ρ' B w ∧ ∀ (i b : Nat), Owned mem1 ρ' i b → i ≠ id ∧ Owned mem ρ i b) (_ : mem1.length = mem.length),
      ∃ ρ', (∀ i, Less ρ ρ' i) ∧ MemR mem1 ρ' B w ∧ mem1.length = mem.length ∧ ∃ v m2 ρ2, fromD1 true m1 (.slice ks (winOf r e len)) = some (v, m2) ∧ MemR m2 ρ2 B w ∧ Flat m2 ∧ m1.length ≤ m2.length ∧ (∀ id, id < m1.length → ρ2 id = ρ1 id) ∧ V ρ2 m2.length v c ∧ Apart mem1 ρ' m2 ρ2 := by
    intro id e len blk ks r L hb hL ho hLo hn sub' hsub hr hx mem1 hk hlen
    obtain ⟨ρ', k1, k2, k4⟩ := hk
    cases hx with
    | sliceDead g1 g2 => exact absurd g2 (live_of hm hb)
    | @slice _ _ _ M a cap g1 g2 g3 g4 g5 g6 =>
      rw [hL] at g2
      cases g2
      obtain ⟨g7, g8⟩ := g6 hLo
      let L' : Loc := ⟨L.b, L.off + e * L.sz, L.sz, L.tot - e, len, true, sub'⟩
      have hO : ∀ b, L'.foot b → Owned mem ρ id b := by
        intro b hb'
        refine ⟨L, blk, hL, hb, ho, ?_⟩
        rcases hb' with ⟨h1, h2⟩ | ⟨e', j, h1⟩
        · exact .inl ⟨by simp only [L'] at h1; omega, h2⟩
        · exact hsub e' j b h1
      have hsn : MemR (m1 ++ [some (outB ks (winOf r e len))]) (Map.snoc ρ1 m1.length L') B w := hm1.snocFlat hf (fun j b hj hb' => hdis id j b (hO b hb') hj) fun m ρ => hr m ρ g3 (by omega)
      refine ⟨ρ', k1, k2, hlen, _, _, Map.snoc ρ1 m1.length L', rfl, hsn, hf.snoc (outB_flat _ _), by simp, fun id hid => Map.snoc_old hid, ?_, fun i j b hi ⟨M, blk', q1, q3, q4, q2⟩ => ?_⟩
      · rw [winOf_n]
        refine .slice (L := L') (by simp) Map.snoc_new (by simp [L']) g4 (fun h0 => ?_) (fun _ => ⟨by simp only [L', Nat.zero_add]; omega, ?_⟩)
        · rw [g5 h0]; simp [Loc.adr, L']
        · rcases g8 with g8 | g8
          · exact .inl g8
          · right; rw [g8]; simp [Loc.adr, L']
      · obtain ⟨k5, k6⟩ := k4 i b hi
        rcases get_snoc q3 with ⟨q5, q6⟩ | ⟨q5, _⟩
        · rw [Map.snoc_old q6] at q1
          exact hdis i j b k6 ⟨M, blk', q1, q5, q4, q2⟩
        · subst q5
          rw [Map.snoc_new] at q1
          cases q1
          exact k5 (hm.inj i id b k6 (hO b q2))
  unfold resD1 at h
  split at h
  · cases h
    cases hx
    have hsn : MemR (m1 ++ [some (outB (rsubOf ck) .nil)]) (Map.snoc ρ1 m1.length ⟨0, 0, (rsubOf ck).length, 0, 0, true, s0⟩) B w := hm1.snocFlat hf (fun _ _ _ hb => by have := (Loc.foot_s0 rfl hb).1; simp at this) fun m ρ => outB_nil _ m ρ
    refine ⟨ρ, Less.refl ρ, hm, rfl, _, _, Map.snoc ρ1 m1.length ⟨0, 0, (rsubOf ck).length, 0, 0, true, s0⟩, rfl, hsn, hf.snoc (outB_flat _ _), by simp, fun id hid => Map.snoc_old hid, ?_, fun i j b hi ⟨M, blk', g1, g3, g4, g2⟩ => ?_⟩
    · exact .slice (L := ⟨0, 0, (rsubOf ck).length, 0, 0, true, s0⟩) (by simp) Map.snoc_new (by simp [Row.n]) (Nat.le_refl _) (fun h => by simp [Row.n] at h) (fun _ => ⟨by simp, .inl rfl⟩)
    · rcases get_snoc g3 with ⟨g5, g6⟩ | ⟨g5, _⟩
      · rw [Map.snoc_old g6] at g1
        exact hdis i j b hi ⟨M, blk', g1, g5, g4, g2⟩
      · subst g5
        rw [Map.snoc_new] at g1
        cases g1
        have := (Loc.foot_s0 rfl g2).1
        simp at this
  · rename_i id e len
    split at h
    · rename_i ks r hb
      split at h
      · rename_i hfl
        cases h
        obtain ⟨L, hL, hbr⟩ := hm.blk _ _ hb
        obtain ⟨ρ', k1, k2, _, k4⟩ := hm.kill (id := id) (fun _ _ _ h => by rw [hb] at h; cases h)
        obtain ⟨b1, b2, b3, b4, b0⟩ := hbr
        obtain ⟨b5, b6, b7⟩ := b3 rfl
        refine main hb hL rfl b5 b1 s0 (fun _ _ _ h => by cases h) (fun m ρ' hel het => ?_) hx ⟨ρ', k1, k2, k4⟩ (by simp)
        have hout : outB ks (winOf r e len) = .row ks true (winOf r e len) := by unfold outB; rw [hfl]
        rw [hout]
        refine ⟨winOf_n.symm, b2, fun _ => ⟨rfl, by rw [winOf_n]; simp only; omega, fun ht => ?_⟩, fun hn => ⟨(fun hf => by cases hf), ?_⟩, rfl⟩
        · obtain ⟨b8, c, T, b9, b10⟩ := b7 (by simp only at ht; omega)
          refine ⟨b8, c, T, b9, ?_⟩
          simp only
          have : e * L.sz + (L.tot - e) * L.sz = L.tot * L.sz := by rw [← Nat.add_mul]; congr 1; omega
          omega
        · rw [winOf_n] at hn
          have := ((b4 (by omega)).2).winOf (e0 := e) (n := len) (by omega)
          rw [← b2] at this
          exact this.plain hfl
      · cases h
    · rename_i ks r hb
      split at h
      · cases h
      · rename_i hfl
        cases h
        obtain ⟨L, hL, hbr⟩ := hm.blk _ _ hb
        obtain ⟨ρ', k1, k2, _, k4⟩ := hm.killD (id := id)
        obtain ⟨b1, b2, b3, b4, b5, b6, b7, b8⟩ := hbr
        refine main hb hL rfl b3 b1 (fun e' j => if e' < len then L.sub (e + e') j else none) (fun e' j b h => ?_) (fun m ρ' hel het => ?_) hx ⟨ρ', k1, k2, k4⟩ (by simp [dropB])
        · split at h
          · exact .inr ⟨_, _, h⟩
          · cases h
        have hout : outB ks (winOf r e len) = .deep ks (winOf r e len) none := by unfold outB; rw [hfl]
        rw [hout]
        refine ⟨winOf_n.symm, b2, rfl, by rw [winOf_n]; simp only; omega, fun ht => ?_, fun e' j k he hk => ?_, fun e' j b h => ?_, fun e' j e2 j2 b h1 h2 => ?_⟩
        · obtain ⟨b9, c, T, b10, b11⟩ := b5 (by simp only at ht; omega)
          refine ⟨b9, c, T, b10, ?_⟩
          simp only
          have : e * L.sz + (L.tot - e) * L.sz = L.tot * L.sz := by rw [← Nat.add_mul]; congr 1; omega
          omega
        · rw [winOf_n] at he
          obtain ⟨v, g1, g2⟩ := b6 (e + e') j k (by omega) hk
          refine ⟨v, ?_, ?_⟩
          · rw [show (⟨L.b, L.off + e * L.sz, L.sz, L.tot - e, len, true, fun e' j => if e' < len then L.sub (e + e') j else none⟩ : Loc).off + e' * ks.length + j = L.off + (e + e') * ks.length + j by simp only [b2, Nat.add_mul]; omega]
            exact g1
          · simp only [he, if_true]
            cases k with
            | slice sub =>
              obtain ⟨g3, g4, g5⟩ := g2
              refine ⟨g3, g4, fun hh => ?_⟩
              have hR : (winOf r e len).R e' j = r.R (e + e') j := by
                cases e with
                | zero => rw [Nat.zero_add]; rfl
                | succ e => rfl
              rw [hR]
              exact g5 rfl
            | int k => exact CellR.winOf g2
            | bool => exact CellR.winOf g2
            | str => exact CellR.winOf g2
            | other => exact CellR.winOf g2
        · simp only at h
          split at h
          · obtain ⟨q1, q2, _, q4⟩ := b7 _ _ _ h
            exact ⟨by rw [winOf_n]; assumption, q2, rfl, q4⟩
          · cases h
        · simp only at h1 h2
          split at h1
          · split at h2
            · obtain ⟨q1, q2⟩ := b8 _ _ _ _ _ h1 h2
              exact ⟨by omega, q2⟩
            · cases h2
          · cases h1
    · cases h
  · cases h
    cases hx with
    | iface h1 h2 => exact ⟨ρ, Less.refl ρ, hm, rfl, errV _, m1, ρ1, rfl, hm1, hf, Nat.le_refl _, fun _ _ => rfl, .iface h1 h2, hdis⟩
  · split at h
    · rename_i ha
      cases h
      have : c = x := hx.atom1_eq ha
      subst this
      exact ⟨ρ, Less.refl ρ, hm, rfl, c, m1, ρ1, by simp [fromD1, ha], hm1, hf, Nat.le_refl _, fun _ _ => rfl, V.refl1 ha, hdis⟩
    · cases h

theorem resD1s_sound : ∀ (xs : List Value) (cks : List CK) (mem mem1 : List (Option Blk)) (ρ : Map) (ds : List D) (cs : List Value), resD1s mem cks xs = some (ds, mem1) → MemR mem ρ B w → Vs ρ mem.length xs cs → ∀ (m1 : List (Option Blk)) (ρ1 : Map), MemR m1 ρ1 B w → Flat m1 → Apart mem ρ m1 ρ1 →
    ∃ ρ', (∀ i, Less ρ ρ' i) ∧ MemR mem1 ρ' B w ∧ mem1.length = mem.length ∧ ∃ vs m2 ρ2, fromD1s true ds m1 = some (vs, m2) ∧ MemR m2 ρ2 B w ∧ Flat m2 ∧ m1.length ≤ m2.length ∧ (∀ id, id < m1.length → ρ2 id = ρ1 id) ∧ Vs ρ2 m2.length vs cs ∧ Apart mem1 ρ' m2 ρ2
  | [], cks, mem, mem1, ρ, ds, cs, h, hm, hv, m1, ρ1, hm1, hf, hdis => by
    simp [resD1s] at h
    obtain ⟨rfl, rfl⟩ := h
    rw [hv.nil_inv]
    exact ⟨ρ, Less.refl ρ, hm, rfl, [], m1, ρ1, rfl, hm1, hf, Nat.le_refl _, fun _ _ => rfl, .nil, hdis⟩
  | x :: xs, cks, mem, mem1, ρ, ds, cs, h, hm, hv, m1, ρ1, hm1, hf, hdis => by
    obtain ⟨c, cs', rfl, hx, hxs⟩ := hv.inv
    simp only [resD1s] at h
    split at h
    · rename_i d mem2 hd
      split at h
      · rename_i ds' mem3 hds
        cases h
        obtain ⟨ρa, k1, k2, k3, v, m2, ρ2, l1, l2, l3, l4, l5, l6, l7⟩ := resD1_sound hm hd hx hm1 hf hdis
        obtain ⟨ρb, n1, n2, n3, vs, m3, ρ3, o1, o2, o3, o4, o5, o6, o7⟩ := resD1s_sound xs _ mem2 _ ρa ds' cs' hds k2 (by rw [k3]; exact hxs.mono (Nat.le_refl _) fun id _ => k1 id) m2 ρ2 l2 l3 l7
        exact ⟨ρb, fun i => (k1 i).trans (n1 i), n2, n3.trans k3, v :: vs, m3, ρ3, by simp [fromD1s, l1, o1], o2, o3, by omega, fun id hid => (o5 id (by omega)).trans (l5 id hid), .cons (l6.mono o4 fun id hid => .inl (o5 id hid)) o6, o7⟩
      · cases h
    · cases h

theorem resD_sound (hm : MemR mem ρ B w) {x c : Value} {cks : List CK} {d : D} {mem1 : List (Option Blk)} (h : resD cks mem x = some (d, mem1)) (hx : V ρ mem.length x c) {m1 : List (Option Blk)} {ρ1 : Map} (hm1 : MemR m1 ρ1 B w) (hf : Flat m1) (hdis : Apart mem ρ m1 ρ1) :
    ∃ ρ', (∀ i, Less ρ ρ' i) ∧ MemR mem1 ρ' B w ∧ mem1.length = mem.length ∧ ∃ v m2 ρ2, fromD true m1 d = some (v, m2) ∧ MemR m2 ρ2 B w ∧ Flat m2 ∧ m1.length ≤ m2.length ∧ (∀ id, id < m1.length → ρ2 id = ρ1 id) ∧ V ρ2 m2.length v c ∧ Apart mem1 ρ' m2 ρ2 := by
  unfold resD at h
  split at h
  · rename_i cs0
    split at h
    · rename_i ds mem2 hds
      cases h
      cases hx with
      | @agg _ ys h1 h2 =>
        obtain ⟨ρ', k1, k2, k3, vs, m2, ρ2, l1, l2, l3, l4, l5, l6, l7⟩ := resD1s_sound cs0.toList _ mem _ ρ ds ys.toList hds hm ⟨by simpa using h1, fun i x c hx hc => h2 i x c (by simpa using hx) (by simpa using hc)⟩ m1 ρ1 hm1 hf hdis
        exact ⟨ρ', k1, k2, k3, .agg ⟨vs⟩, m2, ρ2, by simp [fromD, l1], l2, l3, l4, l5, l6.agg, l7⟩
    · cases h
  · obtain ⟨ρ', k1, k2, k3, v, m2, ρ2, l1, l2⟩ := resD1_sound hm h hx hm1 hf hdis
    refine ⟨ρ', k1, k2, k3, v, m2, ρ2, ?_, l2⟩
    rw [← l1]
    unfold resD1 at h
    split at h
    · cases h; rfl
    · split at h
      · split at h
        · cases h; rfl
        · cases h
      · split at h
        · cases h
        · cases h; rfl
      · cases h
    · cases h; rfl
    · split at h
      · cases h; rfl
      · cases h

theorem resDs_sound : ∀ (xs : List Value) (ckss : List (List CK)) (mem : List (Option Blk)) (ρ : Map) (ds : List D) (cs : List Value), resDs mem ckss xs = some ds → MemR mem ρ B w → Vs ρ mem.length xs cs → ∀ (m1 : List (Option Blk)) (ρ1 : Map), MemR m1 ρ1 B w → Flat m1 → Apart mem ρ m1 ρ1 →
    ∃ vs m2 ρ2, fromDs true ds m1 = some (vs, m2) ∧ MemR m2 ρ2 B w ∧ m1.length ≤ m2.length ∧ (∀ id, id < m1.length → ρ2 id = ρ1 id) ∧ Vs ρ2 m2.length vs cs
  | [], ckss, mem, ρ, ds, cs, h, hm, hv, m1, ρ1, hm1, hf, hdis => by
    simp [resDs] at h
    subst h
    rw [hv.nil_inv]
    exact ⟨[], m1, ρ1, rfl, hm1, Nat.le_refl _, fun _ _ => rfl, .nil⟩
  | x :: xs, ckss, mem, ρ, ds, cs, h, hm, hv, m1, ρ1, hm1, hf, hdis => by
    obtain ⟨c, cs', rfl, hx, hxs⟩ := hv.inv
    simp only [resDs] at h
    split at h
    · rename_i d mem2 hd
      split at h
      · rename_i ds' hds
        cases h
        obtain ⟨ρa, k1, k2, k3, v, m2, ρ2, l1, l2, l3, l4, l5, l6, l7⟩ := resD_sound hm hd hx hm1 hf hdis
        obtain ⟨vs, m3, ρ3, o1, o2, o4, o5, o6⟩ := resDs_sound xs _ mem2 ρa ds' cs' hds k2 (by rw [k3]; exact hxs.mono (Nat.le_refl _) fun id _ => k1 id) m2 ρ2 l2 l3 l7
        exact ⟨v :: vs, m3, ρ3, by simp [fromDs, l1, o1], o2, by omega, fun id hid => (o5 id (by omega)).trans (l5 id hid), .cons (l6.mono o4 fun id hid => .inl (o5 id hid)) o6⟩
      · cases h
    · cases h
end
end Go.Ev

/- What a function hands back is made of its own rows. No conditions. -/
import Derived.Test.YtofkkhdmjllcfaaDoorEvN
namespace Go.Ev
open Go.RowKit
section
variable {P : Program} {mem mem' : List (Option Blk)} {ρ ρ' : Map} {B : Nat} {w w' : World}

theorem MemR.snocFlat (h : MemR mem ρ B w) (hf : Flat mem) {ks : List CK} {r : Row} {L : Loc} (hfl : flat ks = true) (hdis : ∀ (j : Nat) (M : Loc), Owned mem ρ j M → 0 < L.tot → L.b ≠ M.b) (h1 : L.n = r.n) (h2 : L.sz = ks.length) (h3 : L.own = true) (h4 : r.n ≤ L.tot)
    (h5 : 0 < L.tot → B ≤ L.b ∧ ∃ (c : Array Value) (T : TypeId), w.heap[L.b]? = some (.cells c T (0, 0)) ∧ L.off + L.tot * L.sz ≤ c.size) {ok : Nat → Prop} (h6 : 0 < r.n → Rds ok w ks r L.b L.off) :
    MemR (mem ++ [some (.row ks true r)]) (Map.snoc ρ mem.length L) B w := by
  have hown : ∀ (i : Nat) (M : Loc), Owned (mem ++ [some (.row ks true r)]) (Map.snoc ρ mem.length L) i M → (i < mem.length ∧ Owned mem ρ i M) ∨ (i = mem.length ∧ M = L ∧ 0 < L.tot) := by
    intro i M ⟨g1, g2, b, g3, g4⟩
    rcases get_snoc g3 with ⟨g5, g6⟩ | ⟨g5, _⟩
    · rw [Map.snoc_old g6] at g1
      exact .inl ⟨g6, g1, g2, b, g5, g4⟩
    · subst g5
      rw [Map.snoc_new] at g1
      cases g1
      exact .inr ⟨rfl, rfl, g2⟩
  refine ⟨fun i b hi => ?_, fun i hi => ?_, fun i j M K hi hj hMK => ?_⟩
  · rcases get_snoc hi with ⟨g5, g6⟩ | ⟨g5, g6⟩
    · obtain ⟨M, hM, hr⟩ := h.blk i b g5
      obtain ⟨ks', r', rfl, hf'⟩ := hf i b g5
      exact ⟨M, (Map.snoc_old g6).trans hM, hr.1, hr.2.1, hr.2.2.1, fun hn => ⟨(fun hf => by cases hf), ((hr.2.2.2 hn).2).flat hf' rfl⟩⟩
    · cases g6
      subst g5
      exact ⟨L, Map.snoc_new, h1, h2, fun _ => ⟨h3, h4, h5⟩, fun hn => ⟨(fun hf => by cases hf), (h6 hn).flat hfl rfl⟩⟩
  · have hne : i ≠ mem.length := by
      rintro rfl
      exact hi (.row ks true r) (by simp)
    have : Map.snoc ρ mem.length L i = ρ i := by simp [Map.snoc, hne]
    rw [this]
    refine h.dead i fun b hb' => hi b ?_
    rw [List.getElem?_append_left (List.getElem?_eq_some_iff.1 hb').1]
    exact hb'
  · rcases hown i M hi with ⟨p1, p2⟩ | ⟨p1, p2, p3⟩ <;> rcases hown j K hj with ⟨q1, q2⟩ | ⟨q1, q2, q3⟩
    · exact h.inj i j M K p2 q2 hMK
    · subst q2; exact absurd hMK.symm (hdis i M p2 q3)
    · subst p2; exact absurd hMK (hdis j K q2 p3)
    · omega

def Apart (mem : List (Option Blk)) (ρ : Map) (m1 : List (Option Blk)) (ρ1 : Map) : Prop := ∀ (i : Nat) (L : Loc) (j : Nat) (M : Loc), Owned mem ρ i L → Owned m1 ρ1 j M → L.b ≠ M.b

theorem flat_rsub (ck : CK) : flat (rsubOf ck) = true := by
  unfold rsubOf
  split
  · split
    · assumption
    · rfl
  · rfl

theorem resD1_sound (hm : MemR mem ρ B w) {x c : Value} {ck : CK} {d : D} {mem1 : List (Option Blk)} (h : resD1 ck mem x = some (d, mem1)) (hx : V ρ mem.length x c) {m1 : List (Option Blk)} {ρ1 : Map} (hm1 : MemR m1 ρ1 B w) (hf : Flat m1) (hdis : Apart mem ρ m1 ρ1) :
    ∃ ρ', (∀ i, Less ρ ρ' i) ∧ MemR mem1 ρ' B w ∧ mem1.length = mem.length ∧ ∃ v m2 ρ2, fromD1 true m1 d = some (v, m2) ∧ MemR m2 ρ2 B w ∧ Flat m2 ∧ m1.length ≤ m2.length ∧ (∀ id, id < m1.length → ρ2 id = ρ1 id) ∧ V ρ2 m2.length v c ∧ Apart mem1 ρ' m2 ρ2 := by
  unfold resD1 at h
  split at h
  · cases h
    cases hx
    have hsn : MemR (m1 ++ [some (.row (rsubOf ck) true .nil)]) (Map.snoc ρ1 m1.length ⟨0, 0, (rsubOf ck).length, 0, 0, true⟩) B w := hm1.snocFlat hf (ok := fun _ => True) (flat_rsub ck) (fun _ _ _ h => by simp at h) rfl rfl rfl (Nat.le_refl _) (fun h => by simp at h) (fun h => by simp [Row.n] at h)
    refine ⟨ρ, Less.refl ρ, hm, rfl, _, _, Map.snoc ρ1 m1.length ⟨0, 0, (rsubOf ck).length, 0, 0, true⟩, by simp only [fromD1, flat_rsub]; rfl, hsn, hf.snoc (flat_rsub ck), by simp, fun id hid => Map.snoc_old hid, ?_, fun i L j M hi ⟨g1, g2, b, g3, g4⟩ => ?_⟩
    · exact .slice (L := ⟨0, 0, (rsubOf ck).length, 0, 0, true⟩) (by simp) Map.snoc_new (by simp [Row.n]) (Nat.le_refl _) (fun h => by simp [Row.n] at h) (fun _ => ⟨by simp, .inl rfl⟩)
    · rcases get_snoc g3 with ⟨g5, g6⟩ | ⟨g5, _⟩
      · rw [Map.snoc_old g6] at g1
        exact hdis i L j M hi ⟨g1, g2, b, g5, g4⟩
      · subst g5
        rw [Map.snoc_new] at g1
        cases g1
        simp at g2
  · rename_i id e len
    split at h
    · rename_i ks r hb
      split at h
      · rename_i hfl
        cases h
        obtain ⟨L, hL, hbr⟩ := hm.blk _ _ hb
        obtain ⟨b1, b2, b3, b4⟩ := hbr
        obtain ⟨b5, b6, b7⟩ := b3 rfl
        cases hx with
        | sliceDead g1 g2 => exact absurd g2 (live_of hm hb)
        | @slice _ _ _ M a cap g1 g2 g3 g4 g5 g6 =>
          rw [hL] at g2
          cases g2
          obtain ⟨g7, g8⟩ := g6 b5
          obtain ⟨ρ', k1, k2, _, k4⟩ := hm.kill (id := id)
          let L' : Loc := ⟨L.b, L.off + e * L.sz, L.sz, L.tot - e, len, true⟩
          have hO : 0 < L'.tot → Owned mem ρ id L := fun ht => ⟨hL, by simp only [L'] at ht; omega, _, hb, rfl⟩
          have hsn : MemR (m1 ++ [some (.row ks true (winOf r e len))]) (Map.snoc ρ1 m1.length L') B w := by
            refine hm1.snocFlat hf (ok := okB mem ρ w) hfl (fun j M hj ht => hdis id L j M (hO ht) hj) winOf_n.symm b2 rfl (by rw [winOf_n]; simp only [L']; omega) (fun ht => ?_) (fun hn => ?_)
            · obtain ⟨b8, c, T, b9, b10⟩ := b7 (by simp only [L'] at ht; omega)
              refine ⟨b8, c, T, b9, ?_⟩
              simp only [L']
              have : e * L.sz + (L.tot - e) * L.sz = L.tot * L.sz := by rw [← Nat.add_mul]; congr 1; simp only [L'] at ht; omega
              omega
            · rw [winOf_n] at hn
              have := ((b4 (by omega)).2).winOf (e0 := e) (n := len) (by omega)
              rw [← b2] at this
              exact this
          refine ⟨ρ', k1, k2, by simp, _, _, Map.snoc ρ1 m1.length L', by simp only [fromD1, hfl]; rfl, hsn, hf.snoc hfl, by simp, fun id hid => Map.snoc_old hid, ?_, fun i K j M hi ⟨q1, q2, b, q3, q4⟩ => ?_⟩
          · rw [winOf_n]
            refine .slice (L := L') (by simp) Map.snoc_new (by simp [L']) g4 (fun h0 => ?_) (fun _ => ⟨by simp only [L', Nat.zero_add]; omega, ?_⟩)
            · rw [g5 h0]; simp [Loc.adr, L']
            · rcases g8 with g8 | g8
              · exact .inl g8
              · right; rw [g8]; simp [Loc.adr, L']
          · obtain ⟨k5, k6⟩ := k4 i K hi
            rcases get_snoc q3 with ⟨q5, q6⟩ | ⟨q5, _⟩
            · rw [Map.snoc_old q6] at q1
              exact hdis i K j M k6 ⟨q1, q2, b, q5, q4⟩
            · subst q5
              rw [Map.snoc_new] at q1
              cases q1
              intro hK
              exact k5 (hm.inj i id K L k6 (hO q2) hK)
      · cases h
    · cases h
  · cases h
    cases hx with
    | iface h1 h2 => exact ⟨ρ, Less.refl ρ, hm, rfl, errV _, m1, ρ1, rfl, hm1, hf, Nat.le_refl _, fun _ _ => rfl, .iface h1 h2, hdis⟩
  · split at h
    · rename_i ha
      cases h
      have : c = x := hx.atom1_eq ha
      subst this
      exact ⟨ρ, Less.refl ρ, hm, rfl, c, m1, ρ1, by simp [fromD1, ha], hm1, hf, Nat.le_refl _, fun _ _ => rfl, V.refl1 ha, hdis⟩
    · cases h

theorem resD1s_sound : ∀ (xs : List Value) (cks : List CK) (mem mem1 : List (Option Blk)) (ρ : Map) (ds : List D) (cs : List Value), resD1s mem cks xs = some (ds, mem1) → MemR mem ρ B w → Vs ρ mem.length xs cs → ∀ (m1 : List (Option Blk)) (ρ1 : Map), MemR m1 ρ1 B w → Flat m1 → Apart mem ρ m1 ρ1 →
    ∃ ρ', (∀ i, Less ρ ρ' i) ∧ MemR mem1 ρ' B w ∧ mem1.length = mem.length ∧ ∃ vs m2 ρ2, fromD1s true ds m1 = some (vs, m2) ∧ MemR m2 ρ2 B w ∧ Flat m2 ∧ m1.length ≤ m2.length ∧ (∀ id, id < m1.length → ρ2 id = ρ1 id) ∧ Vs ρ2 m2.length vs cs ∧ Apart mem1 ρ' m2 ρ2
  | [], cks, mem, mem1, ρ, ds, cs, h, hm, hv, m1, ρ1, hm1, hf, hdis => by
    simp [resD1s] at h
    obtain ⟨rfl, rfl⟩ := h
    rw [hv.nil_inv]
    exact ⟨ρ, Less.refl ρ, hm, rfl, [], m1, ρ1, rfl, hm1, hf, Nat.le_refl _, fun _ _ => rfl, .nil, hdis⟩
  | x :: xs, cks, mem, mem1, ρ, ds, cs, h, hm, hv, m1, ρ1, hm1, hf, hdis => by
    obtain ⟨c, cs', rfl, hx, hxs⟩ := hv.inv
    simp only [resD1s] at h
    split at h
    · rename_i d mem2 hd
      split at h
      · rename_i ds' mem3 hds
        cases h
        obtain ⟨ρa, k1, k2, k3, v, m2, ρ2, l1, l2, l3, l4, l5, l6, l7⟩ := resD1_sound hm hd hx hm1 hf hdis
        obtain ⟨ρb, n1, n2, n3, vs, m3, ρ3, o1, o2, o3, o4, o5, o6, o7⟩ := resD1s_sound xs _ mem2 _ ρa ds' cs' hds k2 (by rw [k3]; exact hxs.mono (Nat.le_refl _) fun id _ => k1 id) m2 ρ2 l2 l3 l7
        exact ⟨ρb, fun i => (k1 i).trans (n1 i), n2, n3.trans k3, v :: vs, m3, ρ3, by simp [fromD1s, l1, o1], o2, o3, by omega, fun id hid => (o5 id (by omega)).trans (l5 id hid), .cons (l6.mono o4 fun id hid => .inl (o5 id hid)) o6, o7⟩
      · cases h
    · cases h

theorem resD_sound (hm : MemR mem ρ B w) {x c : Value} {cks : List CK} {d : D} {mem1 : List (Option Blk)} (h : resD cks mem x = some (d, mem1)) (hx : V ρ mem.length x c) {m1 : List (Option Blk)} {ρ1 : Map} (hm1 : MemR m1 ρ1 B w) (hf : Flat m1) (hdis : Apart mem ρ m1 ρ1) :
    ∃ ρ', (∀ i, Less ρ ρ' i) ∧ MemR mem1 ρ' B w ∧ mem1.length = mem.length ∧ ∃ v m2 ρ2, fromD true m1 d = some (v, m2) ∧ MemR m2 ρ2 B w ∧ Flat m2 ∧ m1.length ≤ m2.length ∧ (∀ id, id < m1.length → ρ2 id = ρ1 id) ∧ V ρ2 m2.length v c ∧ Apart mem1 ρ' m2 ρ2 := by
  unfold resD at h
  split at h
  · rename_i cs0
    split at h
    · rename_i ds mem2 hds
      cases h
      cases hx with
      | @agg _ ys h1 h2 =>
        obtain ⟨ρ', k1, k2, k3, vs, m2, ρ2, l1, l2, l3, l4, l5, l6, l7⟩ := resD1s_sound cs0.toList _ mem _ ρ ds ys.toList hds hm ⟨by simpa using h1, fun i x c hx hc => h2 i x c (by simpa using hx) (by simpa using hc)⟩ m1 ρ1 hm1 hf hdis
        exact ⟨ρ', k1, k2, k3, .agg ⟨vs⟩, m2, ρ2, by simp [fromD, l1], l2, l3, l4, l5, l6.agg, l7⟩
    · cases h
  · obtain ⟨ρ', k1, k2, k3, v, m2, ρ2, l1, l2⟩ := resD1_sound hm h hx hm1 hf hdis
    refine ⟨ρ', k1, k2, k3, v, m2, ρ2, ?_, l2⟩
    rw [← l1]
    unfold resD1 at h
    split at h
    · cases h; rfl
    · split at h
      · split at h
        · cases h; rfl
        · cases h
      · cases h
    · cases h; rfl
    · split at h
      · cases h; rfl
      · cases h

theorem resDs_sound : ∀ (xs : List Value) (ckss : List (List CK)) (mem : List (Option Blk)) (ρ : Map) (ds : List D) (cs : List Value), resDs mem ckss xs = some ds → MemR mem ρ B w → Vs ρ mem.length xs cs → ∀ (m1 : List (Option Blk)) (ρ1 : Map), MemR m1 ρ1 B w → Flat m1 → Apart mem ρ m1 ρ1 →
    ∃ vs m2 ρ2, fromDs true ds m1 = some (vs, m2) ∧ MemR m2 ρ2 B w ∧ m1.length ≤ m2.length ∧ (∀ id, id < m1.length → ρ2 id = ρ1 id) ∧ Vs ρ2 m2.length vs cs
  | [], ckss, mem, ρ, ds, cs, h, hm, hv, m1, ρ1, hm1, hf, hdis => by
    simp [resDs] at h
    subst h
    rw [hv.nil_inv]
    exact ⟨[], m1, ρ1, rfl, hm1, Nat.le_refl _, fun _ _ => rfl, .nil⟩
  | x :: xs, ckss, mem, ρ, ds, cs, h, hm, hv, m1, ρ1, hm1, hf, hdis => by
    obtain ⟨c, cs', rfl, hx, hxs⟩ := hv.inv
    simp only [resDs] at h
    split at h
    · rename_i d mem2 hd
      split at h
      · rename_i ds' hds
        cases h
        obtain ⟨ρa, k1, k2, k3, v, m2, ρ2, l1, l2, l3, l4, l5, l6, l7⟩ := resD_sound hm hd hx hm1 hf hdis
        obtain ⟨vs, m3, ρ3, o1, o2, o4, o5, o6⟩ := resDs_sound xs _ mem2 ρa ds' cs' hds k2 (by rw [k3]; exact hxs.mono (Nat.le_refl _) fun id _ => k1 id) m2 ρ2 l2 l3 l7
        exact ⟨v :: vs, m3, ρ3, by simp [fromDs, l1, o1], o2, by omega, fun id hid => (o5 id (by omega)).trans (l5 id hid), .cons (l6.mono o4 fun id hid => .inl (o5 id hid)) o6⟩
      · cases h
    · cases h
end
end Go.Ev

/- Maps, bytes of strings, deep rows that are appended: what the evaluator does, the machine does. No conditions. -/
import Derived.Test.YtlfeobdfgmlmpaaGreatDoorEvLa
import Derived.Laws.IdiomStrings
namespace Go.Ev
open Go.RowKit Go.MapKept
section
variable {P : Program} {mem mem' : List (Option Blk)} {ρ ρ' : Map} {B : Nat} {w w' : World}

theorem MemR.newMap (h : MemR mem ρ B w) (hB : B ≤ w.heap.size) {k : CK} {z : Value} (hk : mapV k (fun _ => 0) (fun _ => false) = some (z, fun _ => z)) :
    MemR (mem ++ [some (.map k (fun _ => 0) (fun _ => false))]) (Map.snoc ρ mem.length ⟨w.heap.size, 0, 0, 1, 1, true, s0⟩) B (w.alloc (.map #[] 0)) := by
  refine h.alloc (Below.alloc (Below.refl _ _) (Nat.le_refl _) _) (fun _ => Loc.fresh rfl fun _ => Nat.le_refl _) ⟨hB, Nat.one_pos, rfl, #[], 0, ?_, z, _, hk, fun x hx => by simp at hx, fun s => rfl⟩
  show (w.heap.push _)[w.heap.size]? = _
  simp

/-- The bytes of a string. -/
theorem bytes_sound (h : MemR mem ρ B w) (s : ByteArray) {src dst e : TypeId} (hs : P.underlying src = some .string) (hd : P.underlying dst = some (.slice e)) (he : P.underlying e = some (.int .u8)) :
    ∃ L cv w', (convert src dst (.string s)).run P w = .ok cv w' ∧ MemR (mem ++ [some (.row [.int .u8] false (Ev.bytesRow s))]) (Map.snoc ρ mem.length L) B w' ∧ V (Map.snoc ρ mem.length L) (mem.length + 1) (sl0 s.size mem.length) cv ∧ Below w.heap.size w w' := by
  have hrun := run_bytes_of_string (P := P) w src dst e s hs hd he
  have hge : s.size ≤ grownCap w s.size 0 e := grownCap_ge w s.size 0 e
  have hb : Below w.heap.size w (w.drew.alloc (.cells (Go.bytesRow s (grownCap w s.size 0 e)) e ((Go.bytesRow s (grownCap w s.size 0 e)).size, (Go.bytesRow s (grownCap w s.size 0 e)).size + 1))) := ((Below.refl _ _).drew).alloc (Nat.le_refl _) _
  have hg : (w.drew.alloc (.cells (Go.bytesRow s (grownCap w s.size 0 e)) e ((Go.bytesRow s (grownCap w s.size 0 e)).size, (Go.bytesRow s (grownCap w s.size 0 e)).size + 1))).heap[w.heap.size]? = some (.cells (Go.bytesRow s (grownCap w s.size 0 e)) e ((Go.bytesRow s (grownCap w s.size 0 e)).size, (Go.bytesRow s (grownCap w s.size 0 e)).size + 1)) := by
    show (w.heap.push _)[w.heap.size]? = _
    simp
  have hsz : w.heap.size < (w.drew.alloc (.cells (Go.bytesRow s (grownCap w s.size 0 e)) e ((Go.bytesRow s (grownCap w s.size 0 e)).size, (Go.bytesRow s (grownCap w s.size 0 e)).size + 1))).heap.size := by
    show w.heap.size < (w.heap.push _).size
    simp
  refine ⟨⟨w.heap.size, 0, 1, s.size, s.size, false, s0⟩, _, _, hrun, ?_, ?_, hb⟩
  · refine h.alloc hb (fun h => by cases h) ⟨rfl, rfl, (fun h => by cases h), fun hn => ⟨fun _ => ⟨hsz, fun id ho => ?_⟩, ?_⟩, rfl⟩
    · obtain ⟨L, blk, g1, g2, g3, g4⟩ := ho
      rcases get_snoc g2 with ⟨g5, g6⟩ | ⟨_, g6⟩
      · rw [Map.snoc_old g6] at g1
        have := own_lt h ⟨L, blk, g1, g5, g3, g4⟩
        simp only [Nat.lt_irrefl] at this
      · cases g6
        cases g3
    · refine .mk (fun e _ => .int .u8 ((Ev.bytesRow s).I e 0)) (fun e j k he hk => ?_) (fun e j k he hk => ?_)
      · match j, hk with
        | 0, hk =>
          have he : e < s.size := he
          simp only [World.cell?, hg, Option.isSome_none, Bool.false_eq_true, if_false, Nat.zero_add, List.length_cons, List.length_nil, Nat.mul_one, Nat.add_zero]
          simp [Go.bytesRow, Ev.bytesRow, Row.I, Array.getElem?_append, he, Array.getD_eq_getD_getElem?]
      · match j, hk with
        | 0, hk => cases hk; exact .int
  · exact .slice (L := ⟨w.heap.size, 0, 1, s.size, s.size, false, s0⟩) (by omega) Map.snoc_new (by simp) hge (fun _ => by simp [Loc.adr]) (fun h => by cases h)

theorem bytesEq_iff (a b : ByteArray) : (a.toList == b.toList) = true ↔ a = b := by
  rw [← beq_toListBytes]
  exact bytes_beq a b

theorem mget_modify {z v : Value} {s : ByteArray} : ∀ (l : List MapEntry) (i j : Nat) (u : Value), (∀ x ∈ l, ∃ t, x.key = .string t) → Instr.findNow .string (.string s) l i = some (some (i + j, u)) →
    (∀ x ∈ l.modify j (fun e => { e with key := .string s, val := v }), ∃ t, x.key = .string t) ∧ ∀ t, mget z (l.modify j (fun e => { e with key := .string s, val := v })) t = if t = s then v else mget z l t
  | [], i, j, u, _, h => by simp [Instr.findNow] at h
  | e :: es, i, j, u, hk, h => by
    obtain ⟨t, ht⟩ := hk e (.head _)
    have hk' : ∀ x ∈ es, ∃ t, x.key = .string t := fun x hx => hk x (.tail _ hx)
    by_cases hts : t = s
    · subst hts
      have : (t == t) = true := (bytes_beq t t).2 rfl
      simp only [Instr.findNow, Instr.sameNow, ht, this, Option.some.injEq, Prod.mk.injEq] at h
      obtain rfl : j = 0 := by omega
      refine ⟨fun x hx => ?_, fun t' => ?_⟩
      · rw [List.modify_zero_cons] at hx
        cases hx with
        | head => exact ⟨t, rfl⟩
        | tail _ hx => exact hk' x hx
      · rw [List.modify_zero_cons]
        simp only [mget, ht]
        by_cases h1 : t = t'
        · subst h1; simp
        · rw [if_neg h1, if_neg h1, if_neg (fun h => h1 h.symm)]
    · have hne : (s == t) = false := by
        cases hb : s == t with
        | false => rfl
        | true => exact absurd ((bytes_beq s t).1 hb).symm hts
      simp only [Instr.findNow, Instr.sameNow, ht, hne] at h
      cases j with
      | zero =>
        exfalso
        rcases mget_find (z := z) (s := s) es (i + 1) hk' with ⟨h1, _⟩ | ⟨j, e', h1, _⟩
        · rw [h1] at h; cases h
        · rw [h1] at h
          simp only [Option.some.injEq, Prod.mk.injEq] at h
          omega
      | succ j =>
        obtain ⟨h1, h2⟩ := mget_modify (z := z) (v := v) es (i + 1) j u hk' (by rw [h, Nat.add_assoc, Nat.add_comm 1])
        refine ⟨fun x hx => ?_, fun t' => ?_⟩
        · rw [List.modify_succ_cons] at hx
          cases hx with
          | head => exact ⟨t, ht⟩
          | tail _ hx => exact h1 x hx
        · rw [List.modify_succ_cons]
          simp only [mget, ht, h2 t']
          by_cases h1 : t = t'
          · subst h1; rw [if_pos rfl, if_neg hts, if_pos rfl]
          · rw [if_neg h1, if_neg h1]

theorem mget_push {z v : Value} {s : ByteArray} {c : Nat} : ∀ (l : List MapEntry) (i : Nat), (∀ x ∈ l, ∃ t, x.key = .string t) → Instr.findNow .string (.string s) l i = some none →
    (∀ x ∈ l ++ [({ key := .string s, val := v, born := c } : MapEntry)], ∃ t, x.key = .string t) ∧ ∀ t, mget z (l ++ [({ key := .string s, val := v, born := c } : MapEntry)]) t = if t = s then v else mget z l t
  | [], i, _, h => by
    refine ⟨fun x hx => ?_, fun t => ?_⟩
    · simp at hx; subst hx; exact ⟨s, rfl⟩
    · simp only [List.nil_append, mget]
      by_cases h1 : s = t
      · rw [if_pos h1, if_pos h1.symm]
      · rw [if_neg h1, if_neg (fun h => h1 h.symm)]
  | e :: es, i, hk, h => by
    obtain ⟨t, ht⟩ := hk e (.head _)
    by_cases hts : t = s
    · subst hts
      have : (t == t) = true := (bytes_beq t t).2 rfl
      simp [Instr.findNow, Instr.sameNow, ht, this] at h
    · have hne : (s == t) = false := by
        cases hb : s == t with
        | false => rfl
        | true => exact absurd ((bytes_beq s t).1 hb).symm hts
      simp only [Instr.findNow, Instr.sameNow, ht, hne] at h
      obtain ⟨h1, h2⟩ := mget_push (z := z) (v := v) (c := c) es (i + 1) (fun x hx => hk x (.tail _ hx)) h
      refine ⟨fun x hx => ?_, fun t' => ?_⟩
      · rw [List.cons_append] at hx
        cases hx with
        | head => exact ⟨t, ht⟩
        | tail _ hx => exact h1 x hx
      · rw [List.cons_append]
        simp only [mget, ht, h2 t']
        by_cases h1 : t = t'
        · subst h1; rw [if_pos rfl, if_neg hts, if_pos rfl]
        · rw [if_neg h1, if_neg h1]

/-- A store into a map of strings. -/
theorem run_mapUpdate_str {t kt et : TypeId} {r : Nat} {s : ByteArray} {v z : Value} {es : Array MapEntry} {clock : Nat} (ht : P.underlying t = some (.map kt et)) (hk : P.underlying kt = some .string) (hb : w.heap[r]? = some (.map es clock))
    (hes : ∀ x ∈ es.toList, ∃ t, x.key = .string t) : ∃ es' clock', (Instr.mapUpdate t (.map (some r)) (.string s) v).run P w = .ok () { w with heap := w.heap.setIfInBounds r (.map es' clock') } ∧
      (∀ x ∈ es'.toList, ∃ t, x.key = .string t) ∧ ∀ t, mget z es'.toList t = if t = s then v else mget z es.toList t := by
  have hck : (Instr.checkKey false 10000 kt (.string s)).run P w = .ok () w := MapKept.run_checkKey (w := w) hk (k := .string s) trivial false 9999
  rcases mget_find (z := z) (s := s) es.toList 0 hes with ⟨h1, _⟩ | ⟨j, e, h1, h2, h3, _⟩
  · have hf := MapKept.run_findKey (w := w) hk h1
    obtain ⟨g1, g2⟩ := mget_push (z := z) (v := v) (c := clock) es.toList 0 hes h1
    refine ⟨es.push { key := .string s, val := v, born := clock }, clock + 1, ?_, by simpa using g1, by simpa using g2⟩
    simp [Instr.mapUpdate, run_underlying ht, MapKept.run_getObj_map hb, hck, hf, MapKept.run_setObj_map _ hb]
  · have hf := MapKept.run_findKey (w := w) hk h1
    rw [Nat.zero_add] at hf h1
    obtain ⟨g1, g2⟩ := mget_modify (z := z) (v := v) es.toList 0 j e.val hes (by rw [Nat.zero_add]; exact h1)
    have hej : es[j]? = some e := by simpa using h2
    have hbb : (s == s) = true := (bytes_beq s s).2 rfl
    refine ⟨es.modify j fun e => { e with key := .string s, val := v }, clock, ?_, by simpa using g1, by simpa using g2⟩
    simp [Instr.mapUpdate, run_underlying ht, MapKept.run_getObj_map hb, hck, hf, Instr.keyThatStays, hej, h3, Instr.sameBits, hbb, MapKept.run_setObj_map _ hb]

theorem mapStore_sound {mem1 : List (Option Blk)} {m x v cm cx cv : Value} {t kt et : TypeId} (h : mapStore mem m x v = some mem1) (hm : MemR mem ρ B w) (ht : P.underlying t = some (.map kt et)) (hk : P.underlying kt = some .string)
    (h1 : V ρ mem.length m cm) (h2 : V ρ mem.length x cx) (h3 : V ρ mem.length v cv) :
    ∃ w' ρ1, (Instr.mapUpdate t cm cx cv).run P w = .ok () w' ∧ MemR mem1 ρ1 B w' ∧ mem1.length = mem.length ∧ (∀ i, i < mem.length → Less ρ ρ1 i) ∧ ∀ W0, Below B W0 w → Below B W0 w' := by
  have key : ∀ {id : Nat} {s : ByteArray} {k : CK} {I I' : ByteArray → Int} {Bo Bo' : ByteArray → Bool} {z : Value} {f f' : ByteArray → Value} (hb : mem[id]? = some (some (.map k I Bo))) (hv : V ρ mem.length (.map (some id)) cm) (hf : mapV k I Bo = some (z, f)) (hf' : mapV k I' Bo' = some (z, f'))
      (hff : ∀ t, f' t = if t = s then cv else f t), ∃ w' ρ1, (Instr.mapUpdate t cm (.string s) cv).run P w = .ok () w' ∧ MemR (mem.set id (some (.map k I' Bo'))) ρ1 B w' ∧ (mem.set id (some (.map k I' Bo'))).length = mem.length ∧ (∀ i, i < mem.length → Less ρ ρ1 i) ∧ ∀ W0, Below B W0 w → Below B W0 w' := by
    intro id s k I I' Bo Bo' z f f' hb hv hf hf' hff
    obtain ⟨L, hL, q1, q2, q3, es, clock, q4, z0, f0, q5, q6, q7⟩ := hm.blk id _ hb
    rw [hf] at q5
    cases q5
    have hid : id < mem.length := (List.getElem?_eq_some_iff.1 hb).1
    cases hv with
    | mapDead _ g => exact absurd g (live_of hm hb)
    | @map _ M _ g =>
      rw [hL] at g
      cases g
      obtain ⟨es', clock', r1, r2, r3⟩ := run_mapUpdate_str (P := P) (v := cv) (z := z) (s := s) ht hk q4 q6
      obtain ⟨u1, u2⟩ := heap_set (o' := .map es' clock') q4
      have hO : Owned mem ρ id L.b := ⟨L, _, hL, hb, rfl, .inl ⟨q2, rfl⟩⟩
      obtain ⟨ρ', m1, m2, _⟩ := hm.upd (w' := { w with heap := w.heap.setIfInBounds L.b (.map es' clock') }) (mem' := mem.set id (some (.map k I' Bo'))) (q := id) (blk := .map k I' Bo') (L := L) (by simp) (by rw [List.getElem?_set_self hid]) (fun i b hi hb' => by
          rw [List.getElem?_set_ne (fun h => hi h.symm)] at hb'
          refine ⟨hb', fun p e j ks r hbr => ?_⟩
          subst hbr
          obtain ⟨_, _, hr⟩ := hm.blk i _ hb'
          obtain ⟨_, _, _, _, _, Lp, kps, rp, hh, a, g1, _⟩ := hr
          have hp : p ≠ id := by
            rintro rfl
            rw [hb] at g1
            cases g1
          exact ⟨hp, by rw [List.getElem?_set_ne (fun h => hp h.symm)]⟩)
        (fun b hb' => by
          obtain ⟨_, rfl⟩ := Loc.foot_s0 q3 hb'
          exact .inr ⟨id, hO, .inl rfl⟩) (by simp)
        (fun b _ hb' => u2 b fun he => (hb' id (he ▸ hO)).1 rfl)
        (fun ρ' => ⟨q1, q2, q3, es', clock', u1, z, f', hf', r2, fun t => by rw [r3, hff, q7]⟩)
        (fun _ => ⟨L, L.own, L.sub, hL, rfl, fun h => h⟩)
      refine ⟨_, ρ', r1, m1, by simp, m2, fun W0 hW => ⟨hW.os, hW.tape, hW.output, by simpa using hW.size, fun k hk => ?_⟩⟩
      have hne : k ≠ L.b := by omega
      exact (u2 k hne).trans (hW.block k hk)
  unfold mapStore at h
  split at h
  · rename_i id s
    cases h2
    split at h
    · rename_i kd I Bo kd' n hb
      split at h
      · rename_i hs
        cases same_eq hs
        cases h
        cases h3
        exact key hb h1 rfl rfl fun t => by
          unfold updI
          by_cases hts : t = s
          · rw [if_pos hts, (bytesEq_iff t s).2 hts]; rfl
          · rw [if_neg hts]
            cases hb' : t.toList == s.toList with
            | true => exact absurd ((bytesEq_iff t s).1 hb') hts
            | false => rfl
      · cases h
    · rename_i I Bo b hb
      cases h
      cases h3
      exact key hb h1 rfl rfl fun t => by
        unfold updB
        by_cases hts : t = s
        · rw [if_pos hts, (bytesEq_iff t s).2 hts]; rfl
        · rw [if_neg hts]
          cases hb' : t.toList == s.toList with
          | true => exact absurd ((bytesEq_iff t s).1 hb') hts
          | false => rfl
    · cases h
  · cases h
end
end Go.Ev

/- An append does what the evaluator says: in place or in a new row. No conditions. -/
import Derived.Test.YtlfeobdfgmlmpaaGreatDoorEvK
import Derived.Deep.Upon
namespace Go.Ev
open Go.RowKit
section
variable {P : Program} {mem mem' : List (Option Blk)} {ρ ρ' : Map} {B : Nat} {w w' : World}

/-- What is appended, as the machine reads it. -/
theorem appSrc_sound (hm : MemR mem ρ B w) {ks : List CK} {x cx : Value} {r2 : Row} (h : appSrc mem ks x = some r2) (hx : V ρ mem.length x cx) {xt : TypeId} (hsk : srcOk P xt x = true) :
    ∃ v : Nat → Nat → Value, Src P ks.length xt cx r2.n (rowCells ks.length r2.n v) w ∧ ∀ (e j : Nat) (k : CK), e < r2.n → ks[j]? = some k → CellR (okB mem ρ w) w k r2 e j (v e j) := by
  have hsl : ∀ {a : Option Addr} {n c : Nat}, x = .slice a n c → ∃ el2, P.underlying xt = some (.slice el2) := by
    intro a n c hx
    subst hx
    unfold srcOk at hsk
    split at hsk
    · rename_i el _ _ _ h1 _; exact ⟨el, h1⟩
    · rename_i h2; cases h2
    · cases hsk
  have main : ∀ {el2 : TypeId} (hxt : P.underlying xt = some (.slice el2)) {id e len : Nat} {b : Blk} {r : Row} (hb : mem[id]? = some (some b)) (hsh : ∀ L, ρ id = some L → L.n = r.n ∧ L.sz = ks.length ∧ (0 < r.n → Rds (okB mem ρ w) w ks r L.b L.off)) (hx : V ρ mem.length (.slice (some ⟨id, e, some 0⟩) len 0) cx),
      ∃ v : Nat → Nat → Value, Src P ks.length xt cx (winOf r e len).n (rowCells ks.length (winOf r e len).n v) w ∧ ∀ (e' j : Nat) (k : CK), e' < (winOf r e len).n → ks[j]? = some k → CellR (okB mem ρ w) w k (winOf r e len) e' j (v e' j) := by
    intro el2 hxt id e len b r hb hsh hx
    cases hx with
    | sliceDead g1 g2 => exact absurd g2 (live_of hm hb)
    | @slice _ _ _ L a cap g1 g2 g3 g4 g5 g6 =>
      obtain ⟨s1, s2, s3⟩ := hsh L g2
      rw [winOf_n]
      rcases Nat.eq_zero_or_pos len with h0 | h0
      · subst h0
        refine ⟨fun _ _ => undef, ?_, fun e j k he => by simp at he⟩
        have hnil : rowCells ks.length 0 (fun _ _ => undef) = [] := by simp [rowCells]
        rw [hnil]
        cases a with
        | none => exact Src.ofNil (P := P) w hxt cap
        | some a => exact Src.ofSlice (P := P) w hxt a 0 cap [] (by simp) (fun j u hu => by simp at hu) (fun u hu => by simp at hu)
      · have hR := (s3 (by omega)).winOf (e0 := e) (n := len) (by omega)
        obtain ⟨v, v1, v2, v3⟩ := hR.src
        rw [winOf_n] at v1 v2 v3
        refine ⟨v, ?_, v1⟩
        rw [g5 h0]
        refine Src.ofSlice (P := P) w hxt _ len cap _ rowCells_length (fun j u hu => ?_) v3
        have := v2 j u hu
        rw [← s2] at this
        simp only [Loc.adr, Addr.add_lit]
        simpa using this
  unfold appSrc at h
  split at h
  · rename_i s
    split at h
    · rename_i hk
      cases cksEq_eq hk
      cases h
      cases hx
      have hxt : P.underlying xt = some .string := by
        unfold srcOk at hsk
        split at hsk
        · rename_i h2; cases h2
        · rename_i h1 _; exact h1
        · cases hsk
      have hlen : (bytesRow s).n = s.size := rfl
      have e : rowCells 1 s.size (fun e _ => Value.int .u8 ((bytesRow s).I e 0)) = byteCells s := by
        refine List.ext_getElem? fun i => ?_
        rcases Nat.lt_or_ge i s.size with hi | hi
        · have hi' : i < s.data.size := hi
          simp [rowCells, byteCells, bytesRow, Row.I, hi, Nat.div_one, Array.getD_eq_getD_getElem?]
        · rw [List.getElem?_eq_none (by rw [rowCells_length]; omega), List.getElem?_eq_none (by rw [byteCells_length]; exact hi)]
      refine ⟨fun e _ => .int .u8 ((bytesRow s).I e 0), ?_, fun e j k he hk => ?_⟩
      · show Src P 1 xt (.string s) s.size _ w
        show Src P 1 xt (.string s) s.size (rowCells 1 s.size _) w
        rw [e]
        exact Src.ofString w hxt s
      · match j, hk with
        | 0, hk =>
          cases hk
          exact .int
    · cases h
  · cases h
    obtain ⟨el2, hxt⟩ := hsl rfl
    cases hx
    rename_i a
    refine ⟨fun _ _ => undef, ?_, fun e j k he => by simp [Row.n] at he⟩
    cases a with
    | none => simpa [rowCells, Row.n] using Src.ofNil (P := P) w hxt 0
    | some a => simpa [rowCells, Row.n] using Src.ofSlice (P := P) w (size := ks.length) hxt a 0 0 [] (by simp) (fun j u hu => by simp at hu) (fun u hu => by simp at hu)
  · rename_i id e len
    obtain ⟨el2, hxt⟩ := hsl rfl
    split at h
    · rename_i ks2 o r2' hb
      split at h
      · rename_i hk
        cases cksEq_eq hk
        cases h
        refine main hxt hb (fun L hL => ?_) hx
        obtain ⟨M, hM, hbr⟩ := hm.blk _ _ hb
        rw [hL] at hM
        cases hM
        exact ⟨hbr.1, hbr.2.1, fun hn => (hbr.2.2.2.1 hn).2⟩
      · cases h
    · rename_i b hnb hb
      split at h
      · rename_i ks2 r2' hd
        split at h
        · rename_i hk
          rw [Bool.and_eq_true] at hk
          cases cksEq_eq hk.1
          cases h
          refine main hxt hb (fun L hL => ?_) hx
          obtain ⟨q1, q2, q3⟩ := BlkR.dat hm hb hL hd
          exact ⟨q1, q2, fun hn => (q3 hn).2.plain hk.2⟩
        · cases h
      · cases h
    · cases h
  · cases h

theorem append_grow (hm : MemR mem ρ B w) (hB : B ≤ w.heap.size) {st xt ty el : TypeId} {ei : TypeInfo} {z : Value} (ht : P.underlying st = some (.slice el)) (hi : P.info? el = some ei) (hz : ei.zero = some z) {ks : List CK} (hsz : ei.size = ks.length)
    (hzo : zeroOk ks (lcells z) = true) (hbytes : ei.bytes ≤ 1000) {base : Option Addr} {n cap : Nat} {r1 r2 : Row} {v1 v2 : Nat → Nat → Value} (hr1 : r1.n = n) (hold : (Builtin.firstCells ei.size n (.slice base n cap)).run P w.drew = .ok (rowCells ks.length n v1).toArray w.drew)
    (h1 : ∀ (e j : Nat) (k : CK), e < n → ks[j]? = some k → CellR (okB mem ρ w) w k r1 e j (v1 e j)) {cx : Value} (hs : Src P ks.length xt cx r2.n (rowCells ks.length r2.n v2) w) (h2 : ∀ (e j : Nat) (k : CK), e < r2.n → ks[j]? = some k → CellR (okB mem ρ w) w k r2 e j (v2 e j))
    (hg : cap < n + r2.n) (hbound : n + r2.n ≤ 10000000000) :
    ∃ L cv w', (Builtin.append_ #[st, xt] ty #[.slice base n cap, cx]).run P w = .ok cv w' ∧ MemR (mem ++ [some (.row ks true (r1.app r2))]) (Map.snoc ρ mem.length L) B w' ∧ (∀ N, mem.length < N → V (Map.snoc ρ mem.length L) N (sl0 (n + r2.n) mem.length) cv) ∧
      ∀ W0 : World, W0.heap.size ≤ w.heap.size → Below W0.heap.size W0 w → Below W0.heap.size W0 w' := by
  have hcap := nextslicecap_le hg
  have hrun := run_append_grow_src (P := P) w st xt ty el ei z ht hi hz base n cap _ hold cx r2.n _ (by rw [hsz]; exact hs) hg (by omega) (by
    have : Builtin.nextslicecap (n + r2.n) cap * ei.bytes ≤ (2 * (n + r2.n)) * 1000 := Nat.mul_le_mul hcap hbytes
    omega)
  obtain ⟨z1, z2⟩ := zeroOk_spec hzo
  have hzs : z.cells.size = ks.length := by rw [← z1, ← cells_lcells]; simp
  have hge := grownCap_ge w (n + r2.n) cap el
  refine ⟨⟨w.heap.size, 0, ks.length, grownCap w (n + r2.n) cap el, n + r2.n, true, s0⟩, _, _, hrun, ?_, fun N hN => V.newRow hN hge (Nat.le_refl _), fun W0 hW hb => (hb.drew).alloc (by simpa using hW) _⟩
  have happ : (r1.app r2).n = n + r2.n := by show r1.n + r2.n = n + r2.n; rw [hr1]
  have key := MemR.newRow hm hB (r := r1.app r2) (c := (rowCells ks.length n v1 ++ rowCells ks.length r2.n v2).toArray ++ Builtin.zeroCells z.cells (grownCap w (n + r2.n) cap el - (n + r2.n))) (T := el) (tot := grownCap w (n + r2.n) cap el) (ks := ks) (w1 := w.drew) ((Below.refl _ _).drew) rfl
    (by
      simp only [Array.size_append, List.size_toArray, List.length_append, rowCells_length, Builtin.zeroCells, Array.size_map, Array.size_range, hzs]
      rw [Nat.sub_mul, ← Nat.add_mul]
      have : (n + r2.n) * ks.length ≤ grownCap w (n + r2.n) cap el * ks.length := Nat.mul_le_mul_right _ hge
      omega) (by rw [happ]; exact hge) (fun e j => if e < n then v1 e j else v2 (e - n) j) (fun e j k he hk => ?_) (fun e j k he hk => ?_)
  · rw [happ] at key
    exact key
  · have hj : j < ks.length := (List.getElem?_eq_some_iff.1 hk).1
    rw [happ] at he
    rw [Array.getElem?_append]
    by_cases hen : e < n
    · have hlt : e * ks.length + j < n * ks.length := by
        have : (e + 1) * ks.length ≤ n * ks.length := Nat.mul_le_mul_right _ (by omega)
        rw [Nat.add_mul] at this
        omega
      rw [if_pos (by simp [rowCells_length]; omega), if_pos hen]
      simp only [List.getElem?_toArray]
      rw [List.getElem?_append_left (by rw [rowCells_length]; exact hlt)]
      exact rowCells_get hen hj
    · have hlt : e * ks.length + j < (n + r2.n) * ks.length := by
        have : (e + 1) * ks.length ≤ (n + r2.n) * ks.length := Nat.mul_le_mul_right _ (by omega)
        rw [Nat.add_mul, Nat.one_mul] at this
        omega
      have hge2 : n * ks.length ≤ e * ks.length := Nat.mul_le_mul_right _ (by omega)
      rw [if_pos (by simp only [List.size_toArray, List.length_append, rowCells_length]; rw [← Nat.add_mul]; exact hlt), if_neg hen]
      simp only [List.getElem?_toArray]
      rw [List.getElem?_append_right (by rw [rowCells_length]; omega), rowCells_length]
      rw [show e * ks.length + j - n * ks.length = (e - n) * ks.length + j by rw [Nat.sub_mul]; omega]
      exact rowCells_get (by omega) hj
  · rw [happ] at he
    by_cases hen : e < n
    · rw [if_pos hen]
      exact (h1 e j k hen hk).app_l (by rw [hr1]; exact hen)
    · rw [if_neg hen]
      refine CellR.app_r (by rw [hr1]; omega) ?_
      rw [hr1]
      exact h2 (e - n) j k (by omega) hk

/-- Blocks are forgotten: each with what was borrowed of it. -/
theorem MemR.drop (h : MemR mem ρ B w) (hlen : mem'.length = mem.length) (hD : ∀ (i : Nat) (b : Blk), mem'[i]? = some (some b) → mem[i]? = some (some b) ∧ ∀ p e j ks r, b = .bor p e j ks r → mem'[p]? = mem[p]?) :
    ∃ ρ', (∀ i, Less ρ ρ' i) ∧ MemR mem' ρ' B w ∧ (∀ b, okB mem ρ w b → okB mem' ρ' w b) ∧ ∀ (i b : Nat), Owned mem' ρ' i b → Owned mem ρ i b ∧ ∃ blk, mem'[i]? = some (some blk) := by
  have hnew : ∀ (i : Nat) (b : Blk), mem'[i]? = some (some b) → (match mem'[i]? with | some (some _) => ρ i | _ => none) = ρ i := fun i b hi => by rw [hi]
  have hown : ∀ (i b : Nat), Owned mem' (fun i => match mem'[i]? with | some (some _) => ρ i | _ => none) i b → Owned mem ρ i b ∧ ∃ blk, mem'[i]? = some (some blk) := by
    intro i b ⟨M, blk, g1, g3, g4, g2⟩
    have g5 := hnew i blk g3
    exact ⟨⟨M, blk, g5 ▸ g1, (hD i blk g3).1, g4, g2⟩, blk, g3⟩
  have hless : ∀ i, Less ρ (fun i => match mem'[i]? with | some (some _) => ρ i | _ => none) i := by
    intro i
    show (match mem'[i]? with | some (some _) => ρ i | _ => none) = ρ i ∨ (match mem'[i]? with | some (some _) => ρ i | _ => none) = none ∨ _
    split
    · exact .inl rfl
    · exact .inr (.inl rfl)
  have hok : ∀ b, okB mem ρ w b → okB mem' (fun i => match mem'[i]? with | some (some _) => ρ i | _ => none) w b := fun b hb => ⟨hb.1, fun i hM => hb.2 i (hown i b hM).1⟩
  refine ⟨_, hless, h.step (by omega) (fun i _ => hless i) (fun b hb => ⟨hok b hb, rfl⟩) (fun i b hi => ?_) (fun i hi => ?_) (fun i j b hi hj => h.inj i j b (hown i b hi).1 (hown j b hj).1), hok, hown⟩
  · obtain ⟨g1, g2⟩ := hD i b hi
    refine .inl ⟨g1, hnew i b hi, fun _ _ _ _ _ => rfl, fun p e j ks r hbr kps rp hh Lp q1 q2 => ?_⟩
    have q3 := (g2 p e j ks r hbr).trans q1
    exact ⟨q3, (hnew p _ q3).trans q2, fun _ => rfl⟩
  · show (match mem'[i]? with | some (some _) => ρ i | _ => none) = none
    split
    · rename_i b hb
      exact absurd hb (hi b)
    · rfl

theorem MemR.kill (h : MemR mem ρ B w) {id : Nat} (hnd : ∀ ks r hh, mem[id]? ≠ some (some (.deep ks r hh))) : ∃ ρ', (∀ i, Less ρ ρ' i) ∧ MemR (mem.set id none) ρ' B w ∧ (∀ b, okB mem ρ w b → okB (mem.set id none) ρ' w b) ∧ ∀ (i b : Nat), Owned (mem.set id none) ρ' i b → i ≠ id ∧ Owned mem ρ i b := by
  obtain ⟨ρ', h1, h2, h3, h4⟩ := h.drop (mem' := mem.set id none) (by simp) (fun i b hi => by
    rcases get_set hi with ⟨g1, g2⟩ | ⟨_, g2, _⟩
    · refine ⟨g2, fun p e j ks r hb => ?_⟩
      subst hb
      obtain ⟨L, _, hr⟩ := h.blk i _ g2
      obtain ⟨_, _, _, _, _, Lp, kps, rp, hh, a, q1, _⟩ := hr
      rw [List.getElem?_set_ne]
      rintro rfl
      exact hnd _ _ _ q1
    · cases g2)
  refine ⟨ρ', h1, h2, h3, fun i b ho => ?_⟩
  obtain ⟨g1, blk, g2⟩ := h4 i b ho
  refine ⟨?_, g1⟩
  rintro rfl
  rcases get_set g2 with ⟨g3, _⟩ | ⟨_, g3, _⟩
  · exact g3 rfl
  · cases g3

theorem dropB_get {p i : Nat} {b : Blk} (h : (dropB p mem)[i]? = some (some b)) : mem[i]? = some (some b) ∧ ∀ e j ks r, b ≠ .bor p e j ks r := by
  unfold dropB at h
  rw [List.getElem?_map] at h
  cases hm : mem[i]? with
  | none => rw [hm] at h; cases h
  | some o =>
    rw [hm] at h
    simp only [Option.map_some, Option.some.injEq] at h
    split at h
    · rename_i q e j ks r
      split at h
      · cases h
      · rename_i hq
        cases h
        refine ⟨rfl, fun e' j' ks' r' he => ?_⟩
        cases he
        simp at hq
    · rename_i hne
      subst h
      exact ⟨rfl, fun e j ks r he => hne p e j ks r (by rw [he])⟩

theorem dropB_set {p i : Nat} (h : ∀ q e j ks r, mem[i]? ≠ some (some (.bor q e j ks r))) : (dropB p mem)[i]? = mem[i]? := by
  unfold dropB
  rw [List.getElem?_map]
  cases hm : mem[i]? with
  | none => rfl
  | some o =>
    rw [Option.map_some]
    congr 1
    split
    · rename_i q e j ks r
      exact absurd hm (h q e j ks r)
    · rfl

theorem MemR.killD (h : MemR mem ρ B w) {id : Nat} : ∃ ρ', (∀ i, Less ρ ρ' i) ∧ MemR (dropB id (mem.set id none)) ρ' B w ∧ (∀ b, okB mem ρ w b → okB (dropB id (mem.set id none)) ρ' w b) ∧ ∀ (i b : Nat), Owned (dropB id (mem.set id none)) ρ' i b → i ≠ id ∧ Owned mem ρ i b := by
  obtain ⟨ρ', h1, h2, h3, h4⟩ := h.drop (mem' := dropB id (mem.set id none)) (by simp [dropB]) (fun i b hi => by
    obtain ⟨g0, g1⟩ := dropB_get hi
    rcases get_set g0 with ⟨g3, g2⟩ | ⟨_, g2, _⟩
    · refine ⟨g2, fun p e j ks r hb => ?_⟩
      subst hb
      obtain ⟨L, _, hr⟩ := h.blk i _ g2
      obtain ⟨_, _, _, _, _, Lp, kps, rp, hh, a, q1, _⟩ := hr
      have hne : p ≠ id := by rintro rfl; exact g1 _ _ _ _ rfl
      have e1 : (mem.set id none)[p]? = mem[p]? := List.getElem?_set_ne fun e => hne e.symm
      rw [dropB_set (fun q e j ks r hq => by rw [e1, q1] at hq; cases hq), e1]
    · cases g2)
  refine ⟨ρ', h1, h2, h3, fun i b ho => ?_⟩
  obtain ⟨g1, blk, g2⟩ := h4 i b ho
  refine ⟨?_, g1⟩
  rintro rfl
  obtain ⟨g0, _⟩ := dropB_get g2
  rcases get_set g0 with ⟨g3, _⟩ | ⟨_, g3, _⟩
  · exact g3 rfl
  · cases g3

theorem append_sound (hm : MemR mem ρ B w) (hB : B ≤ w.heap.size) {st xt ty el : TypeId} {ei : TypeInfo} {z : Value} (ht : P.underlying st = some (.slice el)) (hi : P.info? el = some ei) (hz : ei.zero = some z) {ks : List CK} (hsz : ei.size = ks.length)
    (hzo : zeroOk ks (lcells z) = true) (hbytes : ei.bytes ≤ 1000) {s x cs cx : Value} {ido : Option Nat} {r r2 : Row} {n : Nat} (hd : appDst mem ks s = some (ido, r, n)) (hsrc : appSrc mem ks x = some r2) (hxt : srcOk P xt x = true) (hbound : n + r2.n ≤ 10000000000)
    (hs : V ρ mem.length s cs) (hx : V ρ mem.length x cx) :
    ∃ ρ' cv w', (Builtin.append_ #[st, xt] ty #[cs, cx]).run P w = .ok cv w' ∧ MemR ((match ido with | some i => mem.set i none | none => mem) ++ [some (.row ks true (r.app r2))]) ρ' B w' ∧ (∀ i, i < mem.length → Less ρ ρ' i) ∧
      V ρ' (mem.length + 1) (sl0 (n + r2.n) mem.length) cv ∧ ∀ W0 : World, W0.heap.size = B → W0.heap.size ≤ w.heap.size → Below W0.heap.size W0 w → Below W0.heap.size W0 w' := by
  obtain ⟨v2, hSrc, hv2⟩ := appSrc_sound hm hsrc hx hxt
  unfold appDst at hd
  split at hd
  · cases hd
    cases hs
    rename_i a0
    simp only [Nat.zero_add] at hbound ⊢
    rcases Nat.eq_zero_or_pos r2.n with h0 | h0
    · have hrun := run_append_nothing (P := P) w st xt ty el ei ht hi a0 0 0 (Nat.le_refl _) cx (by
        rw [hsz]
        have : rowCells ks.length r2.n v2 = [] := by rw [h0]; simp [rowCells]
        rw [← this, ← h0]
        simpa [h0] using hSrc)
      have happ : (Row.nil.app r2).n = 0 := by show Row.nil.n + r2.n = 0; rw [h0]; rfl
      refine ⟨Map.snoc ρ mem.length ⟨0, 0, ks.length, 0, 0, true, s0⟩, _, w, hrun, hm.alloc (Below.refl _ _) (fun _ => Loc.fresh rfl fun h => by simp at h) ⟨happ.symm, rfl, fun _ => ⟨rfl, by rw [happ]; exact Nat.zero_le _, fun h => by simp at h⟩, fun h => by omega, rfl⟩, fun i hi => .inl (Map.snoc_old hi), ?_, fun W0 _ _ h => h⟩
      rw [h0]
      exact .slice (L := ⟨0, 0, ks.length, 0, 0, true, s0⟩) (by omega) Map.snoc_new (by simp) (Nat.le_refl _) (fun h => by omega) (fun _ => ⟨by simp, .inl rfl⟩)
    · obtain ⟨L, cv, w', k1, k2, k3, k4⟩ := append_grow (P := P) (ty := ty) hm hB ht hi hz hsz hzo hbytes (base := a0) (n := 0) (cap := 0) (r1 := Row.nil) (v1 := fun _ _ => undef) rfl (by
        have : rowCells ks.length 0 (fun _ _ => undef) = [] := by simp [rowCells]
        rw [this]
        cases a0 with
        | none => exact run_firstCells_none _ _ _ _ _
        | some a => exact run_firstCells_some _ _ 0 _ _ _ [] (by simp) (fun j v hv => by simp at hv)) (fun e j k he => by omega) hSrc hv2 (by omega) (by omega)
      simp only [Nat.zero_add] at k3
      exact ⟨_, cv, w', k1, k2, fun i hi => .inl (Map.snoc_old hi), k3 _ (by omega), fun W0 _ h1 h2 => k4 W0 h1 h2⟩
  · rename_i id e len
    split at hd
    · rename_i ksX r0 hb
      split at hd
      · rename_i hk
        cases cksEq_eq hk
        cases hd
        obtain ⟨L, hL, hbr⟩ := hm.blk _ _ hb
        obtain ⟨b1, b2, b3, b4, b0⟩ := hbr
        obtain ⟨b5, b6, b7⟩ := b3 rfl
        cases hs with
        | sliceDead g1 g2 => exact absurd g2 (live_of hm hb)
        | @slice _ _ _ M a cap g1 g2 g3 g4 g5 g6 =>
          rw [hL] at g2
          cases g2
          obtain ⟨g7, g8⟩ := g6 b5
          have happ : ((winOf r0 e n).app r2).n = n + r2.n := by show (winOf r0 e n).n + r2.n = _; rw [winOf_n]
          have hlen : (mem.set id none).length = mem.length := by simp
          -- the cells that are there
          have hRw : 0 < n → Rds (okB mem ρ w) w ks (winOf r0 e n) L.b (L.off + e * ks.length) := fun hn => ((b4 (by omega)).2).winOf (by omega)
          obtain ⟨v1, q1, q2, q3⟩ : ∃ v1 : Nat → Nat → Value, (∀ (e' j : Nat) (k : CK), e' < n → ks[j]? = some k → CellR (okB mem ρ w) w k (winOf r0 e n) e' j (v1 e' j)) ∧ (∀ i u, (rowCells ks.length n v1)[i]? = some u → w.cell? ⟨L.b, L.off + e * ks.length + i, none⟩ = some u) ∧ ∀ u ∈ rowCells ks.length n v1, u.oneCell' = true := by
            rcases Nat.eq_zero_or_pos n with h0 | h0
            · subst h0
              exact ⟨fun _ _ => undef, fun _ _ _ h => by omega, fun i u hu => by simp [rowCells] at hu, fun u hu => by simp [rowCells] at hu⟩
            · obtain ⟨v1, q1, q2, q3⟩ := (hRw h0).src
              rw [winOf_n] at q1 q2 q3
              exact ⟨v1, q1, q2, q3⟩
          by_cases hfit : n + r2.n ≤ cap
          · -- in place
            let L' : Loc := ⟨L.b, L.off + e * L.sz, L.sz, L.tot - e, n + r2.n, true, s0⟩
            have hV : V (fun i => if i = mem.length then some L' else if i = id then none else ρ i) (mem.length + 1) (sl0 (n + r2.n) mem.length) (.slice a (n + r2.n) cap) := by
              refine .slice (L := L') (by omega) (by simp) (by simp [L']) hfit (fun hpos => ?_) (fun _ => ⟨by simp only [L', Nat.zero_add]; omega, ?_⟩)
              · rcases g8 with g8 | g8
                · omega
                · rw [g8]; simp [Loc.adr, L']
              · rcases g8 with g8 | g8
                · exact .inl g8
                · right; rw [g8]; simp [Loc.adr, L']
            have hless : ∀ i, i < mem.length → Less ρ (fun i => if i = mem.length then some L' else if i = id then none else ρ i) i := by
              intro i hi
              have hne : i ≠ mem.length := by omega
              by_cases hii : i = id
              · exact .inr (.inl (by simp [hii]; omega))
              · exact .inl (by simp [hne, hii])
            -- what is read elsewhere
            rcases Nat.eq_zero_or_pos r2.n with h0 | h0
            · have hrun := run_append_nothing (P := P) w st xt ty el ei ht hi a n cap (by omega) cx (by
                rw [hsz]
                have : rowCells ks.length r2.n v2 = [] := by rw [h0]; simp [rowCells]
                rw [← this, ← h0]
                simpa [h0] using hSrc)
              have e0 : n + r2.n = n := by omega
              refine ⟨_, _, w, by rw [hrun], hm.replace (L' := L') hb hL rfl (fun h => by simp only [L'] at h; omega) (fun _ _ => rfl) (fun _ => rfl) rfl ?_, hless, by rw [e0]; rw [e0] at hV; exact hV, fun W0 _ _ h => h⟩
              refine ⟨happ.symm, b2, fun _ => ⟨rfl, ?_, fun ht => ?_⟩, fun hn => ⟨(fun hf => by cases hf), ?_⟩, rfl⟩
              · rw [happ]; simp only [L']; omega
              · obtain ⟨b8, c, T, b9, b10⟩ := b7 (by simp only [L'] at ht; omega)
                refine ⟨b8, c, T, b9, ?_⟩
                simp only [L']
                have : e * L.sz + (L.tot - e) * L.sz = L.tot * L.sz := by rw [← Nat.add_mul]; congr 1; simp only [L'] at ht; omega
                omega
              · rw [happ] at hn
                have hO : Owned mem ρ id L.b := ⟨L, _, hL, hb, rfl, .inl ⟨by omega, rfl⟩⟩
                have hok : ∀ b, okB mem ρ w b → okB (mem.set id none ++ [some (.row ks true ((winOf r0 e n).app r2))]) (fun i => if i = mem.length then some L' else if i = id then none else ρ i) w b := by
                  intro b hb'
                  refine ⟨hb'.1, fun i ⟨K, blk, m1, m3, m4, m2⟩ => ?_⟩
                  rcases get_snoc m3 with ⟨m5, m6⟩ | ⟨m5, _⟩
                  · rcases get_set m5 with ⟨m7, m8⟩ | ⟨_, m8, _⟩
                    · have hne : i ≠ mem.length := by simp at m6; omega
                      simp only [hne, m7, if_false] at m1
                      exact hb'.2 i ⟨K, blk, m1, m8, m4, m2⟩
                    · cases m8
                  · rw [m5, hlen] at m1
                    simp at m1
                    subst m1
                    exact hb'.2 id ((Loc.foot_s0 rfl m2).2 ▸ hO)
                have hR := hRw (by omega)
                rw [← b2] at hR
                cases hR with
                | mk v p1 p2 =>
                  rw [winOf_n] at p1 p2
                  refine .mk v (fun e' j k he hk => p1 e' j k (by rw [happ] at he; omega) hk) (fun e' j k he hk => ?_)
                  rw [happ] at he
                  exact ((p2 e' j k (by omega) hk).app_l (by rw [winOf_n]; omega)).mono fun b hb' => ⟨hok b hb', rfl⟩
            · have ha : a = some (L.adr e 0) := by
                rcases g8 with g8 | g8
                · omega
                · exact g8
              obtain ⟨b8, c, T, b9, b10⟩ := b7 (by omega)
              have htot : e * L.sz + cap * L.sz ≤ L.tot * L.sz := by rw [← Nat.add_mul]; exact Nat.mul_le_mul_right _ g7
              have hcapn : n * L.sz + r2.n * L.sz ≤ cap * L.sz := by rw [← Nat.add_mul]; exact Nat.mul_le_mul_right _ hfit
              have hnl : (rowCells ks.length r2.n v2).length = r2.n * L.sz := by rw [rowCells_length, b2]
              have hin : L.off + e * L.sz + n * L.sz + (rowCells ks.length r2.n v2).length ≤ c.size := by rw [hnl]; omega
              have hrun := run_append_room_src (P := P) w st xt ty el ei ht hi L.b (L.off + e * L.sz) n cap cx r2.n _ (by rw [hsz]; exact hSrc) hfit (fun j hj => by
                  rw [hsz, ← b2]
                  simp [World.cell?, b9]; omega) (fun j hj => by simp [World.frozen?, b9])
              rw [hsz, ← b2] at hrun
              obtain ⟨c', d1, d2, d3, d4, d5⟩ := setCells_block (rowCells L.sz r2.n v2) (L.off + e * L.sz + n * L.sz) w c b9 (by rw [rowCells_length]; rw [hnl] at hin; exact hin)
              refine ⟨_, _, _, by rw [ha]; exact hrun, hm.replace (L' := L') hb hL rfl (fun _ => by omega) d4 (fun h => by omega) d5 ?_, hless, ?_, fun W0 hW _ h => below_setCells h (by rw [hW]; exact b8)⟩
              · refine ⟨happ.symm, b2, fun _ => ⟨rfl, by rw [happ]; simp only [L']; omega, fun ht => ⟨b8, c', T, d1, ?_⟩⟩, fun hn => ⟨(fun hf => by cases hf), ?_⟩, rfl⟩
                · simp only [L']
                  have : e * L.sz + (L.tot - e) * L.sz = L.tot * L.sz := by rw [← Nat.add_mul]; congr 1; simp only [L'] at ht; omega
                  omega
                · have hO : Owned mem ρ id L.b := ⟨L, _, hL, hb, rfl, .inl ⟨by omega, rfl⟩⟩
                  have hok : ∀ b, okB mem ρ w b → okB (mem.set id none ++ [some (.row ks true ((winOf r0 e n).app r2))]) (fun i => if i = mem.length then some L' else if i = id then none else ρ i) (w.setCells L.b (L.off + e * L.sz + n * L.sz) (rowCells L.sz r2.n v2)) b ∧ (w.setCells L.b (L.off + e * L.sz + n * L.sz) (rowCells L.sz r2.n v2)).heap[b]? = w.heap[b]? := by
                    intro b hb'
                    refine ⟨⟨by rw [d5]; exact hb'.1, fun i ⟨K, blk, m1, m3, m4, m2⟩ => ?_⟩, d4 b fun e' => hb'.2 id (e' ▸ hO)⟩
                    rcases get_snoc m3 with ⟨m5, m6⟩ | ⟨m5, _⟩
                    · rcases get_set m5 with ⟨m7, m8⟩ | ⟨_, m8, _⟩
                      · have hne : i ≠ mem.length := by simp at m6; omega
                        simp only [hne, m7, if_false] at m1
                        exact hb'.2 i ⟨K, blk, m1, m8, m4, m2⟩
                      · cases m8
                    · rw [m5, hlen] at m1
                      simp at m1
                      subst m1
                      exact hb'.2 id ((Loc.foot_s0 rfl m2).2 ▸ hO)
                  simp only [L']
                  refine .mk (fun e' j => if e' < n then v1 e' j else v2 (e' - n) j) (fun e' j k he hk => ?_) (fun e' j k he hk => ?_)
                  · rw [happ] at he
                    have hj : j < ks.length := (List.getElem?_eq_some_iff.1 hk).1
                    simp only [World.cell?, d1, Option.isSome_none, Bool.false_eq_true, if_false, d3]
                    rw [b2]
                    by_cases hen : e' < n
                    · have hlt : e' * ks.length + j < n * ks.length := by
                        have : (e' + 1) * ks.length ≤ n * ks.length := Nat.mul_le_mul_right _ (by omega)
                        rw [Nat.add_mul] at this
                        omega
                      rw [if_neg (by omega), if_pos hen]
                      have := q2 _ _ (rowCells_get hen hj)
                      simpa [World.cell?, b9, Nat.add_assoc] using this
                    · have hge2 : n * ks.length ≤ e' * ks.length := Nat.mul_le_mul_right _ (by omega)
                      have hlt : e' * ks.length + j < (n + r2.n) * ks.length := by
                        have : (e' + 1) * ks.length ≤ (n + r2.n) * ks.length := Nat.mul_le_mul_right _ (by omega)
                        rw [Nat.add_mul, Nat.one_mul] at this
                        omega
                      rw [Nat.add_mul] at hlt
                      rw [if_pos (by rw [rowCells_length]; omega), if_neg hen]
                      rw [show L.off + e * ks.length + e' * ks.length + j - (L.off + e * ks.length + n * ks.length) = (e' - n) * ks.length + j by rw [Nat.sub_mul]; omega]
                      exact rowCells_get (by omega) hj
                  · rw [happ] at he
                    by_cases hen : e' < n
                    · rw [if_pos hen]
                      exact ((q1 e' j k hen hk).app_l (by rw [winOf_n]; exact hen)).mono hok
                    · rw [if_neg hen]
                      refine CellR.app_r (by rw [winOf_n]; omega) ?_
                      rw [winOf_n]
                      exact (hv2 (e' - n) j k (by omega) hk).mono hok
              · rw [ha] at hV
                simpa [Loc.adr] using hV
          · -- a new row
            obtain ⟨ρ1, k1, k2, k3, _⟩ := hm.kill (id := id) (fun _ _ _ h => by rw [hb] at h; cases h)
            have hSrc' := hSrc
            obtain ⟨K, cv, w', m1, m2, m3, m4⟩ := append_grow (P := P) (ty := ty) (mem := mem.set id none) (ρ := ρ1) k2 hB ht hi hz hsz hzo hbytes (base := a) (n := n) (cap := cap) (r1 := winOf r0 e n) (v1 := v1) winOf_n (by
              rw [hsz]
              rcases Nat.eq_zero_or_pos n with h0 | h0
              · subst h0
                have : rowCells ks.length 0 v1 = [] := by simp [rowCells]
                rw [this]
                cases a with
                | none => exact run_firstCells_none _ _ _ _ _
                | some a => exact run_firstCells_some _ _ 0 _ _ _ [] (by simp) (fun j v hv => by simp at hv)
              · rw [g5 h0]
                refine run_firstCells_some w.drew _ n _ _ _ _ rowCells_length (fun j v hv => ?_)
                have := q2 j v hv
                rw [← b2] at this
                simp only [Loc.adr, Addr.add_lit]
                simpa using this) (fun e' j k he hk => (q1 e' j k he hk).mono fun b hb' => ⟨k3 b hb', rfl⟩) hSrc' (fun e' j k he hk => (hv2 e' j k he hk).mono fun b hb' => ⟨k3 b hb', rfl⟩) (by omega) hbound
            rw [hlen] at m2
            refine ⟨_, cv, w', m1, m2, fun i hi => ?_, by have := m3 (mem.length + 1) (by omega); rw [hlen] at this; exact this, fun W0 _ h1 h2 => m4 W0 h1 h2⟩
            have := k1 i
            rcases this with h1 | h1 | ⟨X, o, sb, h1, h2, h3⟩
            · exact .inl ((Map.snoc_old hi).trans h1)
            · exact .inr (.inl ((Map.snoc_old hi).trans h1))
            · exact .inr (.inr ⟨X, o, sb, h1, (Map.snoc_old hi).trans h2, h3⟩)
      · cases hd
    · cases hd
  · cases hd
end
end Go.Ev

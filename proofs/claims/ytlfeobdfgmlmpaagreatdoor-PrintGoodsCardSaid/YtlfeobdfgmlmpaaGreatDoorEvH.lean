/- A store into a box or a row keeps the relation. No conditions. -/
import Derived.Test.YtlfeobdfgmlmpaaGreatDoorEvG
namespace Go.Ev
open Go.RowKit

theorem same_eq {a b : IntKind} (h : IntKind.same a b = true) : a = b := by cases a <;> cases b <;> first | rfl | simp [IntKind.same] at h

mutual
theorem ckEq_eq : ∀ {a b : CK}, ckEq a b = true → a = b
  | .int k, .int k', h => congrArg CK.int (same_eq (by simpa [ckEq] using h))
  | .bool, .bool, _ => rfl
  | .str, .str, _ => rfl
  | .slice a, .slice b, h => congrArg CK.slice (cksEq_eq (by simpa [ckEq] using h))
  | .int _, .bool, h => by simp [ckEq] at h
  | .int _, .str, h => by simp [ckEq] at h
  | .int _, .slice _, h => by simp [ckEq] at h
  | .int _, .other, h => by simp [ckEq] at h
  | .bool, .int _, h => by simp [ckEq] at h
  | .bool, .str, h => by simp [ckEq] at h
  | .bool, .slice _, h => by simp [ckEq] at h
  | .bool, .other, h => by simp [ckEq] at h
  | .str, .int _, h => by simp [ckEq] at h
  | .str, .bool, h => by simp [ckEq] at h
  | .str, .slice _, h => by simp [ckEq] at h
  | .str, .other, h => by simp [ckEq] at h
  | .slice _, .int _, h => by simp [ckEq] at h
  | .slice _, .bool, h => by simp [ckEq] at h
  | .slice _, .str, h => by simp [ckEq] at h
  | .slice _, .other, h => by simp [ckEq] at h
  | .other, _, h => by simp [ckEq] at h
theorem cksEq_eq : ∀ {a b : List CK}, cksEq a b = true → a = b
  | [], [], _ => rfl
  | a :: as, b :: bs, h => by
    simp only [cksEq, Bool.and_eq_true] at h
    rw [ckEq_eq h.1, cksEq_eq h.2]
  | [], _ :: _, h => by simp [cksEq] at h
  | _ :: _, [], h => by simp [cksEq] at h
end

section
variable {P : Program} {mem mem' : List (Option Blk)} {ρ ρ' : Map} {B : Nat} {w w' : World}

theorem hit (e j : Nat) : (Nat.beq e e && Nat.beq j j) = true := by simp
theorem miss {e j e' j' : Nat} (h : e' ≠ e ∨ j' ≠ j) : (Nat.beq e' e && Nat.beq j' j) = false := by
  rcases h with h | h
  · have : Nat.beq e' e = false := by
      cases hb : Nat.beq e' e with
      | false => rfl
      | true => exact absurd (Nat.eq_of_beq_eq_true hb) h
    simp [this]
  · have : Nat.beq j' j = false := by
      cases hb : Nat.beq j' j with
      | false => rfl
      | true => exact absurd (Nat.eq_of_beq_eq_true hb) h
    simp [this]

theorem CellR.congr {ok : Nat → Prop} {k : CK} {r r' : Row} {e j : Nat} {v : Value} (hI : r'.I e j = r.I e j) (hB : r'.B e j = r.B e j) (hS : r'.S e j = r.S e j) (hR : r'.R e j = r.R e j) (h : CellR ok w k r e j v) : CellR ok w k r' e j v := by
  cases h with
  | int => rw [← hI]; exact .int
  | bool => rw [← hB]; exact .bool
  | str => rw [← hS]; exact .str
  | slice0 h1 => exact .slice0 (by rw [hR]; exact h1)
  | slice h1 h2 h3 h4 => exact .slice (by rw [hR]; exact h1) h2 h3 (by rw [hR]; exact h4)

theorem CellR.setI {ok : Nat → Prop} {k : CK} {r : Row} {e j e' j' : Nat} {x : Int} {v : Value} (hne : e' ≠ e ∨ j' ≠ j) (h : CellR ok w k r e' j' v) : CellR ok w k (r.setI e j x) e' j' v :=
  CellR.congr (r := r) (r' := r.setI e j x) (by simp only [Row.setI, Row.I, miss hne, cond_false]) rfl rfl rfl h
theorem CellR.setB {ok : Nat → Prop} {k : CK} {r : Row} {e j e' j' : Nat} {x : Bool} {v : Value} (hne : e' ≠ e ∨ j' ≠ j) (h : CellR ok w k r e' j' v) : CellR ok w k (r.setB e j x) e' j' v :=
  CellR.congr (r := r) (r' := r.setB e j x) rfl (by simp only [Row.setB, Row.B, miss hne, cond_false]) rfl rfl h
theorem CellR.setS {ok : Nat → Prop} {k : CK} {r : Row} {e j e' j' : Nat} {x : ByteArray} {v : Value} (hne : e' ≠ e ∨ j' ≠ j) (h : CellR ok w k r e' j' v) : CellR ok w k (r.setS e j x) e' j' v :=
  CellR.congr (r := r) (r' := r.setS e j x) rfl rfl (by simp only [Row.setS, Row.S, miss hne, cond_false]) rfl h
theorem CellR.setR {ok : Nat → Prop} {k : CK} {r : Row} {e j e' j' : Nat} {x : Row} {v : Value} (hne : e' ≠ e ∨ j' ≠ j) (h : CellR ok w k r e' j' v) : CellR ok w k (r.setR e j x) e' j' v :=
  CellR.congr (r := r) (r' := r.setR e j x) rfl rfl rfl (by simp only [Row.setR, Row.R, miss hne, cond_false]) h

/-- What a write of cells leaves: of the rest of the memory it only makes blocks read-only. -/
structure Kept (mem : List (Option Blk)) (ρ : Map) (w : World) (mem1 : List (Option Blk)) (ρ1 : Map) : Prop where
  less : ∀ i, Less ρ ρ1 i
  len : mem1.length = mem.length
  ok : ∀ b, okB mem ρ w b → okB mem1 ρ1 w b
  blk : ∀ id : Nat, (mem1[id]? = mem[id]? ∧ ρ1 id = ρ id) ∨ ∃ ks r, mem1[id]? = some (some (.row ks false r))

theorem Less.refl (ρ : Map) (i : Nat) : Less ρ ρ i := .inl rfl
theorem Less.trans {a b c : Map} {i : Nat} (h : Less a b i) (k : Less b c i) : Less a c i := by
  rcases k with k | k | ⟨L, o, sb, k1, k2, k3⟩
  · rcases h with h | h | ⟨M, o, sb, h1, h2, h3⟩
    · exact .inl (k.trans h)
    · exact .inr (.inl (k.trans h))
    · exact .inr (.inr ⟨M, o, sb, h1, k.trans h2, h3⟩)
  · exact .inr (.inl k)
  · rcases h with h | h | ⟨M, o', sb', h1, h2, h3⟩
    · exact .inr (.inr ⟨L, o, sb, h ▸ k1, k2, k3⟩)
    · rw [h] at k1; cases k1
    · rw [h2] at k1
      cases k1
      exact .inr (.inr ⟨M, o, sb, h1, k2, fun hf => h3 (k3 hf)⟩)

theorem Kept.refl (mem : List (Option Blk)) (ρ : Map) (w : World) : Kept mem ρ w mem ρ := ⟨Less.refl ρ, rfl, fun _ h => h, fun _ => .inl ⟨rfl, rfl⟩⟩
theorem Kept.trans {m1 m2 : List (Option Blk)} {ρ1 ρ2 : Map} (h : Kept mem ρ w m1 ρ1) (k : Kept m1 ρ1 w m2 ρ2) : Kept mem ρ w m2 ρ2 :=
  ⟨fun i => (h.less i).trans (k.less i), k.len.trans h.len, fun b hb => k.ok b (h.ok b hb), fun id => by
    rcases k.blk id with ⟨k1, k2⟩ | k1
    · rcases h.blk id with ⟨h1, h2⟩ | ⟨ks, r, h1⟩
      · exact .inl ⟨k1.trans h1, k2.trans h2⟩
      · exact .inr ⟨ks, r, k1.trans h1⟩
    · exact .inr k1⟩

theorem setCell1_sound {mem1 : List (Option Blk)} {r r1 : Row} {e j : Nat} {ck : CK} {x c : Value} (h : setCell1 mem r e j ck x = some (r1, mem1)) (hm : MemR mem ρ B w) (hv : V ρ mem.length x c) :
    ∃ ρ1, Kept mem ρ w mem1 ρ1 ∧ MemR mem1 ρ1 B w ∧ r1.n = r.n ∧ (∀ (ok : Nat → Prop) (w' : World) (k : CK) (e' j' : Nat) (v : Value), (e' ≠ e ∨ j' ≠ j) → CellR ok w' k r e' j' v → CellR ok w' k r1 e' j' v) ∧ CellR (okB mem1 ρ1 w) w ck r1 e j c := by
  unfold setCell1 at h
  split at h
  · rename_i k k' n
    split at h
    · rename_i hs
      cases h
      cases same_eq hs
      cases hv
      refine ⟨ρ, .refl .., hm, rfl, fun _ _ _ _ _ _ hne hc => hc.setI hne, ?_⟩
      have : (r.setI e j n).I e j = n := by simp only [Row.setI, Row.I, hit, cond_true]
      rw [← this]
      have h2 := @CellR.int (okB mem ρ w) w k (r.setI e j n) e j
      rw [this] at h2 ⊢
      exact h2
    · cases h
  · rename_i b
    cases h
    cases hv
    refine ⟨ρ, .refl .., hm, rfl, fun _ _ _ _ _ _ hne hc => hc.setB hne, ?_⟩
    have : (r.setB e j b).B e j = b := by simp only [Row.setB, Row.B, hit, cond_true]
    have h2 := @CellR.bool (okB mem ρ w) w (r.setB e j b) e j
    rw [this] at h2
    exact h2
  · rename_i s
    cases h
    cases hv
    refine ⟨ρ, .refl .., hm, rfl, fun _ _ _ _ _ _ hne hc => hc.setS hne, ?_⟩
    have : (r.setS e j s).S e j = s := by simp only [Row.setS, Row.S, hit, cond_true]
    have h2 := @CellR.str (okB mem ρ w) w (r.setS e j s) e j
    rw [this] at h2
    exact h2
  · cases h
    cases hv
    refine ⟨ρ, .refl .., hm, rfl, fun _ _ _ _ _ _ hne hc => hc.setR hne, .slice0 ?_⟩
    simp only [Row.setR, Row.R, hit, cond_true, Row.n]
  · rename_i sub id e' len
    split at h
    · rename_i ks own s hb
      split at h
      · rename_i hks
        cases cksEq_eq hks
        cases h
        obtain ⟨ρ1, f1, f2, f3, f4, f5⟩ := hm.freeze hb
        obtain ⟨L, hL, hbr⟩ := hm.blk _ _ hb
        refine ⟨ρ1, ⟨f1, by simp, f4, fun i => ?_⟩, f3, rfl, fun _ _ _ _ _ _ hne hc => hc.setR hne, ?_⟩
        · by_cases hi : i = id
          · subst hi
            have hlt : i < mem.length := (List.getElem?_eq_some_iff.1 hb).1
            exact .inr ⟨sub, s, by simp [hlt]⟩
          · exact .inl ⟨by rw [List.getElem?_set_ne (fun e => hi e.symm)], f2 i hi⟩
        · have hR : (r.setR e j (winOf s e' len)).R e j = winOf s e' len := by simp only [Row.setR, Row.R, hit, cond_true]
          cases hv with
          | sliceDead h1 h2 => exact absurd h2 (live_of hm hb)
          | @slice _ _ _ M a cap h1 h2 h3 h4 h5 h6 =>
            rw [hL] at h2
            cases h2
            rcases Nat.eq_zero_or_pos len with h0 | h0
            · subst h0
              exact .slice0 (by rw [hR, winOf_n])
            · rw [h5 h0]
              have hn : 0 < s.n := by have := hbr.1; omega
              refine .slice (by rw [hR, winOf_n]) h4 (f5 L hL (by omega)) ?_
              rw [hR]
              have h7 := ((hbr.2.2.2.1 hn).2.mono (fun b hb => ⟨f4 b hb, rfl⟩) rfl : Rds _ w _ s L.b L.off).winOf (e0 := e') (n := len) (by have := hbr.1; omega)
              rw [← hbr.2.1] at h7
              exact h7
      · cases h
    · cases h
  · cases h

theorem setCells_sound {e : Nat} : ∀ (xs : List Value) (mem mem1 : List (Option Blk)) (ρ : Map) (r r1 : Row) (j : Nat) (ks : List CK) (cs : List Value), setCells mem r e j ks xs = some (r1, mem1) → MemR mem ρ B w → cs.length = xs.length →
    (∀ (i : Nat) (x c : Value), xs[i]? = some x → cs[i]? = some c → V ρ mem.length x c) →
    ∃ ρ1, Kept mem ρ w mem1 ρ1 ∧ MemR mem1 ρ1 B w ∧ r1.n = r.n ∧ xs.length ≤ ks.length ∧
      (∀ (ok : Nat → Prop) (w' : World) (k : CK) (e' j' : Nat) (v : Value), (e' ≠ e ∨ j' < j ∨ j + xs.length ≤ j') → CellR ok w' k r e' j' v → CellR ok w' k r1 e' j' v) ∧
      ∀ (i : Nat) (k : CK) (c : Value), ks[i]? = some k → cs[i]? = some c → CellR (okB mem1 ρ1 w) w k r1 e (j + i) c
  | [], mem, mem1, ρ, r, r1, j, ks, cs, h, hm, hl, hv => by
    have : r = r1 ∧ mem = mem1 := by
      cases ks <;> simp [setCells] at h <;> exact h
    obtain ⟨rfl, rfl⟩ := this
    have hcs : cs = [] := by simpa using hl
    subst hcs
    exact ⟨ρ, .refl .., hm, rfl, by simp, fun _ _ _ _ _ _ _ hc => hc, fun i k c _ hc => by simp at hc⟩
  | x :: xs, mem, mem1, ρ, r, r1, j, [], cs, h, hm, hl, hv => by simp [setCells] at h
  | x :: xs, mem, mem1, ρ, r, r1, j, ck :: ks, [], h, hm, hl, hv => by simp at hl
  | x :: xs, mem, mem1, ρ, r, r1, j, ck :: ks, c :: cs, h, hm, hl, hv => by
    simp only [setCells] at h
    split at h
    · rename_i r2 mem2 h1
      obtain ⟨ρ2, g1, g2, g3, g4, g5⟩ := setCell1_sound h1 hm (hv 0 x c rfl rfl)
      obtain ⟨ρ1, k1, k2, k3, k4, k5, k6⟩ := setCells_sound xs mem2 mem1 ρ2 r2 r1 (j + 1) ks cs h g2 (by simpa using hl) (fun i x' c' hx hc => by
        have := hv (i + 1) x' c' (by simpa using hx) (by simpa using hc)
        rw [g1.len]
        exact this.mono (Nat.le_refl _) fun id _ => g1.less id)
      refine ⟨ρ1, g1.trans k1, k2, k3.trans g3, by simpa using k4, fun ok w' k e' j' v hne hc => k5 ok w' k e' j' v ?_ (g4 ok w' k e' j' v ?_ hc), fun i k c' hk hc => ?_⟩
      · rcases hne with h0 | h0 | h0
        · exact .inl h0
        · exact .inr (.inl (by omega))
        · exact .inr (.inr (by simp at h0; omega))
      · rcases hne with h0 | h0 | h0
        · exact .inl h0
        · exact .inr (by omega)
        · exact .inr (by simp at h0; omega)
      · cases i with
        | zero =>
          simp at hk hc
          subst hk; subst hc
          exact k5 _ _ _ _ _ _ (.inr (.inl (by omega))) (g5.mono fun b hb => ⟨k1.ok b hb, rfl⟩)
        | succ i =>
          simp at hk hc
          have := k6 i k c' hk hc
          rw [show j + (i + 1) = j + 1 + i by omega]
          exact this
    · cases h
end
end Go.Ev

/- Data go into a call and come out of it. No conditions. -/
import Derived.Test.YtlfeobdfgmlmpaaGreatDoorEvL
namespace Go.Ev
open Go.RowKit

/-- A function gives F of its arguments as data, in all worlds that come after wb: it leaves what was there, and its results lie in new memory. -/
def DenAt (P : Program) (wb : World) (f : FuncId) (F : List D → Option (Bool × List D)) : Prop :=
  ∀ (ds rs : List D), F ds = some (true, rs) → ∀ (w : World), Below wb.heap.size wb w → ∀ (args : List Value) (vs : List Value) (mem : List (Option Blk)) (ρ : Map), fromDs false ds [] = some (vs, mem) → MemR mem ρ w.heap.size w → vs.length = args.length →
    (∀ (i : Nat) (x c : Value), vs[i]? = some x → args[i]? = some c → V ρ mem.length x c) →
    Calls P f ⟨args⟩ w fun e w' => ∃ cv, e = .returned cv ∧ Below w.heap.size w w' ∧ ∃ us mem' ρ', fromDs true rs [] = some (us, mem') ∧ MemR mem' ρ' w.heap.size w' ∧ V ρ' mem'.length (tupV us) cv

/-- In all worlds that come after one of which W holds. -/
def DenW (P : Program) (W : World → Prop) (f : FuncId) (F : List D → Option (Bool × List D)) : Prop := ∀ wb, W wb → DenAt P wb f F

/-- In all worlds. -/
def Den (P : Program) (f : FuncId) (F : List D → Option (Bool × List D)) : Prop := ∀ wb, DenAt P wb f F

theorem Den.at {P : Program} {f : FuncId} {F : List D → Option (Bool × List D)} (h : Den P f F) (W : World → Prop) : DenW P W f F := fun wb _ => h wb
theorem DenW.mono {P : Program} {W W' : World → Prop} {f : FuncId} {F : List D → Option (Bool × List D)} (h : DenW P W f F) (hW : ∀ w, W' w → W w) : DenW P W' f F := fun wb hw => h wb (hW wb hw)
theorem DenAt.later {P : Program} {wb w : World} {f : FuncId} {F : List D → Option (Bool × List D)} (h : DenAt P wb f F) (hb : Below wb.heap.size wb w) : DenAt P w f F := fun ds rs h1 w' hw' => h ds rs h1 w' (hb.trans (hw'.mono hb.size))

section
variable {P : Program} {mem mem' : List (Option Blk)} {ρ ρ' : Map} {B : Nat} {w w' : World}

/-- Pointwise. -/
def Vs (ρ : Map) (N : Nat) (xs cs : List Value) : Prop := xs.length = cs.length ∧ ∀ (i : Nat) (x c : Value), xs[i]? = some x → cs[i]? = some c → V ρ N x c

theorem Vs.nil {N : Nat} : Vs ρ N [] [] := ⟨rfl, fun i x c h => by simp at h⟩
theorem Vs.cons {N : Nat} {x c : Value} {xs cs : List Value} (h : V ρ N x c) (hs : Vs ρ N xs cs) : Vs ρ N (x :: xs) (c :: cs) :=
  ⟨by simp [hs.1], fun i y d hy hd => by
    cases i with
    | zero => simp at hy hd; subst hy; subst hd; exact h
    | succ i => exact hs.2 i y d (by simpa using hy) (by simpa using hd)⟩
theorem Vs.inv {N : Nat} {x : Value} {xs cs : List Value} (h : Vs ρ N (x :: xs) cs) : ∃ c cs', cs = c :: cs' ∧ V ρ N x c ∧ Vs ρ N xs cs' := by
  obtain ⟨h1, h2⟩ := h
  cases cs with
  | nil => simp at h1
  | cons c cs => exact ⟨c, cs, rfl, h2 0 x c rfl rfl, by simpa using h1, fun i y d hy hd => h2 (i + 1) y d (by simpa using hy) (by simpa using hd)⟩
theorem Vs.nil_inv {N : Nat} {cs : List Value} (h : Vs ρ N [] cs) : cs = [] := by simpa using h.1.symm
theorem Vs.mono {N N' : Nat} {xs cs : List Value} (hN : N ≤ N') (hρ : ∀ id, id < N → Less ρ ρ' id) (h : Vs ρ N xs cs) : Vs ρ' N' xs cs := ⟨h.1, fun i x c hx hc => (h.2 i x c hx hc).mono hN hρ⟩
theorem Vs.agg {N : Nat} {xs cs : List Value} (h : Vs ρ N xs cs) : V ρ N (.agg ⟨xs⟩) (.agg ⟨cs⟩) := .agg h.1 fun i x c hx hc => h.2 i x c (by simpa using hx) (by simpa using hc)
theorem Vs.tuple {N : Nat} {xs cs : List Value} (h : Vs ρ N xs cs) : V ρ N (.tuple ⟨xs⟩) (.tuple ⟨cs⟩) := .tuple h.1 fun i x c hx hc => h.2 i x c (by simpa using hx) (by simpa using hc)

def NonOwn (mem : List (Option Blk)) : Prop := ∀ (id : Nat) (b : Blk), mem[id]? = some (some b) → b.own = false

theorem NonOwn.ok (h : NonOwn mem) {b : Nat} (hb : b < w.heap.size) : okB mem ρ w b := ⟨hb, fun id ⟨_, blk, _, h1, h2, _⟩ => by rw [h id blk h1] at h2; cases h2⟩

theorem NonOwn.snoc (h : NonOwn mem) {b : Blk} (hb : b.own = false) : NonOwn (mem ++ [some b]) := by
  intro id c hc
  rcases get_snoc hc with ⟨h1, _⟩ | ⟨_, h1⟩
  · exact h id c h1
  · cases h1; exact hb

/-- One argument goes in. -/
theorem toD1_sound (hm : MemR mem ρ B w) {x c : Value} {ck : CK} {d : D} (h : toD1 ck mem x = some d) (hx : V ρ mem.length x c) {m1 : List (Option Blk)} {ρ1 : Map} (hm1 : MemR m1 ρ1 w.heap.size w) (hn : NonOwn m1) :
    ∃ v m2 ρ2, fromD1 false m1 d = some (v, m2) ∧ MemR m2 ρ2 w.heap.size w ∧ NonOwn m2 ∧ m1.length ≤ m2.length ∧ (∀ id, id < m1.length → ρ2 id = ρ1 id) ∧ V ρ2 m2.length v c := by
  unfold toD1 at h
  split at h
  · cases h
    cases hx
    refine ⟨_, _, Map.snoc ρ1 m1.length ⟨0, 0, (subOf ck).length, 0, 0, false, s0⟩, rfl, hm1.alloc (blk := .row (subOf ck) false .nil) (Below.refl _ _) (fun h => by cases h) ⟨rfl, rfl, (fun hf => by cases hf), fun h => by simp [Row.n] at h, rfl⟩, hn.snoc rfl, by simp, fun id hid => Map.snoc_old hid, ?_⟩
    exact .slice (L := ⟨0, 0, (subOf ck).length, 0, 0, false, s0⟩) (by simp) Map.snoc_new (by simp [Row.n]) (Nat.le_refl _) (fun h => by simp [Row.n] at h) (fun h => by cases h)
  · rename_i id e len
    split at h
    · rename_i b hb
      split at h
      case h_2 => cases h
      rename_i ks r hd
      cases h
      cases hx with
      | sliceDead g1 g2 => exact absurd g2 (live_of hm hb)
      | @slice _ _ _ L a cap g1 g2 g3 g4 g5 g6 =>
        obtain ⟨b1, b2, b4⟩ := BlkR.dat hm hb g2 hd
        let L' : Loc := ⟨L.b, L.off + e * L.sz, L.sz, 0, len, false, s0⟩
        have hn2 : NonOwn (m1 ++ [some (.row ks false (winOf r e len))]) := hn.snoc rfl
        refine ⟨_, _, Map.snoc ρ1 m1.length L', by simp only [fromD1]; rfl, hm1.alloc (blk := .row ks false (winOf r e len)) (Below.refl _ _) (fun h => by cases h) ⟨winOf_n.symm, b2, (fun hf => by cases hf), fun h0 => ⟨fun _ => hn2.ok (b4 (by rw [winOf_n] at h0; omega)).1, ?_⟩, rfl⟩, hn2, by simp, fun id hid => Map.snoc_old hid, ?_⟩
        · rw [winOf_n] at h0
          have := ((b4 (by omega)).2).winOf (e0 := e) (n := len) (by omega)
          rw [← b2] at this
          exact this.mono (fun b hb' => ⟨hn2.ok hb', rfl⟩) rfl
        · rw [winOf_n]
          refine .slice (L := L') (by simp) Map.snoc_new (by simp [L']) g4 (fun h0 => ?_) (fun h => by cases h)
          rw [g5 h0]
          simp [Loc.adr, L']
    · cases h
  · split at h
    · rename_i ha
      cases h
      have : c = x := hx.atom1_eq ha
      subst this
      exact ⟨c, m1, ρ1, by simp [fromD1, ha], hm1, hn, Nat.le_refl _, fun _ _ => rfl, V.refl1 ha⟩
    · cases h

theorem toD1s_sound (hm : MemR mem ρ B w) : ∀ (xs : List Value) (cks : List CK) (ds : List D) (cs : List Value), toD1s mem cks xs = some ds → Vs ρ mem.length xs cs → ∀ (m1 : List (Option Blk)) (ρ1 : Map), MemR m1 ρ1 w.heap.size w → NonOwn m1 →
    ∃ vs m2 ρ2, fromD1s false ds m1 = some (vs, m2) ∧ MemR m2 ρ2 w.heap.size w ∧ NonOwn m2 ∧ m1.length ≤ m2.length ∧ (∀ id, id < m1.length → ρ2 id = ρ1 id) ∧ Vs ρ2 m2.length vs cs
  | [], cks, ds, cs, h, hv, m1, ρ1, hm1, hn => by
    simp [toD1s] at h
    subst h
    rw [hv.nil_inv]
    exact ⟨[], m1, ρ1, rfl, hm1, hn, Nat.le_refl _, fun _ _ => rfl, .nil⟩
  | x :: xs, cks, ds, cs, h, hv, m1, ρ1, hm1, hn => by
    obtain ⟨c, cs', rfl, hx, hxs⟩ := hv.inv
    simp only [toD1s] at h
    split at h
    · rename_i d ds' hd hds
      cases h
      obtain ⟨v, m2, ρ2, k1, k2, k3, k4, k5, k6⟩ := toD1_sound hm hd hx hm1 hn
      obtain ⟨vs, m3, ρ3, l1, l2, l3, l4, l5, l6⟩ := toD1s_sound hm xs _ ds' cs' hds hxs m2 ρ2 k2 k3
      refine ⟨v :: vs, m3, ρ3, by simp [fromD1s, k1, l1], l2, l3, by omega, fun id hid => (l5 id (by omega)).trans (k5 id hid), .cons (k6.mono l4 fun id hid => .inl (l5 id hid)) l6⟩
    · cases h

theorem toD_sound (hm : MemR mem ρ B w) {x c : Value} {cks : List CK} {d : D} (h : toD cks mem x = some d) (hx : V ρ mem.length x c) {m1 : List (Option Blk)} {ρ1 : Map} (hm1 : MemR m1 ρ1 w.heap.size w) (hn : NonOwn m1) :
    ∃ v m2 ρ2, fromD false m1 d = some (v, m2) ∧ MemR m2 ρ2 w.heap.size w ∧ NonOwn m2 ∧ m1.length ≤ m2.length ∧ (∀ id, id < m1.length → ρ2 id = ρ1 id) ∧ V ρ2 m2.length v c := by
  unfold toD at h
  split at h
  · rename_i cs0
    split at h
    · rename_i ds hds
      cases h
      cases hx with
      | @agg _ ys h1 h2 =>
        obtain ⟨vs, m2, ρ2, k1, k2, k3, k4, k5, k6⟩ := toD1s_sound hm cs0.toList _ ds ys.toList hds ⟨by simpa using h1, fun i x c hx hc => h2 i x c (by simpa using hx) (by simpa using hc)⟩ m1 ρ1 hm1 hn
        exact ⟨.agg ⟨vs⟩, m2, ρ2, by simp [fromD, k1], k2, k3, k4, k5, k6.agg⟩
    · cases h
  · obtain ⟨v, m2, ρ2, k1, k2⟩ := toD1_sound hm h hx hm1 hn
    refine ⟨v, m2, ρ2, ?_, k2⟩
    rw [← k1]
    unfold toD1 at h
    split at h
    · cases h; rfl
    · split at h
      · split at h
        · cases h; rfl
        · cases h
      · cases h
    · split at h
      · cases h; rfl
      · cases h

theorem toDs_sound (hm : MemR mem ρ B w) : ∀ (xs : List Value) (ckss : List (List CK)) (ds : List D) (cs : List Value), toDs mem ckss xs = some ds → Vs ρ mem.length xs cs → ∀ (m1 : List (Option Blk)) (ρ1 : Map), MemR m1 ρ1 w.heap.size w → NonOwn m1 →
    ∃ vs m2 ρ2, fromDs false ds m1 = some (vs, m2) ∧ MemR m2 ρ2 w.heap.size w ∧ NonOwn m2 ∧ m1.length ≤ m2.length ∧ (∀ id, id < m1.length → ρ2 id = ρ1 id) ∧ Vs ρ2 m2.length vs cs
  | [], cks, ds, cs, h, hv, m1, ρ1, hm1, hn => by
    simp [toDs] at h
    subst h
    rw [hv.nil_inv]
    exact ⟨[], m1, ρ1, rfl, hm1, hn, Nat.le_refl _, fun _ _ => rfl, .nil⟩
  | x :: xs, cks, ds, cs, h, hv, m1, ρ1, hm1, hn => by
    obtain ⟨c, cs', rfl, hx, hxs⟩ := hv.inv
    simp only [toDs] at h
    split at h
    · rename_i d ds' hd hds
      cases h
      obtain ⟨v, m2, ρ2, k1, k2, k3, k4, k5, k6⟩ := toD_sound hm hd hx hm1 hn
      obtain ⟨vs, m3, ρ3, l1, l2, l3, l4, l5, l6⟩ := toDs_sound hm xs _ ds' cs' hds hxs m2 ρ2 k2 k3
      refine ⟨v :: vs, m3, ρ3, by simp [fromDs, k1, l1], l2, l3, by omega, fun id hid => (l5 id (by omega)).trans (k5 id hid), .cons (k6.mono l4 fun id hid => .inl (l5 id hid)) l6⟩
    · cases h

/-- What lies in a box of one cell. -/
theorem boxD_rds (hm : MemR mem ρ B w) {cells : List Value} {ks : List CK} {r : Row} (h : boxD mem cells = some (ks, r)) {b : Nat} {cc : Array Value} {T : TypeId} (hg : w.heap[b]? = some (.cells cc T (0, 0))) (hs : cc.size = cells.length)
    (hv : ∀ (j : Nat) (x y : Value), cells[j]? = some x → cc[j]? = some y → V ρ mem.length x y) {ok' : Nat → Prop} (hok : ∀ b, b < w.heap.size → ok' b) : r.n = 1 ∧ Rds ok' w ks r b 0 := by
  unfold boxD at h
  split at h
  · rename_i k n
    cases h
    have hs' : cc.size = 1 := hs
    obtain ⟨y, hy⟩ : ∃ y, cc[0]? = some y := ⟨cc[0], Array.getElem?_eq_getElem (by omega)⟩
    have hV := hv 0 _ y rfl hy
    cases hV
    refine ⟨rfl, .mk (fun _ _ => .int k n) (fun e j k' he hk => ?_) (fun e j k' he hk => ?_)⟩
    · change e < 1 at he
      cases j with
      | zero => obtain rfl : e = 0 := by omega
                simp [World.cell?, hg, hy]
      | succ j => simp at hk
    · cases j with
      | zero => simp at hk; subst hk; exact .int
      | succ j => simp at hk
  · rename_i id e len
    split at h
    · rename_i b2 hb
      split at h
      case h_2 => cases h
      rename_i ks2 r2 hd
      cases h
      have hs' : cc.size = 1 := hs
      obtain ⟨y, hy⟩ : ∃ y, cc[0]? = some y := ⟨cc[0], Array.getElem?_eq_getElem (by omega)⟩
      have hV := hv 0 _ y rfl hy
      cases hV with
      | sliceDead g1 g2 => exact absurd g2 (live_of hm hb)
      | @slice _ _ _ L a cap g1 g2 g3 g4 g5 g6 =>
        obtain ⟨b1, b2, b4⟩ := BlkR.dat hm hb g2 hd
        refine ⟨rfl, .mk (fun _ _ => .slice a len cap) (fun e' j k' he hk => ?_) (fun e' j k' he hk => ?_)⟩
        · change e' < 1 at he
          cases j with
          | zero => obtain rfl : e' = 0 := by omega
                    simp [World.cell?, hg, hy]
          | succ j => simp at hk
        · cases j with
          | succ j => simp at hk
          | zero =>
            simp at hk; subst hk
            by_cases h0 : len = 0
            · subst h0
              exact .slice0 winOf_n
            · rw [g5 (by omega)]
              have hR := ((b4 (by omega)).2).winOf (e0 := e) (n := len) (by omega)
              rw [← b2] at hR
              exact .slice winOf_n g4 (hok _ (b4 (by omega)).1) (hR.mono (fun b hb' => ⟨hok _ hb', rfl⟩) rfl)
    · cases h
  · cases h

theorem toDP_sound (hm : MemR mem ρ B w) {x c : Value} {cks : List CK} {d : D} (h : toDP cks mem x = some d) (hx : V ρ mem.length x c) {m1 : List (Option Blk)} {ρ1 : Map} (hm1 : MemR m1 ρ1 w.heap.size w) (hn : NonOwn m1) :
    ∃ v m2 ρ2, fromD false m1 d = some (v, m2) ∧ MemR m2 ρ2 w.heap.size w ∧ NonOwn m2 ∧ m1.length ≤ m2.length ∧ (∀ id, id < m1.length → ρ2 id = ρ1 id) ∧ V ρ2 m2.length v c := by
  unfold toDP at h
  split at h
  · rename_i id
    split at h
    · rename_i cells hb
      split at h
      · rename_i ks r hbx
        cases h
        obtain ⟨L, hL, hbr⟩ := hm.blk _ _ hb
        obtain ⟨b1, b2, b3, b4, cc, T, b5, b6, b7, _⟩ := hbr
        cases hx with
        | ptrDead g1 g2 => exact absurd g2 (live_of hm hb)
        | @ptr _ _ _ M g1 g2 g3 =>
          rw [hL] at g2
          cases g2
          let L' : Loc := ⟨L.b, 0, ks.length, 0, 1, false, s0⟩
          have hn2 : NonOwn (m1 ++ [some (.row ks false r)]) := hn.snoc rfl
          have hlt : L.b < w.heap.size := (Array.getElem?_eq_some_iff.1 b5).1
          obtain ⟨c1, c2⟩ := boxD_rds hm hbx b5 b6 b7 (ok' := okB (m1 ++ [some (.row ks false r)]) (Map.snoc ρ1 m1.length L') w) (fun b hb => hn2.ok hb)
          refine ⟨_, _, Map.snoc ρ1 m1.length L', rfl, hm1.alloc (blk := .row ks false r) (Below.refl _ _) (fun h => by cases h) ⟨c1.symm, rfl, (fun hf => by cases hf), fun h0 => ⟨fun _ => hn2.ok hlt, c2⟩, rfl⟩, hn2, by simp, fun id hid => Map.snoc_old hid, ?_⟩
          have := V.ptr (ρ := Map.snoc ρ1 m1.length L') (N := (m1 ++ [some (Blk.row ks false r)]).length) (id := m1.length) (e := 0) (j := 0) (L := L') (by simp) Map.snoc_new (by simp [L'])
          have hadr : L.adr 0 0 = L'.adr 0 0 := by simp [Loc.adr, L', b2]
          rw [hadr]
          exact this
      · cases h
    · cases h
  · exact toD_sound hm h hx hm1 hn

theorem toDP_of {cks : List CK} {x : Value} {d : D} (h : toD cks mem x = some d) : toDP cks mem x = some d := by
  unfold toDP
  split
  · simp [toD, toD1, atom1] at h
  · exact h
theorem toDsP_of : ∀ {xs : List Value} {ckss : List (List CK)} {ds : List D}, toDs mem ckss xs = some ds → toDsP mem ckss xs = some ds
  | [], ckss, ds, h => by simpa [toDs, toDsP] using h
  | x :: xs, ckss, ds, h => by
    simp only [toDs] at h
    split at h
    · rename_i d ds' hd hds
      cases h
      simp only [toDsP, toDP_of hd, toDsP_of hds]
    · cases h

theorem toDsP_sound (hm : MemR mem ρ B w) : ∀ (xs : List Value) (ckss : List (List CK)) (ds : List D) (cs : List Value), toDsP mem ckss xs = some ds → Vs ρ mem.length xs cs → ∀ (m1 : List (Option Blk)) (ρ1 : Map), MemR m1 ρ1 w.heap.size w → NonOwn m1 →
    ∃ vs m2 ρ2, fromDs false ds m1 = some (vs, m2) ∧ MemR m2 ρ2 w.heap.size w ∧ NonOwn m2 ∧ m1.length ≤ m2.length ∧ (∀ id, id < m1.length → ρ2 id = ρ1 id) ∧ Vs ρ2 m2.length vs cs
  | [], cks, ds, cs, h, hv, m1, ρ1, hm1, hn => by
    simp [toDsP] at h
    subst h
    rw [hv.nil_inv]
    exact ⟨[], m1, ρ1, rfl, hm1, hn, Nat.le_refl _, fun _ _ => rfl, .nil⟩
  | x :: xs, cks, ds, cs, h, hv, m1, ρ1, hm1, hn => by
    obtain ⟨c, cs', rfl, hx, hxs⟩ := hv.inv
    simp only [toDsP] at h
    split at h
    · rename_i d ds' hd hds
      cases h
      obtain ⟨v, m2, ρ2, k1, k2, k3, k4, k5, k6⟩ := toDP_sound hm hd hx hm1 hn
      obtain ⟨vs, m3, ρ3, l1, l2, l3, l4, l5, l6⟩ := toDsP_sound hm xs _ ds' cs' hds hxs m2 ρ2 k2 k3
      refine ⟨v :: vs, m3, ρ3, by simp [fromDs, k1, l1], l2, l3, by omega, fun id hid => (l5 id (by omega)).trans (k5 id hid), .cons (k6.mono l4 fun id hid => .inl (l5 id hid)) l6⟩
    · cases h

/-- A call by contract, of places that are read, too. -/
theorem DenAt.callP {wb : World} {f : FuncId} {F : List D → Option (Bool × List D)} (hF : DenAt P wb f F) (hw : Below wb.heap.size wb w) (hm : MemR mem ρ B w) {xs : List Value} {ckss : List (List CK)} {ds rs : List D} {cs : List Value} (hd : toDsP mem ckss xs = some ds) (hv : Vs ρ mem.length xs cs) (hr : F ds = some (true, rs)) :
    Calls P f ⟨cs⟩ w fun e w' => ∃ cv, e = .returned cv ∧ Below w.heap.size w w' ∧ ∃ us mem' ρ', fromDs true rs [] = some (us, mem') ∧ MemR mem' ρ' w.heap.size w' ∧ V ρ' mem'.length (tupV us) cv := by
  obtain ⟨vs, m2, ρ2, k1, k2, k3, k4, k5, k6⟩ := toDsP_sound hm xs _ ds cs hd hv [] (fun _ => none) ⟨fun id b h => by simp at h, fun _ _ => rfl, fun i j b h => by obtain ⟨_, _, h1, _⟩ := h; cases h1⟩ (fun id b h => by simp at h)
  exact hF ds rs hr w hw cs vs m2 ρ2 k1 k2 k6.1 k6.2

/-- A call by contract: what it takes. -/
theorem DenAt.call {wb : World} {f : FuncId} {F : List D → Option (Bool × List D)} (hF : DenAt P wb f F) (hw : Below wb.heap.size wb w) (hm : MemR mem ρ B w) {xs : List Value} {ckss : List (List CK)} {ds rs : List D} {cs : List Value} (hd : toDs mem ckss xs = some ds) (hv : Vs ρ mem.length xs cs) (hr : F ds = some (true, rs)) :
    Calls P f ⟨cs⟩ w fun e w' => ∃ cv, e = .returned cv ∧ Below w.heap.size w w' ∧ ∃ us mem' ρ', fromDs true rs [] = some (us, mem') ∧ MemR mem' ρ' w.heap.size w' ∧ V ρ' mem'.length (tupV us) cv := by
  obtain ⟨vs, m2, ρ2, k1, k2, k3, k4, k5, k6⟩ := toDs_sound hm xs _ ds cs hd hv [] (fun _ => none) ⟨fun id b h => by simp at h, fun _ _ => rfl, fun i j b h => by obtain ⟨_, _, h1, _⟩ := h; cases h1⟩ (fun id b h => by simp at h)
  exact hF ds rs hr w hw cs vs m2 ρ2 k1 k2 k6.1 k6.2
end
end Go.Ev

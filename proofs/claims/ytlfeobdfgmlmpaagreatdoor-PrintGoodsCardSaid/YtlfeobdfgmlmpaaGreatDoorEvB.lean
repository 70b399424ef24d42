/- How the evaluator's memory stands to the machine's: the relation, and how it is kept. No conditions. -/
import Derived.Test.YtlfeobdfgmlmpaaGreatDoorEvA
namespace Go.Ev
open Go.RowKit

/-- Where an abstract block lies: its block, its first cell, the cells of an element, how many elements there is room for, how many it has, whether it may be written, and the blocks of its slices. -/
structure Loc where
  b : Nat
  off : Nat
  sz : Nat
  tot : Nat
  n : Nat
  own : Bool
  sub : Nat → Nat → Option Nat

/-- No slices. -/
abbrev s0 : Nat → Nat → Option Nat := fun _ _ => none
/-- The blocks that may be written through it. -/
def Loc.foot (L : Loc) (b : Nat) : Prop := (0 < L.tot ∧ b = L.b) ∨ ∃ e j, L.sub e j = some b

def Loc.adr (L : Loc) (e j : Nat) : Addr := ⟨L.b, L.off + e * L.sz + j, none⟩

abbrev Map := Nat → Option Loc

/-- An abstract value, and a value of the machine's. -/
inductive V (ρ : Map) (N : Nat) : Value → Value → Prop
  | unk {v : Value} : V ρ N (.chan none) v
  | bool {b : Bool} : V ρ N (.bool b) (.bool b)
  | int {k : IntKind} {n : Int} : V ρ N (.int k n) (.int k n)
  | str {s : ByteArray} : V ρ N (.string s) (.string s)
  | ptrNil : V ρ N (.pointer none) (.pointer none)
  | nilFunc : V ρ N .nilFunc .nilFunc
  | nilIface : V ρ N .nilIface .nilIface
  | iface {s : TypeId} {b : Bool} {c : Value} : (b = true → ∃ t x, c = .iface t x) → (b = false → c = .nilIface) → V ρ N (.iface s (.bool b)) c
  | sliceNil {a : Option Addr} : V ρ N (.slice none 0 0) (.slice a 0 0)
  | mapDead {id : Nat} {r : Option Nat} : id < N → ρ id = none → V ρ N (.map (some id)) (.map r)
  | map {id : Nat} {L : Loc} : id < N → ρ id = some L → V ρ N (.map (some id)) (.map (some L.b))
  | ptrDead {id e : Nat} {s : Option Nat} {p : Addr} : id < N → ρ id = none → V ρ N (.pointer (some ⟨id, e, s⟩)) (.pointer (some p))
  | sliceDead {id e : Nat} {s : Option Nat} {n c : Nat} {a : Option Addr} {c' : Nat} : id < N → ρ id = none → V ρ N (.slice (some ⟨id, e, s⟩) n c) (.slice a n c')
  | ptr {id e j : Nat} {L : Loc} : id < N → ρ id = some L → e < L.n → V ρ N (.pointer (some ⟨id, e, some j⟩)) (.pointer (some (L.adr e j)))
  | slice {id e n : Nat} {L : Loc} {a : Option Addr} {cap : Nat} : id < N → ρ id = some L → e + n ≤ L.n → n ≤ cap → (0 < n → a = some (L.adr e 0)) → (L.own = true → e + cap ≤ L.tot ∧ (cap = 0 ∨ a = some (L.adr e 0))) → V ρ N (.slice (some ⟨id, e, some 0⟩) n 0) (.slice a n cap)
  | agg {xs ys : Array Value} : xs.size = ys.size → (∀ (i : Nat) (x y : Value), xs[i]? = some x → ys[i]? = some y → V ρ N x y) → V ρ N (.agg xs) (.agg ys)
  | tuple {xs ys : Array Value} : xs.size = ys.size → (∀ (i : Nat) (x y : Value), xs[i]? = some x → ys[i]? = some y → V ρ N x y) → V ρ N (.tuple xs) (.tuple ys)
  | func {fn : Fn} {xs ys us vs : Array Value} : xs.size = ys.size → (∀ (i : Nat) (x y : Value), xs[i]? = some x → ys[i]? = some y → V ρ N x y) → us.size = vs.size → (∀ (i : Nat) (x y : Value), us[i]? = some x → vs[i]? = some y → V ρ N x y) →
      V ρ N (.func fn xs us) (.func fn ys vs)

/-- What is known of a block's place may become less. -/
def Less (ρ ρ' : Map) (id : Nat) : Prop := ρ' id = ρ id ∨ ρ' id = none ∨ ∃ L o sub, ρ id = some L ∧ ρ' id = some { L with own := o, sub := sub } ∧ (o = true → L.own = true)

theorem V.mono {ρ ρ' : Map} {N N' : Nat} (hN : N ≤ N') (hρ : ∀ id, id < N → Less ρ ρ' id) {x y : Value} (h : V ρ N x y) : V ρ' N' x y := by
  induction h with
  | unk => exact .unk
  | bool => exact .bool
  | int => exact .int
  | str => exact .str
  | ptrNil => exact .ptrNil
  | nilFunc => exact .nilFunc
  | nilIface => exact .nilIface
  | iface h1 h2 => exact .iface h1 h2
  | sliceNil => exact .sliceNil
  | mapDead h1 h2 => exact .mapDead (by omega) (by rcases hρ _ h1 with h | h | ⟨L, _, _, h, _⟩ <;> simp_all)
  | @map id L h1 h2 =>
    rcases hρ _ h1 with h | h | ⟨M, o, sb, h, h', _⟩
    · exact .map (by omega) (h.trans h2)
    · exact .mapDead (by omega) h
    · rw [h2] at h
      cases h
      have h4 := V.map (ρ := ρ') (N := N') (Nat.lt_of_lt_of_le h1 hN) h'
      exact h4
  | ptrDead h1 h2 => exact .ptrDead (by omega) (by rcases hρ _ h1 with h | h | ⟨L, _, _, h, _⟩ <;> simp_all)
  | sliceDead h1 h2 => exact .sliceDead (by omega) (by rcases hρ _ h1 with h | h | ⟨L, _, _, h, _⟩ <;> simp_all)
  | @ptr id e j L h1 h2 h3 =>
    rcases hρ _ h1 with h | h | ⟨M, o, sb, h, h', _⟩
    · exact .ptr (by omega) (h.trans h2) h3
    · exact .ptrDead (by omega) h
    · rw [h2] at h
      cases h
      have h4 := V.ptr (ρ := ρ') (N := N') (j := j) (Nat.lt_of_lt_of_le h1 hN) h' h3
      exact h4
  | @slice id e n L a cap h1 h2 h3 h4 h5 h6 =>
    rcases hρ _ h1 with h | h | ⟨M, o, sb, h, h', ho⟩
    · exact .slice (by omega) (h.trans h2) h3 h4 h5 h6
    · exact .sliceDead (by omega) h
    · rw [h2] at h
      cases h
      have h7 := V.slice (ρ := ρ') (N := N') (e := e) (n := n) (a := a) (cap := cap) (Nat.lt_of_lt_of_le h1 hN) h' h3 h4 h5 (fun hf => h6 (ho hf))
      exact h7
  | agg h1 _ ih => exact .agg h1 ih
  | tuple h1 _ ih => exact .tuple h1 ih
  | func h1 _ h2 _ ih1 ih2 => exact .func h1 ih1 h2 ih2

theorem V.refl1 {ρ : Map} {N : Nat} {v : Value} (h : atom1 v = true) : V ρ N v v := by
  unfold atom1 at h
  split at h
  · exact .bool
  · exact .int
  · exact .str
  · exact .nilIface
  · exact .func rfl (fun i x y hx _ => by simp at hx) rfl (fun i x y hx _ => by simp at hx)
  · cases h
theorem V.atom1_eq {ρ : Map} {N : Nat} {x c : Value} (h : V ρ N x c) (ha : atom1 x = true) : c = x := by
  unfold atom1 at ha
  split at ha
  · cases h; rfl
  · cases h; rfl
  · cases h; rfl
  · cases h; rfl
  · cases h with
    | @func _ _ ys _ vs h1 _ h2 _ =>
      have e1 : ys = #[] := Array.eq_empty_of_size_eq_zero h1.symm
      have e2 : vs = #[] := Array.eq_empty_of_size_eq_zero h2.symm
      rw [e1, e2]
  · cases ha

theorem V.atom {ρ : Map} {N : Nat} {v : Value} (h : atom v = true) : V ρ N v v := by
  cases v with
  | bool b => exact .bool
  | int k n => exact .int
  | string s => exact .str
  | pointer p => cases p with
    | none => exact .ptrNil
    | some a => simp [Ev.atom] at h
  | slice a n c => cases a with
    | none =>
      match n, c, h with
      | 0, 0, _ => exact .sliceNil
    | some a => simp [Ev.atom] at h
  | nilFunc => exact .nilFunc
  | nilIface => exact .nilIface
  | agg cs =>
    refine .agg rfl fun i x y hx hy => ?_
    rw [hx] at hy
    cases hy
    simp only [Ev.atom, List.all_eq_true] at h
    have hm : x ∈ cs.toList := by
      rw [Array.getElem?_eq_some_iff] at hx
      obtain ⟨hi, rfl⟩ := hx
      simp
    have hx2 := h x hm
    cases x with
    | bool b => exact .bool
    | int k n => exact .int
    | string s => exact .str
    | pointer p => cases p with
      | none => exact .ptrNil
      | some a => simp at hx2
    | slice a n c => cases a with
      | none =>
        match n, c, hx2 with
        | 0, 0, _ => exact .sliceNil
      | some a => simp at hx2
    | nilFunc => exact .nilFunc
    | nilIface => exact .nilIface
    | _ => simp at hx2
  | tuple vs =>
    obtain ⟨l⟩ := vs
    cases l with
    | nil => exact .tuple rfl fun i x y hx _ => by simp at hx
    | cons a l => simp [Ev.atom] at h
  | _ => simp [Ev.atom] at h

/-! ### Rows in the machine's memory -/

mutual
inductive Rds (ok : Nat → Prop) (w : World) : List CK → Row → Nat → Nat → Prop
  | mk {ks : List CK} {r : Row} {b off : Nat} (v : Nat → Nat → Value) (h1 : ∀ e j k, e < r.n → ks[j]? = some k → w.cell? ⟨b, off + e * ks.length + j, none⟩ = some (v e j))
      (h2 : ∀ e j k, e < r.n → ks[j]? = some k → CellR ok w k r e j (v e j)) : Rds ok w ks r b off
inductive CellR (ok : Nat → Prop) (w : World) : CK → Row → Nat → Nat → Value → Prop
  | int {k : IntKind} {r : Row} {e j : Nat} : CellR ok w (.int k) r e j (.int k (r.I e j))
  | bool {r : Row} {e j : Nat} : CellR ok w .bool r e j (.bool (r.B e j))
  | str {r : Row} {e j : Nat} : CellR ok w .str r e j (.string (r.S e j))
  | slice0 {sub : List CK} {r : Row} {e j : Nat} {a : Option Addr} {cap : Nat} : (r.R e j).n = 0 → CellR ok w (.slice sub) r e j (.slice a 0 cap)
  | slice {sub : List CK} {r : Row} {e j b off n cap : Nat} : (r.R e j).n = n → n ≤ cap → ok b → Rds ok w sub (r.R e j) b off → CellR ok w (.slice sub) r e j (.slice (some ⟨b, off, none⟩) n cap)
end

theorem CellR.mono {ok ok' : Nat → Prop} {w w' : World} (hok : ∀ b, ok b → ok' b ∧ w'.heap[b]? = w.heap[b]?) {k : CK} {r : Row} {e j : Nat} {v : Value} (h : CellR ok w k r e j v) : CellR ok' w' k r e j v := by
  refine CellR.rec (ok := ok) (w := w) (motive_1 := fun ks r b off _ => w'.heap[b]? = w.heap[b]? → Rds ok' w' ks r b off) (motive_2 := fun k r e j v _ => CellR ok' w' k r e j v) ?_ ?_ ?_ ?_ ?_ ?_ h
  · intro ks r b off v h1 _ ih hb
    exact .mk v (fun e j k he hk => (World.cell?_of_block (a := ⟨b, off + e * ks.length + j, none⟩) hb).trans (h1 e j k he hk)) ih
  · intro k r e j; exact .int
  · intro r e j; exact .bool
  · intro r e j; exact .str
  · intro sub r e j a cap h1; exact .slice0 h1
  · intro sub r e j b off n cap h1 h2 h3 _ ih
    exact .slice h1 h2 (hok b h3).1 (ih (hok b h3).2)

theorem Rds.mono {ok ok' : Nat → Prop} {w w' : World} (hok : ∀ b, ok b → ok' b ∧ w'.heap[b]? = w.heap[b]?) {ks : List CK} {r : Row} {b off : Nat} (hb : w'.heap[b]? = w.heap[b]?) (h : Rds ok w ks r b off) : Rds ok' w' ks r b off := by
  cases h with
  | mk v h1 h2 => exact .mk v (fun e j k he hk => (World.cell?_of_block (a := ⟨b, off + e * ks.length + j, none⟩) hb).trans (h1 e j k he hk)) fun e j k he hk => (h2 e j k he hk).mono hok

/-! ### The whole state -/

def Blk.own : Blk → Bool
  | .box _ => true
  | .row _ o _ => o
  | .deep _ _ _ => true
  | .bor _ _ _ _ _ => false
  | .map _ _ _ => true

/-- The block b may be written through id. -/
def Owned (mem : List (Option Blk)) (ρ : Map) (id b : Nat) : Prop := ∃ L blk, ρ id = some L ∧ mem[id]? = some (some blk) ∧ blk.own = true ∧ L.foot b

def okB (mem : List (Option Blk)) (ρ : Map) (w : World) (b : Nat) : Prop := b < w.heap.size ∧ ∀ id, ¬ Owned mem ρ id b

/-- A slice of a deep row: what it holds, and its block. -/
def SubR (B : Nat) (w : World) (ks : List CK) (r : Row) (ob : Option Nat) (v : Value) : Prop :=
  ∃ a cap, v = .slice a r.n cap ∧ r.n ≤ cap ∧ ((cap = 0 ∧ ob = none) ∨ ∃ b off c T, ob = some b ∧ a = some ⟨b, off, none⟩ ∧ B ≤ b ∧ w.heap[b]? = some (.cells c T (0, 0)) ∧ off + cap * ks.length ≤ c.size ∧ Rds (fun _ => False) w ks r b off)

/-- A cell of a deep row. -/
def DCell (B : Nat) (w : World) (k : CK) (r : Row) (e j : Nat) (hole : Bool) (ob : Option Nat) (v : Value) : Prop :=
  match k with
  | .slice sub => flat sub = true ∧ v.oneCell' = true ∧ (hole = false → SubR B w sub (r.R e j) ob v)
  | k => CellR (fun _ => False) w k r e j v

def isHole (h : Option (Nat × Nat)) (e j : Nat) : Bool := match h with
  | some (e', j') => Nat.beq e e' && Nat.beq j j'
  | none => false

/-- What a map holds at a key. -/
def mget (z : Value) : List MapEntry → ByteArray → Value
  | [], _ => z
  | x :: xs, s => match x.key with
    | .string t => if t = s then x.val else mget z xs s
    | _ => z
/-- The zero of a map's elements, and what it holds, as values. -/
def mapV (k : CK) (I : ByteArray → Int) (Bo : ByteArray → Bool) : Option (Value × (ByteArray → Value)) := match k with
  | .int kd => some (.int kd 0, fun s => .int kd (I s))
  | .bool => some (.bool false, fun s => .bool (Bo s))
  | _ => none
def MapOk (k : CK) (I : ByteArray → Int) (Bo : ByteArray → Bool) (es : List MapEntry) : Prop := ∃ z f, mapV k I Bo = some (z, f) ∧ (∀ x ∈ es, ∃ s, x.key = .string s) ∧ ∀ s, mget z es s = f s

def BlkR (mem : List (Option Blk)) (ρ : Map) (w : World) (B : Nat) (L : Loc) : Blk → Prop
  | .box cells => B ≤ L.b ∧ L.off = 0 ∧ L.n = 1 ∧ 0 < L.tot ∧ ∃ (c : Array Value) (T : TypeId), w.heap[L.b]? = some (.cells c T (0, 0)) ∧ c.size = cells.length ∧
      (∀ (j : Nat) (x y : Value), cells[j]? = some x → c[j]? = some y → V ρ mem.length x y) ∧ L.sub = s0
  | .row ks own r => L.n = r.n ∧ L.sz = ks.length ∧ (own = true → L.own = true ∧ r.n ≤ L.tot ∧ (0 < L.tot → B ≤ L.b ∧ ∃ (c : Array Value) (T : TypeId), w.heap[L.b]? = some (.cells c T (0, 0)) ∧ L.off + L.tot * L.sz ≤ c.size)) ∧
      (0 < r.n → (own = false → okB mem ρ w L.b) ∧ Rds (okB mem ρ w) w ks r L.b L.off) ∧ L.sub = s0
  | .deep ks r h => L.n = r.n ∧ L.sz = ks.length ∧ L.own = true ∧ r.n ≤ L.tot ∧ (0 < L.tot → B ≤ L.b ∧ ∃ (c : Array Value) (T : TypeId), w.heap[L.b]? = some (.cells c T (0, 0)) ∧ L.off + L.tot * L.sz ≤ c.size) ∧
      (∀ e j k, e < r.n → ks[j]? = some k → ∃ v, w.cell? ⟨L.b, L.off + e * ks.length + j, none⟩ = some v ∧ DCell B w k r e j (isHole h e j) (L.sub e j) v) ∧
      (∀ e j b, L.sub e j = some b → e < r.n ∧ (∃ sub, ks[j]? = some (.slice sub)) ∧ isHole h e j = false ∧ b ≠ L.b) ∧
      ∀ e j e' j' b, L.sub e j = some b → L.sub e' j' = some b → e = e' ∧ j = j'
  | .bor p e j ks r => flat ks = true ∧ L.n = r.n ∧ L.sz = ks.length ∧ L.own = true ∧ L.sub = s0 ∧ ∃ Lp kps rp h a, mem[p]? = some (some (.deep kps rp h)) ∧ ρ p = some Lp ∧ e < rp.n ∧ kps[j]? = some (.slice ks) ∧ isHole h e j = false ∧ rp.R e j = r ∧ 0 < Lp.tot ∧
      w.cell? ⟨Lp.b, Lp.off + e * kps.length + j, none⟩ = some (.slice a r.n L.tot) ∧ (L.tot = 0 ∨ a = some ⟨L.b, L.off, none⟩)
  | .map k I Bo => B ≤ L.b ∧ 0 < L.tot ∧ L.sub = s0 ∧ ∃ (es : Array MapEntry) (clock : Nat), w.heap[L.b]? = some (.map es clock) ∧ MapOk k I Bo es.toList

/-- The memory. -/
structure MemR (mem : List (Option Blk)) (ρ : Map) (B : Nat) (w : World) : Prop where
  blk : ∀ (id : Nat) (b : Blk), mem[id]? = some (some b) → ∃ L, ρ id = some L ∧ BlkR mem ρ w B L b
  dead : ∀ (id : Nat), (∀ (b : Blk), mem[id]? ≠ some (some b)) → ρ id = none
  inj : ∀ (i j b : Nat), Owned mem ρ i b → Owned mem ρ j b → i = j

/-- The temporaries of one frame. -/
def TmpR (ρ : Map) (N : Nat) (τ : List Value) (ts : Array Value) : Prop := τ.length = ts.size ∧ ∀ (t : Nat) (x y : Value), τ[t]? = some x → ts[t]? = some y → V ρ N x y

def TmpsR (ρ : Map) (N : Nat) : List (List Value) → List (Array Value) → Prop
  | [], [] => True
  | τ :: τs, t :: ts => TmpR ρ N τ t ∧ TmpsR ρ N τs ts
  | _, _ => False

/-- The whole: w0 is the world in which the function was entered. -/
structure Rel (w0 : World) (σ : St) (a : Act) (cs : List (Array Value)) (w : World) (ρ : Map) : Prop where
  defers : a.defers = []
  tmps : TmpR ρ σ.mem.length σ.τ a.tmps
  saved : TmpsR ρ σ.mem.length σ.saved cs
  below : Below w0.heap.size w0 w
  mem : MemR σ.mem ρ w0.heap.size w

theorem TmpR.mono {ρ ρ' : Map} {N N' : Nat} (hN : N ≤ N') (hρ : ∀ id, id < N → Less ρ ρ' id) {τ : List Value} {ts : Array Value} (h : TmpR ρ N τ ts) : TmpR ρ' N' τ ts :=
  ⟨h.1, fun t x y hx hy => (h.2 t x y hx hy).mono hN hρ⟩

theorem TmpsR.mono {ρ ρ' : Map} {N N' : Nat} (hN : N ≤ N') (hρ : ∀ id, id < N → Less ρ ρ' id) : ∀ {τs : List (List Value)} {ts : List (Array Value)}, TmpsR ρ N τs ts → TmpsR ρ' N' τs ts
  | [], [], _ => trivial
  | _ :: _, _ :: _, h => ⟨h.1.mono hN hρ, TmpsR.mono hN hρ h.2⟩

theorem TmpR.getD {ρ : Map} {N : Nat} {τ : List Value} {ts : Array Value} (h : TmpR ρ N τ ts) (t : Nat) : V ρ N (τ.getD t unk) (ts.getD t undef) := by
  rw [List.getD_eq_getElem?_getD, Array.getD_eq_getD_getElem?]
  by_cases ht : t < τ.length
  · have ht' : t < ts.size := by have := h.1; omega
    have h1 : τ[t]? = some τ[t] := List.getElem?_eq_getElem ht
    have h2 : ts[t]? = some ts[t] := Array.getElem?_eq_getElem ht'
    rw [h1, h2]
    exact h.2 t _ _ h1 h2
  · rw [List.getElem?_eq_none (by omega)]
    exact .unk

theorem TmpR.env {ρ : Map} {N : Nat} {τ : List Value} {a : Act} (h : TmpR ρ N τ a.tmps) (x : Operand) : V ρ N (env τ x) (a.eval x) := by
  cases x with
  | tmp t => show V ρ N (getF τ t) _; rw [getF_eq]; exact h.getD t
  | const v =>
    show V ρ N (match atom v with | true => v | false => Ev.unk) v
    cases hv : atom v
    · exact .unk
    · exact V.atom hv
  | global g => exact .unk
  | func f => exact .func rfl (fun i x y hx _ => by simp at hx) rfl (fun i x y hx _ => by simp at hx)

theorem TmpR.set {ρ : Map} {N : Nat} {τ : List Value} {ts : Array Value} (h : TmpR ρ N τ ts) (t : Nat) {x y : Value} (hxy : V ρ N x y) : TmpR ρ N (τ.set t x) (ts.setIfInBounds t y) := by
  refine ⟨by simpa using h.1, fun u p q hp hq => ?_⟩
  rw [List.getElem?_set] at hp
  rw [Array.getElem?_setIfInBounds] at hq
  by_cases htu : t = u
  · subst htu
    simp only [if_true] at hp hq
    split at hp
    · split at hq
      · cases hp; cases hq; exact hxy
      · cases hq
    · cases hp
  · simp only [htu, if_false] at hp hq
    exact h.2 u p q hp hq

theorem Rel.put {w0 : World} {σ : St} {a : Act} {cs : List (Array Value)} {w : World} {ρ : Map} (h : Rel w0 σ a cs w ρ) (d : Option Tmp) {x y : Value} (hxy : V ρ σ.mem.length x y) : Rel w0 (σ.put d x) (a.put d y) cs w ρ := by
  cases d with
  | none => exact h
  | some t => exact ⟨h.defers, h.tmps.set t hxy, h.saved, h.below, h.mem⟩

theorem SubR.mono {B : Nat} {w w' : World} {ks : List CK} {r : Row} {ob : Option Nat} {v : Value} (hsame : ∀ b, ob = some b → w'.heap[b]? = w.heap[b]?) (h : SubR B w ks r ob v) : SubR B w' ks r ob v := by
  obtain ⟨a, cap, h1, h2, h3⟩ := h
  refine ⟨a, cap, h1, h2, ?_⟩
  rcases h3 with h3 | ⟨b, off, c, T, g1, g2, g3, g4, g5, g6⟩
  · exact .inl h3
  · have hb := hsame b g1
    exact .inr ⟨b, off, c, T, g1, g2, g3, hb.trans g4, g5, g6.mono (fun _ hf => hf.elim) hb⟩

theorem DCell.mono {B : Nat} {w w' : World} {k : CK} {r : Row} {e j : Nat} {hole : Bool} {ob : Option Nat} {v : Value} (hsame : ∀ b, ob = some b → w'.heap[b]? = w.heap[b]?) (h : DCell B w k r e j hole ob v) : DCell B w' k r e j hole ob v := by
  cases k with
  | slice sub => exact ⟨h.1, h.2.1, fun hh => (h.2.2 hh).mono hsame⟩
  | int k => exact CellR.mono (ok := fun _ => False) (fun _ hf => hf.elim) h
  | bool => exact CellR.mono (ok := fun _ => False) (fun _ hf => hf.elim) h
  | str => exact CellR.mono (ok := fun _ => False) (fun _ hf => hf.elim) h
  | other => exact CellR.mono (ok := fun _ => False) (fun _ hf => hf.elim) h

theorem BlkR.shape {mem : List (Option Blk)} {ρ : Map} {w : World} {B : Nat} {L : Loc} {b : Blk} {ks : List CK} {r : Row} (hr : BlkR mem ρ w B L b) (ho : rowOf b = some (ks, r)) : L.n = r.n ∧ L.sz = ks.length := by
  cases b with
  | box cells => cases ho
  | row ks' o r' => cases ho; exact ⟨hr.1, hr.2.1⟩
  | deep ks' r' h => cases ho; exact ⟨hr.1, hr.2.1⟩
  | bor p e j ks' r' => cases ho; exact ⟨hr.2.1, hr.2.2.1⟩
  | map _ _ _ => cases ho

/-- A deep row whose blocks have not turned. -/
theorem BlkR.deep_same {mem mem' : List (Option Blk)} {ρ ρ' : Map} {w w' : World} {B : Nat} {L : Loc} {ks : List CK} {r : Row} {h : Option (Nat × Nat)} (hsame : ∀ b, L.foot b → w'.heap[b]? = w.heap[b]?) (hr : BlkR mem ρ w B L (.deep ks r h)) : BlkR mem' ρ' w' B L (.deep ks r h) := by
  obtain ⟨h1, h2, h3, h4, h5, h6, h7, h8⟩ := hr
  refine ⟨h1, h2, h3, h4, fun ht => ?_, fun e j k he hk => ?_, h7, h8⟩
  · obtain ⟨g1, c, T, g2, g3⟩ := h5 ht
    exact ⟨g1, c, T, (hsame _ (.inl ⟨ht, rfl⟩)).trans g2, g3⟩
  · obtain ⟨v, g1, g2⟩ := h6 e j k he hk
    exact ⟨v, (World.cell?_of_block (a := ⟨L.b, L.off + e * ks.length + j, none⟩) (hsame _ (.inl ⟨by omega, rfl⟩))).trans g1, g2.mono fun b hb => hsame b (.inr ⟨e, j, hb⟩)⟩

/-- The blocks of a deep row lie in the memory. -/
theorem BlkR.deep_lt {mem : List (Option Blk)} {ρ : Map} {w : World} {B : Nat} {L : Loc} {ks : List CK} {r : Row} {h : Option (Nat × Nat)} (hr : BlkR mem ρ w B L (.deep ks r h)) {b : Nat} (hb : L.foot b) : b < w.heap.size ∧ B ≤ b := by
  obtain ⟨h1, h2, h3, h4, h5, h6, h7, h8⟩ := hr
  rcases hb with ⟨ht, rfl⟩ | ⟨e, j, hb⟩
  · obtain ⟨g1, c, T, g2, _⟩ := h5 ht
    exact ⟨(Array.getElem?_eq_some_iff.1 g2).1, g1⟩
  · obtain ⟨he, ⟨sub, hk⟩, hh, _⟩ := h7 e j b hb
    obtain ⟨v, _, g2⟩ := h6 e j _ he hk
    obtain ⟨a, cap, _, _, h3⟩ := g2.2.2 hh
    rcases h3 with ⟨_, h3⟩ | ⟨b', off, c, T, g3, g4, g5, g6, _⟩
    · rw [hb] at h3; cases h3
    · rw [hb] at g3
      cases g3
      exact ⟨(Array.getElem?_eq_some_iff.1 g6).1, g5⟩

/-- The deep row that a slice was borrowed of stands as it did. -/
def Upb (mem : List (Option Blk)) (ρ : Map) (w : World) (mem' : List (Option Blk)) (ρ' : Map) (w' : World) (blk : Blk) : Prop := ∀ p e j ks r, blk = .bor p e j ks r → ∀ kps rp hh Lp, mem[p]? = some (some (.deep kps rp hh)) → ρ p = some Lp →
  mem'[p]? = some (some (.deep kps rp hh)) ∧ ρ' p = some Lp ∧ (0 < Lp.tot → w'.heap[Lp.b]? = w.heap[Lp.b]?)

/-- A borrowed slice whose deep row has not turned. -/
theorem BlkR.bor_same {mem mem' : List (Option Blk)} {ρ ρ' : Map} {w w' : World} {B : Nat} {L : Loc} {p e j : Nat} {ks : List CK} {r : Row} (hup : Upb mem ρ w mem' ρ' w' (.bor p e j ks r)) (hr : BlkR mem ρ w B L (.bor p e j ks r)) : BlkR mem' ρ' w' B L (.bor p e j ks r) := by
  obtain ⟨h1, h2, h3, h4, h5, Lp, kps, rp, h, a, g1, g2, g3, g4, g5, g6, g0, g7, g8⟩ := hr
  obtain ⟨u1, u2, u3⟩ := hup p e j ks r rfl kps rp h Lp g1 g2
  exact ⟨h1, h2, h3, h4, h5, Lp, kps, rp, h, a, u1, u2, g3, g4, g5, g6, g0, (World.cell?_of_block (a := ⟨Lp.b, Lp.off + e * kps.length + j, none⟩) (u3 g0)).trans g7, g8⟩

/-- What lies below the heap's size has not turned: the memory stands as it did. -/
theorem MemR.later {mem : List (Option Blk)} {ρ : Map} {B : Nat} {w w' : World} (h : MemR mem ρ B w) (hb : Below w.heap.size w w') : MemR mem ρ B w' := by
  have hsame : ∀ b o, w.heap[b]? = some o → w'.heap[b]? = w.heap[b]? := fun b o ho => hb.block b (by rw [Array.getElem?_eq_some_iff] at ho; exact ho.1)
  have hok : ∀ b, okB mem ρ w b → okB mem ρ w' b ∧ w'.heap[b]? = w.heap[b]? := fun b ⟨h1, h2⟩ => ⟨⟨Nat.lt_of_lt_of_le h1 hb.size, h2⟩, hb.block b h1⟩
  refine ⟨fun id b hid => ?_, h.dead, h.inj⟩
  obtain ⟨L, hL, hr⟩ := h.blk id b hid
  refine ⟨L, hL, ?_⟩
  cases b with
  | box cells =>
    obtain ⟨h1, h2, h3, h4, c, T, h5, h6⟩ := hr
    exact ⟨h1, h2, h3, h4, c, T, (hsame _ _ h5).trans h5, h6⟩
  | deep ks r hole => exact BlkR.deep_same (fun b hf => hb.block b (BlkR.deep_lt hr hf).1) hr
  | map k I Bo =>
    obtain ⟨h1, h2, h3, es, c, h4, h5⟩ := hr
    exact ⟨h1, h2, h3, es, c, (hsame _ _ h4).trans h4, h5⟩
  | bor p e j ks r =>
    refine BlkR.bor_same (fun p' e' j' ks' r' _ kps rp hh Lp g1 g2 => ⟨g1, g2, fun ht => ?_⟩) hr
    obtain ⟨M, hM, hp⟩ := h.blk p' _ g1
    rw [g2] at hM
    cases hM
    exact hb.block _ (BlkR.deep_lt hp (.inl ⟨ht, rfl⟩)).1
  | row ks own r =>
    obtain ⟨h1, h2, h3, h4, h0⟩ := hr
    refine ⟨h1, h2, fun ho => ⟨(h3 ho).1, (h3 ho).2.1, fun ht => ?_⟩, fun hn => ⟨fun ho => (hok _ ((h4 hn).1 ho)).1, ?_⟩, h0⟩
    · obtain ⟨h5, c, T, h6, h7⟩ := (h3 ho).2.2 ht
      exact ⟨h5, c, T, (hsame _ _ h6).trans h6, h7⟩
    · have h5 := (h4 hn).2
      refine h5.mono hok ?_
      cases own with
      | false => exact (hok _ ((h4 hn).1 rfl)).2
      | true =>
        obtain ⟨_, c, T, h6, _⟩ := (h3 rfl).2.2 (by have := (h3 rfl).2.1; omega)
        exact hsame _ _ h6

theorem Rel.later {w0 : World} {σ : St} {a : Act} {cs : List (Array Value)} {w w' : World} {ρ : Map} (h : Rel w0 σ a cs w ρ) (hb : Below w.heap.size w w') : Rel w0 σ a cs w' ρ :=
  ⟨h.defers, h.tmps, h.saved, h.below.trans (hb.mono h.below.size), h.mem.later hb⟩

end Go.Ev

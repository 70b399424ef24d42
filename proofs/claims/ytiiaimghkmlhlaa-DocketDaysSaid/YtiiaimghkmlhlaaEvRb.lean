/- A region that draws its order, of operations with values that are definite and of stores into boxes: whatever order is drawn, the same comes out. No conditions. -/
import Derived.Test.YtiiaimghkmlhlaaEvRa
namespace Go.Ev
open Go Go.RowKit

section
variable {P : Program} {mem : List (Option Blk)}

theorem evPure_congr {α : Type} {mem mem' : List (Option Blk)} {f g : Operand → Value} {o : Oper} {xs : List Operand} (hx : opnds o.op = some xs) (hs : isSt o.op = false) (h : ∀ x, x ∈ xs → f x = g x) (hm : isLd o.op = true → mem'[adrId f o.op]? = mem[adrId f o.op]?) (k : Value → Option α) :
    evPure P mem' g o k = evPure P mem f o k := by
  unfold opnds at hx
  unfold evPure
  split at hx <;> (rename_i ho; cases hx)
  · simp only [ho]; rw [h _ (by simp)]
  · simp only [ho]; rw [h _ (by simp)]
  · rename_i t a
    simp only [ho]
    rw [← h a (by simp)]
    have e : loadV P mem' t (f a) = loadV P mem t (f a) := by
      have := hm (by simp [isLd, ho])
      simp only [ho, adrId] at this
      unfold loadV
      split
      · rename_i hp _ _
        rw [hp] at this
        simp only [idOf] at this
        rw [this]
      · rfl
    rw [e]
  · simp only [ho]; rw [h _ (by simp)]
  · simp only [ho]; rw [h _ (by simp), h _ (by simp)]
  · simp only [ho]; rw [h _ (by simp)]
  · simp only [ho]; rw [h _ (by simp)]
  · simp only [ho]; rw [h _ (by simp)]
  · simp only [ho]; rw [h _ (by simp)]
  · simp [isSt, ho] at hs

/-- One operation in the text's order. -/
def StepR (P : Program) (o : Oper) (v : Value) (σ σ1 : St) : Prop :=
  (isSt o.op = false ∧ evPure P σ.mem (env σ.τ) o some = some v ∧ σ1 = σ.put o.dst v) ∨
  (∃ t a x m, o.op = .store t a x ∧ inBox σ.mem (idOf (env σ.τ a)) = true ∧ storeV P σ.mem t (env σ.τ a) (env σ.τ x) = some m ∧ σ1 = { σ with mem := m })

theorem ordRun_spec {α : Type} {k : St → List Nat → Option α} {r : α} : ∀ (l : List Oper) (σ : St) (ids : List Nat), ordRun P l σ ids k = some r →
    ∃ (S : Nat → St) (v : Nat → Value) (ids' : List Nat), S 0 = σ ∧ (∀ i o, l[i]? = some o → StepR P o (v i) (S i) (S (i + 1))) ∧ (∀ i, i < ids.length → ids'.getD i 0 = ids.getD i 0) ∧
      (∀ i o, l[i]? = some o → ids'.getD (ids.length + i) 0 = adrId (env (S i).τ) o.op) ∧ k (S l.length) ids' = some r
  | [], σ, ids, h => ⟨fun _ => σ, fun _ => unk, ids, rfl, fun i o h => by simp at h, fun _ _ => rfl, fun i o h => by simp at h, h⟩
  | o :: rest, σ, ids, h => by
    have fin : ∀ (v0 : Value) (σ1 : St), StepR P o v0 σ σ1 → ordRun P rest σ1 (ids ++ [adrId (env σ.τ) o.op]) k = some r → ∃ (S : Nat → St) (v : Nat → Value) (ids' : List Nat), S 0 = σ ∧ (∀ i o', (o :: rest)[i]? = some o' → StepR P o' (v i) (S i) (S (i + 1))) ∧ (∀ i, i < ids.length → ids'.getD i 0 = ids.getD i 0) ∧
      (∀ i o', (o :: rest)[i]? = some o' → ids'.getD (ids.length + i) 0 = adrId (env (S i).τ) o'.op) ∧ k (S (o :: rest).length) ids' = some r := by
      intro v0 σ1 hst h
      obtain ⟨S, v, ids', h0, h1, h2, h3, h4⟩ := ordRun_spec rest σ1 _ h
      refine ⟨fun | 0 => σ | i + 1 => S i, fun | 0 => v0 | i + 1 => v i, ids', rfl, fun i o' ho => ?_, fun i hi => ?_, fun i o' ho => ?_, by simpa using h4⟩
      · cases i with
        | zero => simp at ho; subst ho; simp only; rw [h0]; exact hst
        | succ i => exact h1 i o' (by simpa using ho)
      · rw [h2 i (by simp; omega)]
        simp only [List.getD_eq_getElem?_getD]
        rw [List.getElem?_append_left hi]
      · cases i with
        | zero =>
          simp at ho
          subst ho
          have := h2 ids.length (by simp)
          simp only [Nat.add_zero]
          rw [this]
          simp
        | succ i =>
          have := h3 i o' (by simpa using ho)
          simp only [List.length_append, List.length_cons, List.length_nil] at this
          rw [show ids.length + (i + 1) = ids.length + (0 + 1) + i by omega]
          exact this
    unfold ordRun at h
    split at h
    · rename_i t a x ho
      split at h
      · rename_i m hb hs
        exact fin unk _ (.inr ⟨t, a, x, m, ho, hb, hs, rfl⟩) (by simpa [ho, adrId] using h)
      · cases h
    · rename_i hns
      split at h
      · rename_i v0 hv
        exact fin v0 _ (.inl ⟨by unfold isSt; split <;> first | rfl | (rename_i ho; exact absurd ho (hns _ _ _)), hv, rfl⟩) h
      · cases h

/-- A store into a box writes this one block. -/
theorem storeV_box {t : TypeId} {x v : Value} {m : List (Option Blk)} (hb : inBox mem (idOf x) = true) (h : storeV P mem t x v = some m) : ∃ c, m = mem.set (idOf x) (some (.box c)) := by
  unfold storeV at h
  split at h
  · rename_i id e j i hi hone
    simp only [idOf] at hb ⊢
    split at h
    · split at h
      · split at h
        · cases h
          exact ⟨_, rfl⟩
        · cases h
      · rename_i hr
        simp [inBox, hr] at hb
      · cases h
    · cases h
  · cases h

/-- What ordText says of two operations. -/
structure TextP (md : Region.Mode) (ops : Array Oper) (ids : List Nat) (i : Nat) (oi : Oper) (xs : List Operand) : Prop where
  guard : oi.guard = none
  std : isSt oi.op = true → oi.dst = none
  back : ∀ e ∈ oi.after, Region.binds md e = true → e.on < i
  opn : opnds oi.op = some xs
  one : ∀ j oj d, ops[j]? = some oj → oj.dst = some d → oi.dst = some d → i = j
  rd : ∀ j oj d, ops[j]? = some oj → oj.dst = some d → Operand.tmp d ∈ xs → j < i ∧ waitsT md ops 4 i j = true
  ss : ∀ j oj, ops[j]? = some oj → isSt oi.op = true → isSt oj.op = true → j < i → waitsT md ops 4 i j = true
  ls : ∀ j oj, ops[j]? = some oj → isLd oi.op = true → isSt oj.op = true → (waitsT md ops 4 i j = true ∧ j < i) ∨ (waitsT md ops 4 j i = true ∧ i < j) ∨ ids.getD i 0 ≠ ids.getD j 0

theorem text_of {md : Region.Mode} {ops : Array Oper} {ids : List Nat} (h : ordText md ops ids = true) {i : Nat} {oi : Oper} (hi : ops[i]? = some oi) : ∃ xs, TextP md ops ids i oi xs := by
  have hlt : i < ops.size := (Array.getElem?_eq_some_iff.1 hi).1
  have h1 := List.all_eq_true.1 h i (List.mem_range.2 hlt)
  simp only [hi, Bool.and_eq_true] at h1
  obtain ⟨⟨⟨h2, h3⟩, h4⟩, h5⟩ := h1
  split at h5
  · cases h5
  · rename_i xs hxs
    have key : ∀ j oj, ops[j]? = some oj → _ := fun j oj hj => by
      have := List.all_eq_true.1 h5 j (List.mem_range.2 (Array.getElem?_eq_some_iff.1 hj).1)
      simp only [hj, Bool.and_eq_true] at this
      exact this
    refine ⟨xs, ?_, ?_, ?_, hxs, ?_, ?_, ?_, ?_⟩
    · split at h2
      · assumption
      · cases h2
    · intro hs
      rw [hs] at h3
      cases hd : oi.dst with
      | none => rfl
      | some d => rw [hd] at h3; cases h3
    · intro e he hb
      have := Array.all_eq_true_iff_forall_mem.1 h4 e he
      rw [hb] at this
      simpa using this
    · intro j oj d hj hd hd'
      obtain ⟨⟨k1, _⟩, _⟩ := key j oj hj
      rw [hd] at k1
      simp only [Bool.and_eq_true, Bool.or_eq_true, hd', Bool.not_eq_true'] at k1
      rcases k1.1 with k | k
      · exact Nat.eq_of_beq_eq_true k
      · have : Nat.beq d d = true := Nat.beq_refl d
        rw [this] at k
        cases k
    · intro j oj d hj hd hx
      obtain ⟨⟨k1, _⟩, _⟩ := key j oj hj
      rw [hd] at k1
      simp only [Bool.and_eq_true, Bool.or_eq_true, Bool.not_eq_true'] at k1
      rcases k1.2 with k | k
      · have : (xs.any (isTmp d)) = true := List.any_eq_true.2 ⟨_, hx, Nat.beq_refl d⟩
        rw [this] at k
        cases k
      · exact ⟨by simpa using k.1, k.2⟩
    · intro j oj hj hi1 hj1 hlt
      obtain ⟨⟨_, k1⟩, _⟩ := key j oj hj
      simp only [Bool.or_eq_true, Bool.not_eq_true', Bool.and_eq_false_iff, hi1, hj1] at k1
      rcases k1 with k | k
      · exfalso
        have : Nat.blt j i = true := by simpa using hlt
        simp [this] at k
      · exact k
    · intro j oj hj hi1 hj1
      obtain ⟨⟨_, _⟩, k1⟩ := key j oj hj
      simp only [Bool.or_eq_true, Bool.not_eq_true', Bool.and_eq_true, Bool.and_eq_false_iff, hi1, hj1] at k1
      rcases k1 with ((k | k) | k) | k
      · exfalso; simp at k
      · exact .inl ⟨k.1, by simpa using k.2⟩
      · exact .inr (.inl ⟨k.1, by simpa using k.2⟩)
      · refine .inr (.inr fun he => ?_)
        rw [he] at k
        have : Nat.beq (ids.getD j 0) (ids.getD j 0) = true := Nat.beq_refl _
        rw [this] at k
        cases k

/-- The slots, where some operations are done. -/
def Cell (ops : Array Oper) (τ0 : List Value) (v : Nat → Value) (L : Nat → Bool) (τ : List Value) : Prop :=
  τ.length = τ0.length ∧ (∀ j o d, ops[j]? = some o → o.dst = some d → L j = true → d < τ0.length → τ[d]? = some (v j)) ∧ ∀ t, (∀ j o, ops[j]? = some o → o.dst = some t → L j = false) → τ[t]? = τ0[t]?

def putT (d : Option Tmp) (x : Value) (τ : List Value) : List Value := match d with | some t => τ.set t x | none => τ

theorem Cell.put {ops : Array Oper} {τ0 : List Value} {v : Nat → Value} {L L' : Nat → Bool} {τ : List Value} {i : Nat} {oi : Oper} (h : Cell ops τ0 v L τ) (hi : ops[i]? = some oi)
    (hone : ∀ j oj d, ops[j]? = some oj → oj.dst = some d → oi.dst = some d → i = j) (hL : ∀ j, L' j = true ↔ (L j = true ∨ j = i)) : Cell ops τ0 v L' (putT oi.dst (v i) τ) := by
  obtain ⟨h1, h2, h3⟩ := h
  unfold putT
  cases hd : oi.dst with
  | none =>
    refine ⟨h1, fun j o d hj hjd hl hlt => ?_, fun t ht => h3 t fun j o hj hjt => ?_⟩
    · rcases (hL j).1 hl with hl | rfl
      · exact h2 j o d hj hjd hl hlt
      · rw [hi] at hj; cases hj; rw [hd] at hjd; cases hjd
    · have := ht j o hj hjt
      cases hl : L j with
      | false => rfl
      | true => rw [(hL j).2 (.inl hl)] at this; cases this
  | some t0 =>
    refine ⟨by simp [h1], fun j o d hj hjd hl hlt => ?_, fun t ht => ?_⟩
    · by_cases hij : j = i
      · subst hij
        rw [hi] at hj; cases hj
        rw [hd] at hjd; cases hjd
        rw [List.getElem?_set_self (by omega)]
      · rcases (hL j).1 hl with hl | rfl
        · rw [List.getElem?_set_ne (fun he => hij (hone j o d hj hjd (by rw [hd, he])).symm)]
          exact h2 j o d hj hjd hl hlt
        · exact absurd rfl hij
    · have hne : t0 ≠ t := fun he => by
        have := ht i oi hi (by rw [hd, he])
        rw [(hL i).2 (.inr rfl)] at this
        cases this
      rw [List.getElem?_set_ne hne]
      exact h3 t fun j o hj hjt => by
        have := ht j o hj hjt
        cases hl : L j with
        | false => rfl
        | true => rw [(hL j).2 (.inl hl)] at this; cases this

theorem Cell.get {ops : Array Oper} {τ0 : List Value} {v : Nat → Value} {L L' : Nat → Bool} {τ τ' : List Value} (h : Cell ops τ0 v L τ) (h' : Cell ops τ0 v L' τ') {t : Nat} (hL : ∀ j o, ops[j]? = some o → o.dst = some t → L j = L' j) : τ[t]? = τ'[t]? := by
  by_cases he : ∃ j o, ops[j]? = some o ∧ o.dst = some t ∧ L j = true
  · obtain ⟨j, o, hj, hd, hl⟩ := he
    by_cases hlt : t < τ0.length
    · rw [h.2.1 j o t hj hd hl hlt, h'.2.1 j o t hj hd (by rw [← hL j o hj hd]; exact hl) hlt]
    · rw [List.getElem?_eq_none (by rw [h.1]; omega), List.getElem?_eq_none (by rw [h'.1]; omega)]
  · have hno : ∀ j o, ops[j]? = some o → o.dst = some t → L j = false := fun j o hj hd => by
      cases hl : L j with
      | false => rfl
      | true => exact absurd ⟨j, o, hj, hd, hl⟩ he
    rw [h.2.2 t hno, h'.2.2 t fun j o hj hd => by rw [← hL j o hj hd]; exact hno j o hj hd]

theorem in_listed {listed : Array Bool} {j n : Nat} (hs : listed.size = n) (hj : j < n) : listed.getD j true = listed.getD j false := by
  have : j < listed.size := by omega
  simp [this]

theorem ready_waits {md : Region.Mode} {ops : Array Oper} {listed : Array Bool} (inv : Clo md ops listed) (hs : listed.size = ops.size) {i j : Nat} (hj : j < ops.size) (hr : i ∈ Region.ready md ops listed) (hw : waitsT md ops 4 i j = true) : listed.getD j false = true := by
  cases hl : listed.getD j false with
  | true => rfl
  | false => exact absurd hr (waits_un inv (by rw [in_listed hs hj]; exact hl) 4 i hw).2

theorem listed_waits {md : Region.Mode} {ops : Array Oper} {listed : Array Bool} (inv : Clo md ops listed) (hs : listed.size = ops.size) {i j : Nat} (hj : j < ops.size) (hl : listed.getD i false = true) (hw : waitsT md ops 4 i j = true) : listed.getD j false = true := by
  cases h : listed.getD j false with
  | true => rfl
  | false =>
    have := (waits_un inv (by rw [in_listed hs hj]; exact h) 4 i hw).1
    rw [hl] at this
    cases this

section order
variable {md : Region.Mode} {ops : Array Oper} {S : Nat → St} {v : Nat → Value} {ids : List Nat}

theorem mem_keep (hS : ∀ i o, ops[i]? = some o → StepR P o (v i) (S i) (S (i + 1))) (hid : ∀ i o, ops[i]? = some o → ids.getD i 0 = adrId (env (S i).τ) o.op) (id : Nat) :
    ∀ (d e : Nat), e + d ≤ ops.size → (∀ s o, e ≤ s → s < e + d → ops[s]? = some o → isSt o.op = true → ids.getD s 0 ≠ id) → (S (e + d)).mem[id]? = (S e).mem[id]?
  | 0, e, _, _ => rfl
  | d + 1, e, hle, h => by
    rw [← mem_keep hS hid id d e (by omega) fun s o h1 h2 => h s o h1 (by omega)]
    have ho : ops[e + d]? = some ops[e + d] := Array.getElem?_eq_getElem (by omega)
    rcases hS (e + d) _ ho with ⟨_, _, h3⟩ | ⟨t, a, x, m, hop, hb, hs, h3⟩
    · rw [show e + (d + 1) = e + d + 1 by omega, h3]
      cases (ops[e + d]).dst <;> rfl
    · rw [show e + (d + 1) = e + d + 1 by omega, h3]
      obtain ⟨c, hc⟩ := storeV_box hb hs
      have hne := h (e + d) _ (by omega) (by omega) ho (by simp [isSt, hop])
      rw [hid _ _ ho] at hne
      simp only [hop, adrId] at hne
      show m[id]? = _
      rw [hc, List.getElem?_set_ne hne]

theorem mem_same (hS : ∀ i o, ops[i]? = some o → StepR P o (v i) (S i) (S (i + 1))) :
    ∀ (d e : Nat), e + d ≤ ops.size → (∀ s o, e ≤ s → s < e + d → ops[s]? = some o → isSt o.op = false) → (S (e + d)).mem = (S e).mem
  | 0, e, _, _ => rfl
  | d + 1, e, hle, h => by
    rw [← mem_same hS d e (by omega) fun s o h1 h2 => h s o h1 (by omega)]
    have ho : ops[e + d]? = some ops[e + d] := Array.getElem?_eq_getElem (by omega)
    rcases hS (e + d) _ ho with ⟨_, _, h3⟩ | ⟨t, a, x, m, hop, hb, hs, h3⟩
    · rw [show e + (d + 1) = e + d + 1 by omega, h3]
      cases (ops[e + d]).dst <;> rfl
    · have := h (e + d) _ (by omega) (by omega) ho
      simp [isSt, hop] at this

theorem canon (hS : ∀ i o, ops[i]? = some o → StepR P o (v i) (S i) (S (i + 1))) (ht : ordText md ops ids = true) :
    ∀ (i : Nat), i ≤ ops.size → Cell ops (S 0).τ v (fun j => decide (j < i)) (S i).τ ∧ (S i).saved = (S 0).saved
  | 0, _ => ⟨⟨rfl, fun j o d _ _ h => by simp at h, fun t _ => rfl⟩, rfl⟩
  | i + 1, hi => by
    obtain ⟨h1, h2⟩ := canon hS ht i (by omega)
    have ho : ops[i]? = some ops[i] := Array.getElem?_eq_getElem (by omega)
    obtain ⟨xs, tx⟩ := text_of ht ho
    have h3 := h1.put (L' := fun j => decide (j < i + 1)) ho (fun j oj d => tx.one j oj d) (fun j => by simp; omega)
    rcases hS i _ ho with ⟨_, _, h4⟩ | ⟨t, a, x, m, hop, hb, hs, h4⟩
    · rw [h4]
      cases hd : (ops[i]).dst with
      | none => rw [hd] at h3; exact ⟨h3, h2⟩
      | some d => rw [hd] at h3; exact ⟨h3, h2⟩
    · rw [h4]
      rw [tx.std (by simp [isSt, hop])] at h3
      exact ⟨h3, h2⟩

structure Inv (md : Region.Mode) (ops : Array Oper) (S : Nat → St) (v : Nat → Value) (listed : Array Bool) (σ : St) : Prop where
  size : listed.size = ops.size
  clo : Clo md ops listed
  cell : Cell ops (S 0).τ v (fun j => listed.getD j false) σ.τ
  sav : σ.saved = (S 0).saved
  mem : ∃ e, e ≤ ops.size ∧ σ.mem = (S e).mem ∧ ∀ s o, ops[s]? = some o → isSt o.op = true → (listed.getD s false = true ↔ s < e)

theorem all_listed (ht : ordText md ops ids = true) {listed : Array Bool} (hs : listed.size = ops.size) (h : Region.ready md ops listed = []) : ∀ i, i < ops.size → listed.getD i false = true := by
  intro i
  induction i using Nat.strongRecOn with
  | _ i ih =>
    intro hi
    cases hl : listed.getD i false with
    | true => rfl
    | false =>
      have ho : ops[i]? = some ops[i] := Array.getElem?_eq_getElem hi
      obtain ⟨xs, tx⟩ := text_of ht ho
      have : i ∈ Region.ready md ops listed := mem_ready.2 ⟨by rw [in_listed hs hi]; exact hl, _, ho, fun e he hb => ih e.on (tx.back e he hb) (by have := tx.back e he hb; omega)⟩
      rw [h] at this
      cases this

theorem Inv.final (hS : ∀ i o, ops[i]? = some o → StepR P o (v i) (S i) (S (i + 1))) (ht : ordText md ops ids = true) {listed : Array Bool} {σ : St} (inv : Inv md ops S v listed σ) (h : Region.ready md ops listed = []) : σ = S ops.size := by
  have hall := all_listed ht inv.size h
  obtain ⟨c1, c2⟩ := canon hS ht ops.size (Nat.le_refl _)
  obtain ⟨e, he, hm, hst⟩ := inv.mem
  have hlt : ∀ {j : Nat} {o : Oper}, ops[j]? = some o → j < ops.size := fun h => (Array.getElem?_eq_some_iff.1 h).1
  have e1 : σ.τ = (S ops.size).τ := List.ext_getElem? fun t => inv.cell.get c1 fun j o hj _ => by rw [hall j (hlt hj)]; simp [hlt hj]
  have e2 : σ.mem = (S ops.size).mem := by
    rw [hm]
    have := mem_same hS (ops.size - e) e (by omega) fun s o h1 h2 hs => by
      cases hk : isSt o.op with
      | false => rfl
      | true =>
        have := (hst s o hs hk).1 (hall s (hlt hs))
        omega
    rw [show e + (ops.size - e) = ops.size by omega] at this
    exact this.symm
  have e3 : σ.saved = (S ops.size).saved := inv.sav.trans c2.symm
  cases σ
  generalize S ops.size = q at *
  cases q
  simp only at e1 e2 e3
  subst e1; subst e2; subst e3
  rfl

theorem set_get {listed : Array Bool} {i j : Nat} (hs : listed.size = ops.size) (hi : i < ops.size) : (listed.setIfInBounds i true).getD j false = true ↔ (listed.getD j false = true ∨ j = i) := by
  by_cases h : i = j
  · subst h
    have : i < listed.size := by omega
    simp [this]
  · rw [getD_set_ne false h]
    constructor
    · exact .inl
    · rintro (h1 | h1)
      · exact h1
      · exact absurd h1.symm h

theorem env_same (hS : ∀ i o, ops[i]? = some o → StepR P o (v i) (S i) (S (i + 1))) (ht : ordText md ops ids = true) {listed : Array Bool} {σ : St} (inv : Inv md ops S v listed σ) {i : Nat} {oi : Oper} {xs : List Operand} (hi : i < ops.size) (tx : TextP md ops ids i oi xs) (hr : i ∈ Region.ready md ops listed) :
    ∀ x, x ∈ xs → env (S i).τ x = env σ.τ x := fun x hx => by
  obtain ⟨c1, _⟩ := canon hS ht i (by omega)
  cases x with
  | tmp t =>
    show getF _ _ = getF _ _
    rw [getF_eq, getF_eq, List.getD_eq_getElem?_getD, List.getD_eq_getElem?_getD]
    rw [c1.get inv.cell (t := t) fun j o hj hd => by
      obtain ⟨k1, k2⟩ := tx.rd j o t hj hd hx
      have := ready_waits inv.clo inv.size (Array.getElem?_eq_some_iff.1 hj).1 hr k2
      rw [this]
      simpa using k1]
  | const v => rfl
  | global g => rfl
  | func f => rfl

theorem ord_any (hS : ∀ i o, ops[i]? = some o → StepR P o (v i) (S i) (S (i + 1))) (hid : ∀ i o, ops[i]? = some o → ids.getD i 0 = adrId (env (S i).τ) o.op) (ht : ordText md ops ids = true)
    {w0 : World} {cs : List (Array Value)} {Q : Exit → Act → World → Prop} (hQ : ∀ a w ρ, Rel w0 (S ops.size) a cs w ρ → Q .normal a w) :
    ∀ (f : Nat) (listed : Array Bool) (σ : St) (a : Act) (w : World) (ρ : Map), ((List.range ops.size).filter fun i => !listed.getD i false).length ≤ f → Inv md ops S v listed σ → Rel w0 σ a cs w ρ → wpAny P md ops Q f listed a w := by
  have fin : ∀ (listed : Array Bool) (σ : St) (a : Act) (w : World) (ρ : Map), Inv md ops S v listed σ → Rel w0 σ a cs w ρ → Region.ready md ops listed = [] → Q .normal a w := fun listed σ a w ρ inv hR h => hQ a w ρ (by rw [← inv.final hS ht h]; exact hR)
  intro f
  induction f with
  | zero =>
    intro listed σ a w ρ hf inv hR
    have hemp : Region.ready md ops listed = [] := by
      cases hr : Region.ready md ops listed with
      | nil => rfl
      | cons i l =>
        exfalso
        have hi : i ∈ Region.ready md ops listed := by rw [hr]; simp
        obtain ⟨h1, o, ho, _⟩ := mem_ready.1 hi
        have hlt := (Array.getElem?_eq_some_iff.1 ho).1
        have : i ∈ (List.range ops.size).filter fun i => !listed.getD i false := List.mem_filter.2 ⟨List.mem_range.2 hlt, by rw [getD_both h1]; rfl⟩
        have hz : ((List.range ops.size).filter fun i => !listed.getD i false) = [] := List.eq_nil_of_length_eq_zero (by omega)
        rw [hz] at this
        cases this
    exact ⟨hemp, fin _ _ _ _ _ inv hR hemp⟩
  | succ f ih =>
    intro listed σ a w ρ hf inv hR
    refine ⟨fun h => fin _ _ _ _ _ inv hR h, fun i hr => ?_⟩
    obtain ⟨hun, oi, hoi, _⟩ := mem_ready.1 hr
    have hi := (Array.getElem?_eq_some_iff.1 hoi).1
    obtain ⟨xs, tx⟩ := text_of ht hoi
    have henv := env_same hS ht inv hi tx hr
    have hcount : ((List.range ops.size).filter fun j => !(listed.setIfInBounds i true).getD j false).length ≤ f := by
      have e1 : ((List.range ops.size).filter fun j => !(listed.setIfInBounds i true).getD j false) = ((List.range ops.size).filter fun j => !listed.getD j false).erase i := by
        rw [List.Nodup.erase_eq_filter (List.nodup_range.filter _), List.filter_filter]
        refine List.filter_congr fun j _ => ?_
        rw [Bool.eq_iff_iff]
        simp only [Bool.not_eq_true', Bool.and_eq_true, bne_iff_ne, ne_eq]
        rw [← Bool.not_eq_true, ← Bool.not_eq_true, set_get inv.size hi]
        constructor
        · intro h; exact ⟨fun h1 => h (.inr h1), fun h1 => h (.inl h1)⟩
        · rintro ⟨h1, h2⟩ (h3 | h3)
          · exact h2 h3
          · exact h1 h3
      have hmem : i ∈ (List.range ops.size).filter fun j => !listed.getD j false := List.mem_filter.2 ⟨List.mem_range.2 hi, by rw [getD_both hun]; rfl⟩
      rw [e1, List.length_erase_of_mem hmem]
      omega
    have hwant : Region.wanted oi (yielded ops a.tmps) = true := by simp [Region.wanted, tx.guard]
    obtain ⟨e, he, hm, hst⟩ := inv.mem
    have hcell := inv.cell.put (L' := fun j => (listed.setIfInBounds i true).getD j false) hoi (fun j oj d => tx.one j oj d) (fun j => set_get inv.size hi)
    unfold wpOp
    simp only [hoi]
    rw [if_pos hwant]
    left
    unfold Oper.wp
    rcases hS i oi hoi with ⟨hns, hv, _⟩ | ⟨t, x, y, m, hop, hb, hs, hnext⟩
    · -- what leaves memory as it is
      have hv' : evPure P σ.mem (env σ.τ) oi some = some (v i) := by
        rw [evPure_congr tx.opn hns henv (fun hl => ?_) some]
        · exact hv
        · rw [hm]
          have hne : ∀ s o, ops[s]? = some o → isSt o.op = true → (e ≤ s ∧ s < i) ∨ (i ≤ s ∧ s < e) → ids.getD s 0 ≠ adrId (env (S i).τ) oi.op := fun s o hso hss hb => by
            rw [← hid i oi hoi]
            have hlt := (Array.getElem?_eq_some_iff.1 hso).1
            rcases tx.ls s o hso hl hss with ⟨h1, h2⟩ | ⟨h1, h2⟩ | h1
            · have := (hst s o hso hss).1 (ready_waits inv.clo inv.size hlt hr h1)
              omega
            · rcases hb with hb | hb
              · omega
              · have h3 := listed_waits inv.clo inv.size hi ((hst s o hso hss).2 hb.2) h1
                rw [getD_both hun] at h3
                cases h3
            · exact fun h2 => h1 h2.symm
          rcases Nat.le_total e i with hle | hle
          · have := mem_keep hS hid (adrId (env (S i).τ) oi.op) (i - e) e (by omega) fun s o h1 h2 h3 h4 => hne s o h3 h4 (.inl ⟨h1, by omega⟩)
            rw [show e + (i - e) = i by omega] at this
            exact this.symm
          · have := mem_keep hS hid (adrId (env (S i).τ) oi.op) (e - i) i (by omega) fun s o h1 h2 h3 h4 => hne s o h3 h4 (.inr ⟨h1, by omega⟩)
            rw [show i + (e - i) = e by omega] at this
            exact this
      obtain ⟨u, cv, h1, h2, h3⟩ := evPure_sound hR.mem (fun x => hR.tmps.env x) hv'
      cases h1
      rw [h3 w (Below.refl _ _)]
      refine ih _ (σ.put oi.dst (v i)) _ _ ρ hcount ?_ (hR.put oi.dst h2)
      refine ⟨by simp [inv.size], inv.clo.set hr, ?_, ?_, e, he, ?_, fun s o hso hss => ?_⟩
      · cases hd : oi.dst with
        | none => rw [hd] at hcell; exact hcell
        | some d => rw [hd] at hcell; exact hcell
      · cases hd : oi.dst <;> exact inv.sav
      · cases hd : oi.dst <;> exact hm
      · rw [set_get inv.size hi]
        constructor
        · rintro (h | rfl)
          · exact (hst s o hso hss).1 h
          · rw [hoi] at hso; cases hso; rw [hns] at hss; cases hss
        · intro h; exact .inl ((hst s o hso hss).2 h)
    · -- a store
      have hsi : isSt oi.op = true := by simp [isSt, hop]
      have hei : e ≤ i := by
        rcases Nat.lt_or_ge i e with h | h
        · have := (hst i oi hoi hsi).2 h
          rw [getD_both hun] at this
          cases this
        · exact h
      have hmem : σ.mem = (S i).mem := by
        rw [hm]
        have := mem_same hS (i - e) e (by omega) fun s o h1 h2 hso => by
          cases hk : isSt o.op with
          | false => rfl
          | true =>
            have := (hst s o hso hk).1 (ready_waits inv.clo inv.size (Array.getElem?_eq_some_iff.1 hso).1 hr (tx.ss s o hso hsi hk (by omega)))
            omega
        rw [show e + (i - e) = i by omega] at this
        exact this.symm
      have hxs := tx.opn
      rw [hop] at hxs
      simp only [opnds, Option.some.injEq] at hxs
      subst hxs
      rw [← hmem, henv x (by simp), henv y (by simp)] at hs
      obtain ⟨w', ρ1, k1, k2, k3, k4, k5⟩ := storeV_sound hs hR.mem (hR.tmps.env x) (hR.tmps.env y)
      have hrun : (execOp a.eval oi).run P w = .ok .skip w' := by simp [execOp, hop, k1]
      rw [hrun]
      have hR1 := hR.mono (k5 w0 hR.below) k2 (by omega) (fun id _ => k4 id)
      have hd := tx.std hsi
      show wpAny P md ops Q f (listed.setIfInBounds i true) (a.put oi.dst undef) w'
      rw [hd]
      refine ih _ { σ with mem := m } a w' ρ1 hcount ?_ hR1
      rw [hd] at hcell
      refine ⟨by simp [inv.size], inv.clo.set hr, hcell, inv.sav, i + 1, by omega, by rw [hnext], fun s o hso hss => ?_⟩
      rw [set_get inv.size hi]
      have hlt := (Array.getElem?_eq_some_iff.1 hso).1
      constructor
      · rintro (h | rfl)
        · have := (hst s o hso hss).1 h
          omega
        · omega
      · intro h
        by_cases hsi' : s = i
        · exact .inr hsi'
        · exact .inl (ready_waits inv.clo inv.size hlt hr (tx.ss s o hso hsi hss (by omega)))
end order

theorem wp_region_ordAny {id : Nat} {ops : Array Oper} {σ : St} {w0 : World} {cs : List (Array Value)} {a : Act} {w : World} {ρ : Map} {Q : Exit → Act → World → Prop} {α : Type} {k : St → Option α} {r : α} (hm : P.follows .mixedOrders = true)
    (h : ordRun P ops.toList σ [] (fun σ1 ids => match ordText .any ops ids with | true => k σ1 | false => none) = some r) (hR : Rel w0 σ a cs w ρ) (hQ : ∀ σ1 a1 w1 ρ1, Rel w0 σ1 a1 cs w1 ρ1 → k σ1 = some r → Q .normal a1 w1) : (Code.region id ops true).wp P Q a w := by
  obtain ⟨S, v, ids, h0, h1, _, h3, h4⟩ := ordRun_spec _ _ _ h
  split at h4
  · rename_i ht
    refine wp_region_any hm ?_
    have h1' : ∀ i o, ops[i]? = some o → StepR P o (v i) (S i) (S (i + 1)) := fun i o ho => h1 i o (by simpa using ho)
    have h3' : ∀ i o, ops[i]? = some o → ids.getD i 0 = adrId (env (S i).τ) o.op := fun i o ho => by simpa using h3 i o (by simpa using ho)
    refine ord_any h1' h3' ht (fun a1 w1 ρ1 hR1 => hQ _ a1 w1 ρ1 hR1 (by simpa using h4)) ops.size _ σ a _ ρ ?_ ?_ (hR.later (Below.drew (Below.refl _ _)))
    · exact Nat.le_trans (List.length_filter_le _ _) (by simp)
    · subst h0
      refine ⟨by simp, Clo.none, ⟨rfl, fun j o d _ _ hl => ?_, fun t _ => rfl⟩, rfl, 0, Nat.zero_le _, rfl, fun s o _ _ => ?_⟩
      · have hl : (Array.replicate ops.size false).getD j false = true := hl
        rw [getD_replicate_false] at hl; cases hl
      · rw [getD_replicate_false]; simp
  · cases h4
end
end Go.Ev

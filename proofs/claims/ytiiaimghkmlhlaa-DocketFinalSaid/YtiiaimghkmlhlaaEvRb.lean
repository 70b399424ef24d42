/- A region that draws its order: of quiet operations, calls by contract, stores into boxes and one block that is made, in whatever order; behind them a chain. No conditions. -/
import Derived.Test.YtiiaimghkmlhlaaEvRa
namespace Go.Ev
open Go Go.RowKit
set_option linter.all false
section
variable {P : Program} {mem : List (Option Blk)}

theorem br_bind {α β : Type} (b : Bool) (x y : Option α) (f : α → Option β) : (br b x y).bind f = br b (x.bind f) (y.bind f) := by cases b <;> rfl
theorem pickN_bind {α β : Type} {n : Int} {g : Nat → Option α} (f : α → Option β) : ∀ (m i : Nat), (pickN n g m i).bind f = pickN n (fun q => (g q).bind f) m i
  | 0, _ => rfl
  | m + 1, i => by
    show (br _ _ _).bind f = br _ _ _
    rw [br_bind, pickN_bind f m]
theorem binV_bind {α : Type} (op : BinOp) (t : TypeId) (x y : Value) (k : Value → Option α) : binV P op t x y k = (binV P op t x y some).bind k := by
  unfold binV
  repeat' split
  all_goals first | rfl | (simp only [br_bind]; rfl)
theorem evPure_bind {α : Type} (ρ : Operand → Value) (o : Oper) (k : Value → Option α) : evPure P mem ρ o k = (evPure P mem ρ o some).bind k := by
  unfold evPure
  split
  case h_6 => exact binV_bind _ _ _ _ _
  all_goals first | rfl | (repeat' split) <;> first | rfl | (simp only [br_bind, pickN_bind]; first | rfl | (congr 1; congr 1; funext q; split <;> rfl) | (congr 1; funext q; split <;> rfl)) 
theorem evBuild_bind {α : Type} (ρ : Operand → Value) (t : TypeId) (parts : Array (Nat × Operand)) (k : Value → Option α) : evBuild P ρ t parts k = (evBuild P ρ t parts some).bind k := by
  unfold evBuild
  repeat' split
  all_goals rfl
theorem evQ_bind {α : Type} {C : Cx} {b : Bool} (ρ : Operand → Value) (o : Oper) (k : Value → Option α) : evQ C b mem ρ o k = (evQ C b mem ρ o some).bind k := by
  unfold evQ
  split
  · exact evBuild_bind _ _ _ _
  · split
    · split
      · split
        · split
          · rw [br_bind]; rfl
          · rfl
        · rfl
      · rfl
    · exact evPure_bind _ _ _
  · exact evPure_bind _ _ _

/-- The rows of a memory. -/
def rowAt (mem : List (Option Blk)) (id : Nat) : Option (List CK × Bool × Row) := match mem[id]? with
  | some (some (.row ks own r)) => some (ks, own, r)
  | _ => none
theorem row_cases {mem mem' : List (Option Blk)} (h : ∀ id, rowAt mem' id = rowAt mem id) (id : Nat) :
    (∃ ks own r, mem[id]? = some (some (.row ks own r)) ∧ mem'[id]? = some (some (.row ks own r))) ∨ ((∀ ks own r, mem[id]? ≠ some (some (.row ks own r))) ∧ ∀ ks own r, mem'[id]? ≠ some (some (.row ks own r))) := by
  have := h id
  unfold rowAt at this
  split at this
  · rename_i ks own r h1
    split at this
    · rename_i ks' own' r' h2
      cases this
      exact .inl ⟨_, _, _, h2, h1⟩
    · cases this
  · rename_i h1
    split at this
    · cases this
    · rename_i h2
      exact .inr ⟨fun ks own r he => h2 ks own r he, fun ks own r he => h1 ks own r he⟩

theorem toD1_congr {mem mem' : List (Option Blk)} (h : ∀ id, rowAt mem' id = rowAt mem id) (ck : CK) (x : Value) : toD1 ck mem' x = toD1 ck mem x := by
  unfold toD1
  split
  · rfl
  · rename_i id e len
    rcases row_cases h id with ⟨ks, own, r, h1, h2⟩ | ⟨h1, h2⟩
    · rw [h1, h2]
    · split
      · rename_i he; exact absurd he (h2 _ _ _)
      · first | rfl | (split <;> first | rfl | (rename_i he; exact absurd he (h1 _ _ _)))
  · rfl
theorem toD1s_congr {mem mem' : List (Option Blk)} (h : ∀ id, rowAt mem' id = rowAt mem id) : ∀ (xs : List Value) (cks : List CK), toD1s mem' cks xs = toD1s mem cks xs
  | [], _ => by unfold toD1s; rfl
  | x :: xs, cks => by
    unfold toD1s
    rw [toD1_congr h, toD1s_congr h xs]
theorem toD_congr {mem mem' : List (Option Blk)} (h : ∀ id, rowAt mem' id = rowAt mem id) (cks : List CK) (x : Value) : toD cks mem' x = toD cks mem x := by
  unfold toD
  split
  · rw [toD1s_congr h]
  · exact toD1_congr h _ _
theorem toDs_congr {mem mem' : List (Option Blk)} (h : ∀ id, rowAt mem' id = rowAt mem id) : ∀ (xs : List Value) (ckss : List (List CK)), toDs mem' ckss xs = toDs mem ckss xs
  | [], _ => by unfold toDs; rfl
  | x :: xs, ckss => by
    unfold toDs
    rw [toD_congr h, toDs_congr h xs]

theorem loadV_congr {mem mem' : List (Option Blk)} (t : TypeId) (x : Value) (h : mem'[idOf x]? = mem[idOf x]?) : loadV P mem' t x = loadV P mem t x := by
  unfold loadV
  split
  · simp only [idOf] at h
    rw [h]
  · rfl

theorem evPureC_congr {α : Type} {mem mem' : List (Option Blk)} {f g : Operand → Value} {o : Oper} {xs : List Operand} (hx : opndsC o.op = some xs) (hs : isWr o.op = false) (h : ∀ x, x ∈ xs → f x = g x)
    (hm : isLd o.op = true → mem'[adrId f o.op]? = mem[adrId f o.op]?) (hr : ∀ id, rowAt mem' id = rowAt mem id) (k : Value → Option α) : evPure P mem' g o k = evPure P mem f o k := by
  unfold opndsC at hx
  unfold evPure
  split at hx
  · rename_i ho; cases hx; simp only [ho]; rw [h _ (by simp)]
  · rename_i ho; cases hx; simp only [ho]; rw [h _ (by simp)]
  · rename_i ho; cases hx; simp only [ho]; rw [h _ (by simp), h _ (by simp), h _ (by simp)]
  · rename_i t a ho
    cases hx
    simp only [ho]
    rw [← h a (by simp)]
    have := hm (by simp [isLd, ho])
    simp only [ho, adrId] at this
    rw [loadV_congr t (f a) this]
  · rename_i ho; cases hx; simp only [ho]; rw [h _ (by simp)]
  · rename_i ho; cases hx; simp only [ho]; rw [h _ (by simp)]
  · rename_i t x i ho
    cases hx
    simp only [ho]
    rw [h x (by simp), h i (by simp)]
    split
    · rename_i el id e len cap kd n _ _ _
      rcases row_cases hr id with ⟨ks, own, r, h1, h2⟩ | ⟨h1, h2⟩
      · rw [h1, h2]
      · split
        · rename_i he; exact absurd he (h2 _ _ _)
        · first | rfl | (split <;> first | rfl | (rename_i he; exact absurd he (h1 _ _ _)))
    · rfl
    · rfl
  · rename_i ho; cases hx; simp only [ho]; rw [h _ (by simp), h _ (by simp)]
  · rename_i ho; cases hx; simp only [ho]; rw [h _ (by simp), h _ (by simp)]
  · rename_i ho; cases hx; simp only [ho]; rw [h _ (by simp)]
  · rename_i ho; cases hx; simp only [ho]; rw [h _ (by simp)]
  · rename_i ho; cases hx; simp only [ho]; rw [h _ (by simp)]
  · rename_i ho; cases hx; simp only [ho]; rw [h _ (by simp)]
  · rename_i t x lo hi mx ho
    cases hx
    simp only [ho]
    have e1 : lo.map g = lo.map f := by cases lo with | none => rfl | some a => simp only [Option.map_some]; rw [h a (by simp)]
    have e2 : hi.map g = hi.map f := by cases hi with | none => rfl | some a => simp only [Option.map_some]; rw [h a (by simp)]
    rw [h x (by simp), e1, e2]
    split
    · rfl
    · rename_i el id e len _ _
      rcases row_cases hr id with ⟨ks, own, r, h1, h2⟩ | ⟨h1, h2⟩
      · rw [h1, h2]
      · split
        · rename_i he; exact absurd he (h2 _ _ _)
        · first | rfl | (split <;> first | rfl | (rename_i he; exact absurd he (h1 _ _ _)))
    · rfl
  · rename_i ho; simp only [ho]
  · rename_i c ho
    simp only [ho]
    split at hx
    · rename_i hc; simp only [hc]
    · rename_i hc
      cases hx
      simp only [hc]
      split
      · rename_i x hx1 hx2
        rw [h x (by rw [hx2]; simp)]
      · rfl
    · rename_i hc
      cases hx
      simp only [hc]
      rw [List.map_congr_left (f := g) (g := f) (l := c.args.toList) fun a ha => (h a ha).symm]
    · rename_i hc
      cases hx
      simp only [hc]
      rw [List.map_congr_left (f := g) (g := f) (l := c.args.toList) fun a ha => (h a ha).symm]
    · cases hx
  · rename_i ho; simp [isWr, isSt, ho] at hs
  · rename_i ho; simp [isWr, isAl, ho] at hs
  · rename_i ho; simp [isWr, isAl, ho] at hs
  · cases hx

theorem evQ_congr {α : Type} {C : Cx} {mem mem' : List (Option Blk)} {f g : Operand → Value} {o : Oper} {xs : List Operand} (hx : opndsC o.op = some xs) (hs : isWr o.op = false) (h : ∀ x, x ∈ xs → f x = g x)
    (hm : isLd o.op = true → mem'[adrId f o.op]? = mem[adrId f o.op]?) (hr : ∀ id, rowAt mem' id = rowAt mem id) (k : Value → Option α) : evQ C true mem' g o k = evQ C true mem f o k := by
  have hp := evPureC_congr (P := C.P) hx hs h hm hr k
  unfold evQ
  split
  · rename_i t parts ho
    unfold opndsC at hx
    rw [ho] at hx
    cases hx
    have : (parts.toList.map fun p => (p.1, g p.2)) = parts.toList.map fun p => (p.1, f p.2) := List.map_congr_left fun p hp => by rw [h p.2 (List.mem_map_of_mem hp)]
    unfold evBuild
    rw [this]
  · rename_i c ho
    have e : calleeOf g c = calleeOf f c := by
      unfold opndsC at hx
      rw [ho] at hx
      simp only at hx
      unfold calleeOf
      split at hx
      · rename_i fo hc
        cases hx
        simp only [hc]
        rw [h fo (by simp), List.map_congr_left (f := g) (g := f) (l := c.args.toList) fun a ha => (h a (by simp [ha])).symm]
      · rename_i hc; simp only [hc]
      · rename_i hc; simp only [hc]
      · rename_i hc; simp only [hc]
      · cases hx
    rw [e, hp]
    split
    · rw [toDs_congr hr]
    · rfl
  · exact hp

theorem alBlk_congr {C : Cx} {f g : Operand → Value} {op : Op} {xs : List Operand} (hx : opndsC op = some xs) (h : ∀ x, x ∈ xs → f x = g x) : alBlk C g op = alBlk C f op := by
  unfold alBlk
  split
  · rfl
  · rename_i t x
    simp only [opndsC, Option.some.injEq] at hx
    subst hx
    rw [h x (by simp)]
  · rfl
theorem alBlk_box {C : Cx} {f : Operand → Value} {op : Op} {b : Blk} (h : alBlk C f op = some b) : ∃ c, b = .box c := by
  unfold alBlk at h
  split at h
  · split at h
    · split at h
      · cases h; exact ⟨_, rfl⟩
      · cases h
    · cases h
  · split at h
    · cases h; exact ⟨_, rfl⟩
    · cases h
  · cases h
theorem evEff_al {α : Type} {C : Cx} {σ : St} {o : Oper} {inl : FuncId → List Value → St → (Value → St → Option α) → Option α} {k : St → Option α} {b : Blk} (h : alBlk C (env σ.τ) o.op = some b) : evEff C σ o inl k = k (σ.new o.dst ptr0 b) := by
  unfold alBlk at h
  unfold evEff
  split at h
  · rename_i t ho
    simp only [ho]
    split at h
    · rename_i z hz
      split at h
      · rename_i ha; cases h; simp only [hz, ha]
      · cases h
    · cases h
  · rename_i t x ho
    simp only [ho]
    split at h
    · rename_i hu; cases h; simp only [hu]
    · cases h
  · cases h

/-- A store into a box writes this one block, whatever else there is. -/
theorem storeV_boxC {t : TypeId} {x v : Value} {m : List (Option Blk)} (hb : inBox mem (idOf x) = true) (h : storeV P mem t x v = some m) :
    ∃ c, m = mem.set (idOf x) (some (.box c)) ∧ ∀ mem', mem'[idOf x]? = mem[idOf x]? → storeV P mem' t x v = some (mem'.set (idOf x) (some (.box c))) := by
  unfold storeV at h
  split at h
  · rename_i id e j i hi hone
    simp only [idOf] at hb ⊢
    split at h
    · rename_i hsz
      split at h
      · rename_i cells hc
        split at h
        · rename_i hj
          cases h
          refine ⟨_, rfl, fun mem' hm => ?_⟩
          unfold storeV
          simp only [hi, hone]
          rw [if_pos hsz]
          rw [hc] at hm
          simp only [hm]
          rw [if_pos hj]
        · cases h
      · rename_i hr
        simp [inBox, hr] at hb
      · cases h
    · cases h
  · cases h

/-- One operation in the text's order. -/
def StepC (C : Cx) (o : Oper) (v : Value) (σ σ1 : St) : Prop :=
  (isWr o.op = false ∧ evQ C true σ.mem (env σ.τ) o some = some v ∧ σ1 = σ.put o.dst v) ∨
  (∃ t a x m, o.op = .store t a x ∧ inBox σ.mem (idOf (env σ.τ a)) = true ∧ storeV C.P σ.mem t (env σ.τ a) (env σ.τ x) = some m ∧ σ1 = { σ with mem := m }) ∨
  (isAl o.op = true ∧ ∃ b, alBlk C (env σ.τ) o.op = some b ∧ v = ptr0 σ.mem.length ∧ σ1 = σ.new o.dst ptr0 b)

theorem aid_no {σ : St} {o : Oper} (h : isAl o.op = false) : aid σ o = adrId (env σ.τ) o.op := by unfold aid; rw [h]

theorem ordRunC_spec {α : Type} {C : Cx} {k : St → List Nat → Option α} {r : α} : ∀ (l : List Oper) (σ : St) (ids : List Nat), ordRunC C l σ ids k = some r →
    ∃ (S : Nat → St) (v : Nat → Value) (ids' : List Nat), S 0 = σ ∧ (∀ i o, l[i]? = some o → StepC C o (v i) (S i) (S (i + 1))) ∧ (∀ i, i < ids.length → ids'.getD i 0 = ids.getD i 0) ∧
      (∀ i o, l[i]? = some o → ids'.getD (ids.length + i) 0 = aid (S i) o) ∧ k (S l.length) ids' = some r
  | [], σ, ids, h => ⟨fun _ => σ, fun _ => unk, ids, rfl, fun i o h => by simp at h, fun _ _ => rfl, fun i o h => by simp at h, h⟩
  | o :: rest, σ, ids, h => by
    have fin : ∀ (v0 : Value) (σ1 : St), StepC C o v0 σ σ1 → ordRunC C rest σ1 (ids ++ [aid σ o]) k = some r → ∃ (S : Nat → St) (v : Nat → Value) (ids' : List Nat), S 0 = σ ∧ (∀ i o', (o :: rest)[i]? = some o' → StepC C o' (v i) (S i) (S (i + 1))) ∧ (∀ i, i < ids.length → ids'.getD i 0 = ids.getD i 0) ∧
      (∀ i o', (o :: rest)[i]? = some o' → ids'.getD (ids.length + i) 0 = aid (S i) o') ∧ k (S (o :: rest).length) ids' = some r := by
      intro v0 σ1 hst h
      obtain ⟨S, v, ids', h0, h1, h2, h3, h4⟩ := ordRunC_spec rest σ1 _ h
      refine ⟨fun | 0 => σ | i + 1 => S i, fun | 0 => v0 | i + 1 => v i, ids', rfl, fun i o' ho => ?_, fun i hi => ?_, fun i o' ho => ?_, by simpa using h4⟩
      · cases i with
        | zero => simp at ho; subst ho; simp only; rw [h0]; exact hst
        | succ i => exact h1 i o' (by simpa using ho)
      · rw [h2 i (by simp; omega)]
        simp only [List.getD_eq_getElem?_getD]
        rw [List.getElem?_append_left hi]
      · cases i with
        | zero =>
          simp at ho
          subst ho
          have := h2 ids.length (by simp)
          simp only [Nat.add_zero]
          rw [this]
          simp
        | succ i =>
          have := h3 i o' (by simpa using ho)
          simp only [List.length_append, List.length_cons, List.length_nil] at this
          rw [show ids.length + (i + 1) = ids.length + (0 + 1) + i by omega]
          exact this
    unfold ordRunC at h
    split at h
    · rename_i hal
      split at h
      · rename_i b hb
        rw [frc_eq] at h
        exact fin _ _ (.inr (.inr ⟨hal, b, hb, rfl, rfl⟩)) (by unfold aid; rw [hal]; exact h)
      · cases h
    · rename_i hal
      split at h
      · rename_i t a x ho
        split at h
        · rename_i m hb hs
          rw [frc_eq] at h
          exact fin unk _ (.inr (.inl ⟨t, a, x, m, ho, hb, hs, rfl⟩)) (by rw [aid_no hal]; simpa [ho, adrId] using h)
        · cases h
      · rename_i hns
        rw [evQ_bind] at h
        obtain ⟨v0, hv, h'⟩ := Option.bind_eq_some_iff.1 h
        rw [putK_eq] at h'
        exact fin v0 _ (.inl ⟨by unfold isWr; rw [hal, Bool.or_false]; unfold isSt; split <;> first | rfl | (rename_i ho; exact absurd ho (hns _ _ _)), hv, rfl⟩) (by rw [aid_no hal]; exact h')

/-- What ordTextC says of two operations. -/
structure TextC (md : Region.Mode) (ops : Array Oper) (m : Nat) (ids : List Nat) (i : Nat) (oi : Oper) (xs : List Operand) : Prop where
  guard : oi.guard = none
  std : isSt oi.op = true → oi.dst = none
  opn : opndsC oi.op = some xs
  one : ∀ j oj d, ops[j]? = some oj → oj.dst = some d → oi.dst = some d → i = j
  rd : ∀ j oj d, j < m → ops[j]? = some oj → oj.dst = some d → Operand.tmp d ∈ xs → j < i ∧ waitsC md ops i j = true
  ww : ∀ j oj, j < m → ops[j]? = some oj → isWr oi.op = true → isWr oj.op = true → j < i → ids.getD i 0 = ids.getD j 0 → waitsC md ops i j = true
  lw : ∀ j oj, j < m → ops[j]? = some oj → isLd oi.op = true → isWr oj.op = true → (waitsC md ops i j = true ∧ j < i) ∨ (waitsC md ops j i = true ∧ i < j) ∨ ids.getD i 0 ≠ ids.getD j 0
  aa : ∀ j oj, j < m → ops[j]? = some oj → isAl oi.op = true → isAl oj.op = true → i = j

theorem textC_back {md : Region.Mode} {ops : Array Oper} {m : Nat} {ids : List Nat} (h : ordTextC md ops m ids = true) {i : Nat} {oi : Oper} (hi : ops[i]? = some oi) :
    (∀ e ∈ oi.after, Region.binds md e = true → e.on < i) ∧ (m ≤ i → ∀ k, k < i → waitsC md ops i k = true) := by
  have hlt : i < ops.size := (Array.getElem?_eq_some_iff.1 hi).1
  unfold ordTextC at h
  rw [Bool.and_eq_true] at h
  have h1 := List.all_eq_true.1 h.1 i (List.mem_range.2 hlt)
  simp only [hi, Bool.and_eq_true, Bool.or_eq_true] at h1
  refine ⟨fun e he hb => ?_, fun hm k hk => ?_⟩
  · have := Array.all_eq_true_iff_forall_mem.1 h1.1 e he
    rw [hb] at this
    simpa using this
  · rcases h1.2 with h2 | h2
    · have : i < m := by simpa using h2
      omega
    · exact List.all_eq_true.1 h2 k (List.mem_range.2 hk)

theorem textC_of {md : Region.Mode} {ops : Array Oper} {m : Nat} {ids : List Nat} (h : ordTextC md ops m ids = true) {i : Nat} {oi : Oper} (him : i < m) (hi : ops[i]? = some oi) : ∃ xs, TextC md ops m ids i oi xs := by
  unfold ordTextC at h
  rw [Bool.and_eq_true] at h
  have h1 := List.all_eq_true.1 h.2 i (List.mem_range.2 him)
  simp only [hi, Bool.and_eq_true] at h1
  obtain ⟨⟨h2, h3⟩, h5⟩ := h1
  split at h5
  · cases h5
  · rename_i xs hxs
    rw [Bool.and_eq_true] at h5
    obtain ⟨h6, h7⟩ := h5
    have key : ∀ j oj, j < m → ops[j]? = some oj → _ := fun j oj hjm hj => by
      have := List.all_eq_true.1 h7 j (List.mem_range.2 hjm)
      simp only [hj, Bool.and_eq_true] at this
      exact this
    refine ⟨xs, ?_, ?_, hxs, ?_, ?_, ?_, ?_, ?_⟩
    · split at h2
      · assumption
      · cases h2
    · intro hs
      rw [hs] at h3
      cases hd : oi.dst with
      | none => rfl
      | some d => rw [hd] at h3; cases h3
    · intro j oj d hj hd hd'
      have := List.all_eq_true.1 h6 j (List.mem_range.2 (Array.getElem?_eq_some_iff.1 hj).1)
      simp only [hj, hd, hd', Bool.or_eq_true, Bool.not_eq_true'] at this
      rcases this with k | k
      · exact Nat.eq_of_beq_eq_true k
      · have : Nat.beq d d = true := Nat.beq_refl d
        rw [this] at k
        cases k
    · intro j oj d hjm hj hd hx
      obtain ⟨⟨⟨k1, _⟩, _⟩, _⟩ := key j oj hjm hj
      rw [hd] at k1
      simp only [Bool.and_eq_true, Bool.or_eq_true, Bool.not_eq_true'] at k1
      rcases k1 with k | k
      · have : (xs.any (isTmp d)) = true := List.any_eq_true.2 ⟨_, hx, Nat.beq_refl d⟩
        rw [this] at k
        cases k
      · exact ⟨by simpa using k.1, k.2⟩
    · intro j oj hjm hj hi1 hj1 hlt he
      obtain ⟨⟨⟨_, k1⟩, _⟩, _⟩ := key j oj hjm hj
      simp only [Bool.or_eq_true, Bool.not_eq_true', Bool.and_eq_false_iff, hi1, hj1] at k1
      rcases k1 with k | k
      · exfalso
        have h1 : Nat.blt j i = true := by simpa using hlt
        have h2 : Nat.beq (ids.getD i 0) (ids.getD j 0) = true := by rw [he]; exact Nat.beq_refl _
        simp only [h1, h2] at k
        simp at k
      · exact k
    · intro j oj hjm hj hi1 hj1
      obtain ⟨⟨⟨_, _⟩, k1⟩, _⟩ := key j oj hjm hj
      simp only [Bool.or_eq_true, Bool.not_eq_true', Bool.and_eq_true, Bool.and_eq_false_iff, hi1, hj1] at k1
      rcases k1 with ((k | k) | k) | k
      · exfalso; simp at k
      · exact .inl ⟨k.1, by simpa using k.2⟩
      · exact .inr (.inl ⟨k.1, by simpa using k.2⟩)
      · refine .inr (.inr fun he => ?_)
        rw [he] at k
        have : Nat.beq (ids.getD j 0) (ids.getD j 0) = true := Nat.beq_refl _
        rw [this] at k
        cases k
    · intro j oj hjm hj hi1 hj1
      obtain ⟨⟨⟨_, _⟩, _⟩, k1⟩ := key j oj hjm hj
      simp only [Bool.or_eq_true, Bool.not_eq_true', Bool.and_eq_false_iff, hi1, hj1] at k1
      rcases k1 with k | k
      · exfalso; simp at k
      · exact Nat.eq_of_beq_eq_true k

/-- The slots, where some operations are done. -/
def Cell (ops : Array Oper) (τ0 : List Value) (v : Nat → Value) (L : Nat → Bool) (τ : List Value) : Prop :=
  τ.length = τ0.length ∧ (∀ j o d, ops[j]? = some o → o.dst = some d → L j = true → d < τ0.length → τ[d]? = some (v j)) ∧ ∀ t, (∀ j o, ops[j]? = some o → o.dst = some t → L j = false) → τ[t]? = τ0[t]?

def putT (d : Option Tmp) (x : Value) (τ : List Value) : List Value := match d with | some t => τ.set t x | none => τ

theorem Cell.put {ops : Array Oper} {τ0 : List Value} {v : Nat → Value} {L L' : Nat → Bool} {τ : List Value} {i : Nat} {oi : Oper} (h : Cell ops τ0 v L τ) (hi : ops[i]? = some oi)
    (hone : ∀ j oj d, ops[j]? = some oj → oj.dst = some d → oi.dst = some d → i = j) (hL : ∀ j, L' j = true ↔ (L j = true ∨ j = i)) : Cell ops τ0 v L' (putT oi.dst (v i) τ) := by
  obtain ⟨h1, h2, h3⟩ := h
  unfold putT
  cases hd : oi.dst with
  | none =>
    refine ⟨h1, fun j o d hj hjd hl hlt => ?_, fun t ht => h3 t fun j o hj hjt => ?_⟩
    · rcases (hL j).1 hl with hl | rfl
      · exact h2 j o d hj hjd hl hlt
      · rw [hi] at hj; cases hj; rw [hd] at hjd; cases hjd
    · have := ht j o hj hjt
      cases hl : L j with
      | false => rfl
      | true => rw [(hL j).2 (.inl hl)] at this; cases this
  | some t0 =>
    refine ⟨by simp [h1], fun j o d hj hjd hl hlt => ?_, fun t ht => ?_⟩
    · by_cases hij : j = i
      · subst hij
        rw [hi] at hj; cases hj
        rw [hd] at hjd; cases hjd
        rw [List.getElem?_set_self (by omega)]
      · rcases (hL j).1 hl with hl | rfl
        · rw [List.getElem?_set_ne (fun he => hij (hone j o d hj hjd (by rw [hd, he])).symm)]
          exact h2 j o d hj hjd hl hlt
        · exact absurd rfl hij
    · have hne : t0 ≠ t := fun he => by
        have := ht i oi hi (by rw [hd, he])
        rw [(hL i).2 (.inr rfl)] at this
        cases this
      rw [List.getElem?_set_ne hne]
      exact h3 t fun j o hj hjt => by
        have := ht j o hj hjt
        cases hl : L j with
        | false => rfl
        | true => rw [(hL j).2 (.inl hl)] at this; cases this

theorem Cell.get {ops : Array Oper} {τ0 : List Value} {v : Nat → Value} {L L' : Nat → Bool} {τ τ' : List Value} (h : Cell ops τ0 v L τ) (h' : Cell ops τ0 v L' τ') {t : Nat} (hL : ∀ j o, ops[j]? = some o → o.dst = some t → L j = L' j) : τ[t]? = τ'[t]? := by
  by_cases he : ∃ j o, ops[j]? = some o ∧ o.dst = some t ∧ L j = true
  · obtain ⟨j, o, hj, hd, hl⟩ := he
    by_cases hlt : t < τ0.length
    · rw [h.2.1 j o t hj hd hl hlt, h'.2.1 j o t hj hd (by rw [← hL j o hj hd]; exact hl) hlt]
    · rw [List.getElem?_eq_none (by rw [h.1]; omega), List.getElem?_eq_none (by rw [h'.1]; omega)]
  · have hno : ∀ j o, ops[j]? = some o → o.dst = some t → L j = false := fun j o hj hd => by
      cases hl : L j with
      | false => rfl
      | true => exact absurd ⟨j, o, hj, hd, hl⟩ he
    rw [h.2.2 t hno, h'.2.2 t fun j o hj hd => by rw [← hL j o hj hd]; exact hno j o hj hd]

theorem in_listed {listed : Array Bool} {j n : Nat} (hs : listed.size = n) (hj : j < n) : listed.getD j true = listed.getD j false := by
  have : j < listed.size := by omega
  simp [this]

theorem set_get {n : Nat} {listed : Array Bool} {i j : Nat} (hs : listed.size = n) (hi : i < n) : (listed.setIfInBounds i true).getD j false = true ↔ (listed.getD j false = true ∨ j = i) := by
  by_cases h : i = j
  · subst h
    have : i < listed.size := by omega
    simp [this]
  · rw [getD_set_ne false h]
    constructor
    · exact .inl
    · rintro (h1 | h1)
      · exact h1
      · exact absurd h1.symm h

theorem prd_un {md : Region.Mode} {ops : Array Oper} {listed : Array Bool} {i : Nat} (inv : Clo md ops listed) (hun : listed.getD i false = false) : ∀ (n j : Nat), i ∈ prd md ops n j → listed.getD j false = false ∧ j ∉ Region.ready md ops listed
  | 0, j, h => by unfold prd at h; cases h
  | n + 1, j, h => by
    unfold prd at h
    split at h
    · rename_i oj hoj
      obtain ⟨e, he, h1⟩ := List.mem_flatMap.1 h
      split at h1
      · rename_i hb
        have hm : listed.getD e.on false = false := by
          rcases List.mem_cons.1 h1 with h2 | h2
          · rw [← h2]; exact hun
          · exact (prd_un inv hun n e.on h2).1
        have he' : e ∈ oj.after := by simpa using he
        constructor
        · cases hl : listed.getD j false with
          | false => rfl
          | true =>
            have := inv j oj hoj hl e he' hb
            rw [hm] at this
            cases this
        · intro hr
          obtain ⟨_, oj', hoj', hall⟩ := mem_ready.1 hr
          have : oj' = oj := Option.some.inj (hoj'.symm.trans hoj)
          subst this
          have := hall e he' hb
          rw [hm] at this
          cases this
      · cases h1
    · cases h
theorem waitsC_un {md : Region.Mode} {ops : Array Oper} {listed : Array Bool} {i j : Nat} (inv : Clo md ops listed) (hun : listed.getD i false = false) (h : waitsC md ops j i = true) : listed.getD j false = false ∧ j ∉ Region.ready md ops listed := by
  unfold waitsC at h
  obtain ⟨k, hk, he⟩ := List.any_eq_true.1 h
  rw [Nat.eq_of_beq_eq_true he] at hk
  exact prd_un inv hun 12 j hk
theorem readyC {md : Region.Mode} {ops : Array Oper} {listed : Array Bool} {i j : Nat} (inv : Clo md ops listed) (hr : i ∈ Region.ready md ops listed) (hw : waitsC md ops i j = true) : listed.getD j false = true := by
  cases hl : listed.getD j false with
  | true => rfl
  | false => exact absurd hr (waitsC_un inv hl hw).2
theorem listedC {md : Region.Mode} {ops : Array Oper} {listed : Array Bool} {i j : Nat} (inv : Clo md ops listed) (hl : listed.getD i false = true) (hw : waitsC md ops i j = true) : listed.getD j false = true := by
  cases h : listed.getD j false with
  | true => rfl
  | false =>
    have := (waitsC_un inv h hw).1
    rw [hl] at this
    cases this

/-- Behind the place from which each one waits for all before it: one after the other. -/
theorem any_chain {P : Program} {md : Region.Mode} {ops : Array Oper} {Q : Exit → Act → World → Prop} {m : Nat} (hb : ∀ (i : Nat) oi, ops[i]? = some oi → (∀ e ∈ oi.after, Region.binds md e = true → e.on < i) ∧ (m ≤ i → ∀ k, k < i → waitsC md ops i k = true)) :
    ∀ (f i : Nat) (listed : Array Bool) (a : Act) (w : World), m ≤ i → i ≤ ops.size → listed.size = ops.size → Clo md ops listed → (∀ j, j < ops.size → (listed.getD j false = true ↔ j < i)) → ops.size - i ≤ f →
      wpList P ops Q (ops.toList.drop i) a w → wpAny P md ops Q f listed a w := by
  have key : ∀ (i : Nat) (listed : Array Bool), m ≤ i → i ≤ ops.size → listed.size = ops.size → Clo md ops listed → (∀ j, j < ops.size → (listed.getD j false = true ↔ j < i)) → ∀ j, j ∈ Region.ready md ops listed ↔ (j = i ∧ i < ops.size) := by
    intro i listed hm hi hs inv hl j
    constructor
    · intro hr
      obtain ⟨hun, oj, hoj, _⟩ := mem_ready.1 hr
      have hj := (Array.getElem?_eq_some_iff.1 hoj).1
      have h1 := getD_both hun
      have h2 : ¬ j < i := fun h => by rw [(hl j hj).2 h] at h1; cases h1
      by_cases hji : j = i
      · exact ⟨hji, by omega⟩
      · exfalso
        have h3 := readyC inv hr ((hb j oj hoj).2 (by omega) i (by omega))
        have := (hl i (by omega)).1 h3
        omega
    · rintro ⟨rfl, hlt⟩
      have ho : ops[j]? = some ops[j] := Array.getElem?_eq_getElem hlt
      refine mem_ready.2 ⟨?_, _, ho, fun e he hbe => ?_⟩
      · rw [in_listed hs hlt]
        cases h : listed.getD j false with
        | false => rfl
        | true => have := (hl j hlt).1 h; omega
      · have := (hb j _ ho).1 e he hbe
        exact (hl e.on (by omega)).2 this
  intro f
  induction f with
  | zero =>
    intro i listed a w hm hi hs inv hl hf h
    have hie : i = ops.size := by omega
    refine ⟨?_, ?_⟩
    · cases hr : Region.ready md ops listed with
      | nil => rfl
      | cons j l =>
        exfalso
        have := (key i listed hm hi hs inv hl j).1 (by rw [hr]; simp)
        omega
    · rw [List.drop_eq_nil_of_le (by simp; omega)] at h
      exact h
  | succ f ih =>
    intro i listed a w hm hi hs inv hl hf h
    refine ⟨fun hr => ?_, fun j hr => ?_⟩
    · rcases Nat.lt_or_ge i ops.size with hlt | hge
      · have := (key i listed hm hi hs inv hl i).2 ⟨rfl, hlt⟩
        rw [hr] at this
        cases this
      · rw [List.drop_eq_nil_of_le (by simp; omega)] at h
        exact h
    · obtain ⟨rfl, hlt⟩ := (key i listed hm hi hs inv hl j).1 hr
      have ho : ops[j]? = some ops[j] := Array.getElem?_eq_getElem hlt
      have hd : ops.toList.drop j = ops[j] :: ops.toList.drop (j + 1) := by
        rw [List.drop_eq_getElem_cons (by simpa using hlt)]
        simp
      have hnext : ∀ a w, wpList P ops Q (ops.toList.drop (j + 1)) a w → wpAny P md ops Q f (listed.setIfInBounds j true) a w := fun a w hh =>
        ih (j + 1) _ a w (by omega) (by omega) (by simp [hs]) (inv.set hr) (fun k hk => by rw [set_get hs hlt, hl k hk]; omega) (by omega) hh
      rw [hd] at h
      unfold wpList at h
      unfold wpOp
      simp only [ho]
      split
      · rename_i hw
        rw [if_pos hw] at h
        rcases h with h | h
        · exact .inl (Oper.wp_mono hnext h)
        · exact .inr h
      · rename_i hw
        rw [if_neg hw] at h
        exact hnext _ _ h

/-- What yields the same in each world of a class. -/
theorem wp_of_quiet {P : Program} {o : Oper} {a : Act} {Cl : World → Prop} {w : World} {v : Value} {K : Act → World → Prop} {Q : Exit → Act → World → Prop} (h : o.quietAt P a Cl w v) (h0 : Cl w) (hK : ∀ w', Cl w' → K (a.put o.dst v) w') : o.wp P a w K Q := by
  unfold Oper.quietAt at h
  unfold Oper.wp
  generalize (execOp a.eval o).run P w = r at *
  cases r with
  | ok n w' =>
    cases n <;> simp only [Oper.quietUpon] at h
    case value u =>
      obtain ⟨rfl, rfl⟩ := h
      exact hK _ h0
    case skip =>
      obtain ⟨rfl, rfl⟩ := h
      exact hK _ h0
    case enter f args =>
      obtain ⟨rfl, hc⟩ := h
      simp only [Oper.upon]
      exact hc.mono fun e w'' he => by
        obtain ⟨rfl, hw⟩ := he
        exact hK _ hw
  | halt x w' => simp only [Oper.quietUpon] at h

theorem rowAt_set {mem : List (Option Blk)} {i : Nat} {c0 : List Value} (h : mem[i]? = some (some (.box c0))) (c : List Value) (id : Nat) : rowAt (mem.set i (some (.box c))) id = rowAt mem id := by
  have hlt : i < mem.length := by
    rcases Nat.lt_or_ge i mem.length with h1 | h1
    · exact h1
    · rw [List.getElem?_eq_none h1] at h; cases h
  unfold rowAt
  by_cases he : i = id
  · subst he
    rw [List.getElem?_set_self hlt, h]
  · rw [List.getElem?_set_ne he]

section order
variable {C : Cx} {md : Region.Mode} {ops : Array Oper} {m : Nat} {S : Nat → St} {v : Nat → Value} {ids : List Nat}

theorem step_mem {o : Oper} {u : Value} {σ σ1 : St} (h : StepC C o u σ σ1) (id : Nat) (hne : isWr o.op = true → aid σ o ≠ id) : σ1.mem[id]? = σ.mem[id]? := by
  rcases h with ⟨_, _, h3⟩ | ⟨t, a, x, mm, hop, hb, hs, h3⟩ | ⟨hal, b, _, _, h3⟩
  · rw [h3]; cases o.dst <;> rfl
  · rw [h3]
    obtain ⟨c, hc, _⟩ := storeV_boxC hb hs
    have hn := hne (by simp [isWr, isSt, hop])
    rw [aid_no (by simp [isAl, hop])] at hn
    simp only [hop, adrId] at hn
    show mm[id]? = _
    rw [hc, List.getElem?_set_ne hn]
  · have hn := hne (by simp [isWr, hal])
    unfold aid at hn
    rw [hal] at hn
    simp only at hn
    rw [h3]
    have : (σ.new o.dst ptr0 b).mem = σ.mem ++ [some b] := by unfold St.new; cases o.dst <;> rfl
    rw [this]
    rcases Nat.lt_or_ge id σ.mem.length with h | h
    · rw [List.getElem?_append_left h]
    · rw [List.getElem?_eq_none (by simp; omega), List.getElem?_eq_none h]
theorem step_len {o : Oper} {u : Value} {σ σ1 : St} (h : StepC C o u σ σ1) (hal : isAl o.op = false) : σ1.mem.length = σ.mem.length := by
  rcases h with ⟨_, _, h3⟩ | ⟨t, a, x, mm, hop, hb, hs, h3⟩ | ⟨hal', _⟩
  · rw [h3]; cases o.dst <;> rfl
  · rw [h3]
    obtain ⟨c, hc, _⟩ := storeV_boxC hb hs
    show mm.length = _
    rw [hc, List.length_set]
  · rw [hal] at hal'; cases hal'
theorem step_row {o : Oper} {u : Value} {σ σ1 : St} (h : StepC C o u σ σ1) (id : Nat) : rowAt σ1.mem id = rowAt σ.mem id := by
  by_cases hw : isWr o.op = true ∧ aid σ o = id
  · obtain ⟨hw, hid⟩ := hw
    rcases h with ⟨h1, _⟩ | ⟨t, a, x, mm, hop, hb, hs, h3⟩ | ⟨hal, b, hb, _, h3⟩
    · rw [hw] at h1; cases h1
    · rw [aid_no (by simp [isAl, hop])] at hid
      simp only [hop, adrId] at hid
      obtain ⟨c, hc, _⟩ := storeV_boxC hb hs
      rw [h3]
      unfold rowAt
      show (match mm[id]? with | some (some (.row ks own r)) => some (ks, own, r) | _ => none) = _
      rw [hc, ← hid]
      unfold inBox at hb
      split at hb
      · rename_i c0 hc0
        have hlt : idOf (env σ.τ a) < σ.mem.length := by
          rcases Nat.lt_or_ge (idOf (env σ.τ a)) σ.mem.length with h | h
          · exact h
          · rw [List.getElem?_eq_none h] at hc0; cases hc0
        rw [List.getElem?_set_self hlt, hc0]
      · cases hb
    · unfold aid at hid
      rw [hal] at hid
      simp only at hid
      obtain ⟨c, rfl⟩ := alBlk_box hb
      rw [h3]
      have : (σ.new o.dst ptr0 (.box c)).mem = σ.mem ++ [some (.box c)] := by unfold St.new; cases o.dst <;> rfl
      unfold rowAt
      rw [this, ← hid, List.getElem?_append_right (Nat.le_refl _), List.getElem?_eq_none (Nat.le_refl _)]
      simp
  · unfold rowAt
    rw [step_mem h id (fun h1 h2 => hw ⟨h1, h2⟩)]

theorem memC_keep (hm : m ≤ ops.size) (hS : ∀ i o, i < m → ops[i]? = some o → StepC C o (v i) (S i) (S (i + 1))) (hid : ∀ i o, i < m → ops[i]? = some o → ids.getD i 0 = aid (S i) o) (id : Nat) :
    ∀ (d e : Nat), e + d ≤ m → (∀ s o, e ≤ s → s < e + d → ops[s]? = some o → isWr o.op = true → ids.getD s 0 ≠ id) → (S (e + d)).mem[id]? = (S e).mem[id]?
  | 0, e, _, _ => rfl
  | d + 1, e, hle, h => by
    rw [← memC_keep hm hS hid id d e (by omega) fun s o h1 h2 => h s o h1 (by omega)]
    have ho : ops[e + d]? = some ops[e + d] := Array.getElem?_eq_getElem (by omega)
    exact step_mem (hS (e + d) _ (by omega) ho) id fun hw => by
      rw [← hid _ _ (by omega) ho]
      exact h (e + d) _ (by omega) (by omega) ho hw
theorem lenC (hm : m ≤ ops.size) (hS : ∀ i o, i < m → ops[i]? = some o → StepC C o (v i) (S i) (S (i + 1))) :
    ∀ (e : Nat), e ≤ m → (∀ s o, s < e → ops[s]? = some o → isAl o.op = false) → (S e).mem.length = (S 0).mem.length
  | 0, _, _ => rfl
  | e + 1, hle, h => by
    have ho : ops[e]? = some ops[e] := Array.getElem?_eq_getElem (by omega)
    rw [step_len (hS e _ (by omega) ho) (h e _ (by omega) ho), lenC hm hS e (by omega) fun s o hs => h s o (by omega)]
theorem rowC (hm : m ≤ ops.size) (hS : ∀ i o, i < m → ops[i]? = some o → StepC C o (v i) (S i) (S (i + 1))) (id : Nat) : ∀ (e : Nat), e ≤ m → rowAt (S e).mem id = rowAt (S 0).mem id
  | 0, _ => rfl
  | e + 1, hle => by
    have ho : ops[e]? = some ops[e] := Array.getElem?_eq_getElem (by omega)
    rw [step_row (hS e _ (by omega) ho), rowC hm hS id e (by omega)]

theorem step_tau {o : Oper} {u : Value} {σ σ1 : St} (h : StepC C o u σ σ1) (hst : isSt o.op = true → o.dst = none) : σ1.τ = putT o.dst u σ.τ ∧ σ1.saved = σ.saved := by
  rcases h with ⟨_, _, h3⟩ | ⟨t, a, x, mm, hop, hb, hs, h3⟩ | ⟨hal, b, _, hv, h3⟩
  · rw [h3]; unfold putT St.put; cases o.dst <;> exact ⟨rfl, rfl⟩
  · rw [h3, hst (by simp [isSt, hop])]; exact ⟨rfl, rfl⟩
  · rw [h3, hv]; unfold putT St.new St.put; cases o.dst <;> exact ⟨rfl, rfl⟩

theorem canonC (hm : m ≤ ops.size) (hS : ∀ i o, i < m → ops[i]? = some o → StepC C o (v i) (S i) (S (i + 1))) (ht : ordTextC md ops m ids = true) :
    ∀ (i : Nat), i ≤ m → Cell ops (S 0).τ v (fun j => decide (j < i)) (S i).τ ∧ (S i).saved = (S 0).saved
  | 0, _ => ⟨⟨rfl, fun j o d _ _ h => by simp at h, fun t _ => rfl⟩, rfl⟩
  | i + 1, hi => by
    obtain ⟨h1, h2⟩ := canonC hm hS ht i (by omega)
    have ho : ops[i]? = some ops[i] := Array.getElem?_eq_getElem (by omega)
    obtain ⟨xs, tx⟩ := textC_of ht (by omega) ho
    have h3 := h1.put (L' := fun j => decide (j < i + 1)) ho (fun j oj d => tx.one j oj d) (fun j => by simp; omega)
    obtain ⟨h4, h5⟩ := step_tau (hS i _ (by omega) ho) tx.std
    rw [h4, h5]
    exact ⟨h3, h2⟩

structure InvC (md : Region.Mode) (ops : Array Oper) (m : Nat) (S : Nat → St) (v : Nat → Value) (ids : List Nat) (listed : Array Bool) (σ : St) : Prop where
  size : listed.size = ops.size
  clo : Clo md ops listed
  bnd : ∀ j, m ≤ j → listed.getD j false = false
  cell : Cell ops (S 0).τ v (fun j => listed.getD j false) σ.τ
  sav : σ.saved = (S 0).saved
  mem : ∀ id, ∃ e, e ≤ m ∧ σ.mem[id]? = (S e).mem[id]? ∧ ∀ s o, s < m → ops[s]? = some o → isWr o.op = true → ids.getD s 0 = id → (listed.getD s false = true ↔ s < e)
  len : ∀ s o, s < m → ops[s]? = some o → isAl o.op = true → listed.getD s false = false → σ.mem.length = (S 0).mem.length
  row : ∀ id, rowAt σ.mem id = rowAt (S 0).mem id

theorem InvC.final (hm : m ≤ ops.size) (hS : ∀ i o, i < m → ops[i]? = some o → StepC C o (v i) (S i) (S (i + 1))) (hid : ∀ i o, i < m → ops[i]? = some o → ids.getD i 0 = aid (S i) o) (ht : ordTextC md ops m ids = true) {listed : Array Bool} {σ : St} (inv : InvC md ops m S v ids listed σ)
    (hall : ∀ i, i < m → listed.getD i false = true) : σ = S m := by
  obtain ⟨c1, c2⟩ := canonC hm hS ht m (Nat.le_refl _)
  have e1 : σ.τ = (S m).τ := List.ext_getElem? fun t => inv.cell.get c1 fun j o hj _ => by
    rcases Nat.lt_or_ge j m with h | h
    · rw [hall j h]; simp [h]
    · rw [inv.bnd j h]; simp; omega
  have e2 : σ.mem = (S m).mem := List.ext_getElem? fun id => by
    obtain ⟨e, he, h1, h2⟩ := inv.mem id
    rw [h1]
    have := memC_keep hm hS hid id (m - e) e (by omega) fun s o h3 h4 h5 h6 h7 => by
      have := (h2 s o (by omega) h5 h6 h7).1 (hall s (by omega))
      omega
    rw [show e + (m - e) = m by omega] at this
    exact this.symm
  have e3 : σ.saved = (S m).saved := inv.sav.trans c2.symm
  cases σ
  generalize S m = q at *
  cases q
  simp only at e1 e2 e3
  subst e1; subst e2; subst e3
  rfl

theorem envC_same (hm : m ≤ ops.size) (hS : ∀ i o, i < m → ops[i]? = some o → StepC C o (v i) (S i) (S (i + 1))) (ht : ordTextC md ops m ids = true) {listed : Array Bool} {σ : St} (inv : InvC md ops m S v ids listed σ) {i : Nat} {oi : Oper} {xs : List Operand} (hi : i < m) (tx : TextC md ops m ids i oi xs) (hr : i ∈ Region.ready md ops listed) :
    ∀ x, x ∈ xs → env (S i).τ x = env σ.τ x := fun x hx => by
  obtain ⟨c1, _⟩ := canonC hm hS ht i (by omega)
  cases x with
  | tmp t =>
    show getF _ _ = getF _ _
    rw [getF_eq, getF_eq, List.getD_eq_getElem?_getD, List.getD_eq_getElem?_getD]
    rw [c1.get inv.cell (t := t) fun j o hj hd => by
      rcases Nat.lt_or_ge j m with h | h
      · obtain ⟨k1, k2⟩ := tx.rd j o t h hj hd hx
        have := readyC inv.clo hr k2
        rw [this]
        simpa using k1
      · rw [inv.bnd j h]; simp; omega]
  | const v => rfl
  | global g => rfl
  | func f => rfl

theorem ord_anyC (hC : CxOk C) (hm : m ≤ ops.size) (hS : ∀ i o, i < m → ops[i]? = some o → StepC C o (v i) (S i) (S (i + 1))) (hid : ∀ i o, i < m → ops[i]? = some o → ids.getD i 0 = aid (S i) o) (ht : ordTextC md ops m ids = true)
    {w0 : World} {cs : List (Array Value)} {Q : Exit → Act → World → Prop} (hQ : ∀ a w ρ, Rel w0 (S m) a cs w ρ → wpList C.P ops Q (ops.toList.drop m) a w) :
    ∀ (f : Nat) (listed : Array Bool) (σ : St) (a : Act) (w : World) (ρ : Map), ((List.range ops.size).filter fun i => !listed.getD i false).length ≤ f → InvC md ops m S v ids listed σ → Rel w0 σ a cs w ρ → wpAny C.P md ops Q f listed a w := by
  have fin : ∀ (f : Nat) (listed : Array Bool) (σ : St) (a : Act) (w : World) (ρ : Map), ((List.range ops.size).filter fun i => !listed.getD i false).length ≤ f → InvC md ops m S v ids listed σ → Rel w0 σ a cs w ρ → (∀ i, i < m → listed.getD i false = true) → wpAny C.P md ops Q f listed a w := by
    intro f listed σ a w ρ hf inv hR hall
    refine any_chain (m := m) (fun i oi hi => textC_back ht hi) f m listed a w (Nat.le_refl _) hm inv.size inv.clo (fun j _ => ?_) ?_ (hQ a w ρ (by rw [← inv.final hm hS hid ht hall]; exact hR))
    · constructor
      · intro h
        rcases Nat.lt_or_ge j m with h1 | h1
        · exact h1
        · rw [inv.bnd j h1] at h; cases h
      · exact hall j
    · refine Nat.le_trans ?_ hf
      have e1 : ((List.range ops.size).filter fun i => decide (m ≤ i)).length = ops.size - m := by
        have : ∀ n, ((List.range n).filter fun i => decide (m ≤ i)).length = n - m := by
          intro n
          induction n with
          | zero => simp
          | succ n ih =>
            rw [List.range_succ, List.filter_append, List.length_append, ih]
            by_cases h : m ≤ n
            · simp [h]; omega
            · simp [h]; omega
        exact this _
      rw [← e1]
      exact Nat.le_of_eq (by
        congr 1
        refine List.filter_congr fun i _ => ?_
        rcases Nat.lt_or_ge i m with h | h
        · rw [hall i h]; simp; omega
        · rw [inv.bnd i h]; simp [h])
  intro f
  induction f with
  | zero =>
    intro listed σ a w ρ hf inv hR
    refine fin 0 listed σ a w ρ hf inv hR fun i hi => ?_
    cases hl : listed.getD i false with
    | true => rfl
    | false =>
      exfalso
      have : i ∈ (List.range ops.size).filter fun i => !listed.getD i false := List.mem_filter.2 ⟨List.mem_range.2 (by omega), by rw [hl]; rfl⟩
      have hz : ((List.range ops.size).filter fun i => !listed.getD i false) = [] := List.eq_nil_of_length_eq_zero (by omega)
      rw [hz] at this
      cases this
  | succ f ih =>
    intro listed σ a w ρ hf inv hR
    by_cases hall : ∀ i, i < m → listed.getD i false = true
    · exact fin (f + 1) listed σ a w ρ hf inv hR hall
    have hex : ∃ i, i < m ∧ listed.getD i false = false := by
      refine Classical.byContradiction fun hn => hall fun i hi => ?_
      cases hl : listed.getD i false with
      | true => rfl
      | false => exact absurd ⟨i, hi, hl⟩ hn
    refine ⟨fun h => ?_, fun i hr => ?_⟩
    · exfalso
      have hno : ∀ i, i < m → listed.getD i false = true := by
        intro i
        induction i using Nat.strongRecOn with
        | _ i ihi =>
          intro hi
          cases hl : listed.getD i false with
          | true => rfl
          | false =>
            have ho : ops[i]? = some ops[i] := Array.getElem?_eq_getElem (by omega)
            have : i ∈ Region.ready md ops listed := mem_ready.2 ⟨by rw [in_listed inv.size (by omega)]; exact hl, _, ho, fun e he hb => by
              have := (textC_back ht ho).1 e he hb
              exact ihi e.on this (by omega)⟩
            rw [h] at this
            cases this
      exact hall hno
    obtain ⟨hun, oi, hoi, _⟩ := mem_ready.1 hr
    have hio := (Array.getElem?_eq_some_iff.1 hoi).1
    have hi : i < m := by
      rcases Nat.lt_or_ge i m with h | h
      · exact h
      · exfalso
        obtain ⟨j, hj, hjl⟩ := hex
        have := readyC inv.clo hr ((textC_back ht hoi).2 h j (by omega))
        rw [hjl] at this
        cases this
    obtain ⟨xs, tx⟩ := textC_of ht hi hoi
    have henv := envC_same hm hS ht inv hi tx hr
    have hcount : ((List.range ops.size).filter fun j => !(listed.setIfInBounds i true).getD j false).length ≤ f := by
      have e1 : ((List.range ops.size).filter fun j => !(listed.setIfInBounds i true).getD j false) = ((List.range ops.size).filter fun j => !listed.getD j false).erase i := by
        rw [List.Nodup.erase_eq_filter (List.nodup_range.filter _), List.filter_filter]
        refine List.filter_congr fun j _ => ?_
        rw [Bool.eq_iff_iff]
        simp only [Bool.not_eq_true', Bool.and_eq_true, bne_iff_ne, ne_eq]
        rw [← Bool.not_eq_true, ← Bool.not_eq_true, set_get inv.size hio]
        constructor
        · intro h; exact ⟨fun h1 => h (.inr h1), fun h1 => h (.inl h1)⟩
        · rintro ⟨h1, h2⟩ (h3 | h3)
          · exact h2 h3
          · exact h1 h3
      have hmem : i ∈ (List.range ops.size).filter fun j => !listed.getD j false := List.mem_filter.2 ⟨List.mem_range.2 hio, by rw [getD_both hun]; rfl⟩
      rw [e1, List.length_erase_of_mem hmem]
      omega
    have hwant : Region.wanted oi (yielded ops a.tmps) = true := by simp [Region.wanted, tx.guard]
    have hcell := inv.cell.put (L' := fun j => (listed.setIfInBounds i true).getD j false) hoi (fun j oj d => tx.one j oj d) (fun j => set_get inv.size hio)
    have hst := hS i oi hi hoi
    -- the memory at the block that is read or written is what it is in the text's order
    have hmem : ∀ id, (∀ s o, s < m → ops[s]? = some o → isWr o.op = true → ids.getD s 0 = id → s ≠ i → (s < i → listed.getD s false = true) ∧ (i < s → listed.getD s false = false)) → σ.mem[id]? = (S i).mem[id]? := by
      intro id hw
      obtain ⟨e, he, h1, h2⟩ := inv.mem id
      rw [h1]
      rcases Nat.le_total e i with hle | hle
      · have := memC_keep hm hS hid id (i - e) e (by omega) fun s o h3 h4 h5 h6 h7 => by
          have h8 := (hw s o (by omega) h5 h6 h7 (by omega)).1 (by omega)
          have := (h2 s o (by omega) h5 h6 h7).1 h8
          omega
        rw [show e + (i - e) = i by omega] at this
        exact this.symm
      · have := memC_keep hm hS hid id (e - i) i (by omega) fun s o h3 h4 h5 h6 h7 => by
          by_cases hsi : s = i
          · subst hsi
            have := (h2 s o (by omega) h5 h6 h7).2 (by omega)
            rw [getD_both hun] at this
            cases this
          · have h8 := (hw s o (by omega) h5 h6 h7 hsi).2 (by omega)
            have := (h2 s o (by omega) h5 h6 h7).2 (by omega)
            rw [h8] at this
            cases this
        rw [show i + (e - i) = e by omega] at this
        exact this
    have hrow : ∀ id, rowAt σ.mem id = rowAt (S i).mem id := fun id => by rw [inv.row id, rowC hm hS id i (by omega)]
    unfold wpOp
    simp only [hoi]
    rw [if_pos hwant]
    left
    -- who writes a block: in the text's order
    have hwr : isWr oi.op = true → ∀ s o, s < m → ops[s]? = some o → isWr o.op = true → ids.getD s 0 = ids.getD i 0 → s ≠ i → (s < i → listed.getD s false = true) ∧ (i < s → listed.getD s false = false) := by
      intro hwi s o hs hso hws hids hne
      refine ⟨fun hlt => readyC inv.clo hr (tx.ww s o hs hso hwi hws hlt hids.symm), fun hlt => ?_⟩
      obtain ⟨ys, ty⟩ := textC_of ht hs hso
      cases hl : listed.getD s false with
      | false => rfl
      | true =>
        have := listedC inv.clo hl (ty.ww i oi hi hoi hws hwi hlt hids)
        rw [getD_both hun] at this
        cases this
    -- the memory behind a write
    have hnew : ∀ (mem1 : List (Option Blk)), isWr oi.op = true → mem1[ids.getD i 0]? = (S (i + 1)).mem[ids.getD i 0]? → (∀ id, id ≠ ids.getD i 0 → mem1[id]? = σ.mem[id]?) →
        ∀ id, ∃ e, e ≤ m ∧ mem1[id]? = (S e).mem[id]? ∧ ∀ s o, s < m → ops[s]? = some o → isWr o.op = true → ids.getD s 0 = id → ((listed.setIfInBounds i true).getD s false = true ↔ s < e) := by
      intro mem1 hwi h1 h2 id
      by_cases hide : id = ids.getD i 0
      · subst hide
        refine ⟨i + 1, by omega, h1, fun s o hs hso hws hids => ?_⟩
        rw [set_get inv.size hio]
        by_cases hsi : s = i
        · exact ⟨fun _ => by omega, fun _ => .inr hsi⟩
        · obtain ⟨k1, k2⟩ := hwr hwi s o hs hso hws hids hsi
          constructor
          · rintro (h | h)
            · rcases Nat.lt_or_ge i s with h3 | h3
              · rw [k2 h3] at h; cases h
              · omega
            · omega
          · intro h
            exact .inl (k1 (by omega))
      · obtain ⟨e, he, h3, h4⟩ := inv.mem id
        refine ⟨e, he, by rw [h2 id hide, h3], fun s o hs hso hws hids => ?_⟩
        rw [set_get inv.size hio, ← h4 s o hs hso hws hids]
        constructor
        · rintro (h | h)
          · exact h
          · exact absurd (by rw [← hids, h]) hide
        · exact .inl
    have hbnd : ∀ j, m ≤ j → (listed.setIfInBounds i true).getD j false = false := fun j hj => by
      rw [getD_set_ne false (by omega)]
      exact inv.bnd j hj
    have hidi := hid i oi hi hoi
    rcases hst with ⟨hnw, hv, hn⟩ | ⟨t, x, y, mm, hop, hb, hs, hn⟩ | ⟨hal, b, hbk, hvi, hn⟩
    · -- what leaves memory as it is
      have hv' : evQ C true σ.mem (env σ.τ) oi some = some (v i) := by
        rw [evQ_congr (f := env (S i).τ) (g := env σ.τ) (mem := (S i).mem) tx.opn hnw henv (fun hl => ?_) hrow some]
        · exact hv
        · refine hmem _ fun s o hso hsop hws hids hne => ?_
          have hal : isAl oi.op = false := by
            cases h : isAl oi.op with
            | false => rfl
            | true => simp [isWr, h] at hnw
          rw [← aid_no hal, ← hidi] at hids
          rcases tx.lw s o hso hsop hl hws with ⟨h1, h2⟩ | ⟨h1, h2⟩ | h1
          · exact ⟨fun _ => readyC inv.clo hr h1, fun h => by omega⟩
          · refine ⟨fun h => by omega, fun _ => ?_⟩
            cases hll : listed.getD s false with
            | false => rfl
            | true =>
              have := listedC inv.clo hll h1
              rw [getD_both hun] at this
              cases this
          · exact absurd hids.symm h1
      obtain ⟨u, cv, h1, h2, h3, _⟩ := evQ_sound hC hR.mem (fun x => hR.tmps.env x) hv'
      cases h1
      refine wp_of_quiet (h3 w (Below.refl _ _)) (Below.refl _ _) fun w' hw' => ?_
      refine ih _ (σ.put oi.dst (v i)) _ _ ρ hcount ?_ ((hR.put oi.dst h2).later hw')
      have hmm : (σ.put oi.dst (v i)).mem = σ.mem := by cases oi.dst <;> rfl
      refine ⟨by simp [inv.size], inv.clo.set hr, hbnd, ?_, ?_, fun id => ?_, fun s o hs hso hals hun' => ?_, fun id => by rw [hmm]; exact inv.row id⟩
      · have : (σ.put oi.dst (v i)).τ = putT oi.dst (v i) σ.τ := by unfold putT St.put; cases oi.dst <;> rfl
        rw [this]
        exact hcell
      · have : (σ.put oi.dst (v i)).saved = σ.saved := by cases oi.dst <;> rfl
        rw [this]
        exact inv.sav
      · obtain ⟨e, he, h4, h5⟩ := inv.mem id
        refine ⟨e, he, by rw [hmm]; exact h4, fun s o hs hso hws hids => ?_⟩
        rw [set_get inv.size hio, ← h5 s o hs hso hws hids]
        constructor
        · rintro (h | rfl)
          · exact h
          · rw [hoi] at hso; cases hso; rw [hnw] at hws; cases hws
        · exact .inl
      · rw [hmm]
        refine inv.len s o hs hso hals ?_
        cases hl : listed.getD s false with
        | false => rfl
        | true => rw [(set_get inv.size hio).2 (.inl hl)] at hun'; cases hun'
    · -- a store
      have hsi : isSt oi.op = true := by simp [isSt, hop]
      have hwi : isWr oi.op = true := by simp [isWr, hsi]
      have hxs := tx.opn
      rw [hop] at hxs
      simp only [opndsC, Option.some.injEq] at hxs
      subst hxs
      have hidx : ids.getD i 0 = idOf (env (S i).τ x) := by rw [hidi, aid_no (by simp [isAl, hop])]; simp [hop, adrId]
      have hsame : σ.mem[idOf (env (S i).τ x)]? = (S i).mem[idOf (env (S i).τ x)]? := hmem _ fun s o hso hsop hws hids hne => hwr hwi s o hso hsop hws (by rw [hids, hidx]) hne
      obtain ⟨c, hc1, hc2⟩ := storeV_boxC hb hs
      have hs' := hc2 σ.mem hsame
      rw [henv x (by simp), henv y (by simp)] at hs'
      obtain ⟨w', ρ1, k1, k2, k3, k4, k5⟩ := storeV_sound hs' hR.mem (hR.tmps.env x) (hR.tmps.env y)
      have hrun : (execOp a.eval oi).run C.P w = .ok .skip w' := by simp [execOp, hop, k1]
      unfold Oper.wp
      rw [hrun]
      rw [← henv x (by simp)] at k2 k3
      have hR1 := hR.mono (k5 w0 hR.below) k2 (by omega) (fun id _ => k4 id)
      have hd := tx.std hsi
      show wpAny C.P md ops Q f (listed.setIfInBounds i true) (a.put oi.dst undef) w'
      rw [hd]
      have hlt : idOf (env (S i).τ x) < σ.mem.length := by
        rcases Nat.lt_or_ge (idOf (env (S i).τ x)) σ.mem.length with h | h
        · exact h
        · rw [List.getElem?_eq_none h] at hsame
          unfold inBox at hb
          rw [← hsame] at hb
          cases hb
      have hlt' : idOf (env (S i).τ x) < (S i).mem.length := by
        rcases Nat.lt_or_ge (idOf (env (S i).τ x)) (S i).mem.length with h | h
        · exact h
        · unfold inBox at hb
          rw [List.getElem?_eq_none h] at hb
          cases hb
      refine ih _ { σ with mem := σ.mem.set (idOf (env (S i).τ x)) (some (.box c)) } a w' ρ1 hcount ?_ hR1
      rw [hd] at hcell
      refine ⟨by simp [inv.size], inv.clo.set hr, hbnd, hcell, inv.sav, hnew _ hwi ?_ ?_, fun s o hso hsop hals hun' => ?_, fun id => ?_⟩
      · rw [hidx, List.getElem?_set_self hlt, hn]
        show _ = mm[_]?
        rw [hc1, List.getElem?_set_self hlt']
      · intro id hne
        rw [hidx] at hne
        rw [List.getElem?_set_ne (fun h => hne h.symm)]
      · show (σ.mem.set _ _).length = _
        rw [List.length_set]
        refine inv.len s o hso hsop hals ?_
        cases hl : listed.getD s false with
        | false => rfl
        | true => rw [(set_get inv.size hio).2 (.inl hl)] at hun'; cases hun'
      · rw [← inv.row id]
        unfold inBox at hb
        split at hb
        · rename_i c0 hc0
          exact rowAt_set (hsame.trans hc0) c id
        · cases hb
    · -- a block that is made
      have hwi : isWr oi.op = true := by simp [isWr, hal]
      have hbk' : alBlk C (env σ.τ) oi.op = some b := by rw [alBlk_congr tx.opn henv]; exact hbk
      have hlen : σ.mem.length = (S 0).mem.length := inv.len i oi hi hoi hal (getD_both hun)
      have hlenS : (S i).mem.length = (S 0).mem.length := lenC hm hS i (by omega) fun s o hs hso => by
        cases h : isAl o.op with
        | false => rfl
        | true =>
          have := tx.aa s o (by omega) hso hal h
          omega
      have hidl : ids.getD i 0 = σ.mem.length := by rw [hidi]; unfold aid; rw [hal]; simp only; omega
      have hnone : InlOk (α := St) C (fun _ _ _ _ => none) := fun f args σ k r h => by cases h
      refine evEff_sound (α := St) hC hnone hR (k := some) (r := σ.new oi.dst ptr0 b) (by rw [evEff_al hbk']) fun σ1 a1 w1 ρ1 hR1 hk => ?_
      · cases hk
        have hmm : (σ.new oi.dst ptr0 b).mem = σ.mem ++ [some b] := by unfold St.new; cases oi.dst <;> rfl
        obtain ⟨c, rfl⟩ := alBlk_box hbk
        refine ih _ (σ.new oi.dst ptr0 (.box c)) a1 w1 ρ1 hcount ?_ hR1
        refine ⟨by simp [inv.size], inv.clo.set hr, hbnd, ?_, ?_, hnew _ hwi ?_ ?_, fun s o hso hsop hals hun' => ?_, fun id => ?_⟩
        · have : (σ.new oi.dst ptr0 (.box c)).τ = putT oi.dst (v i) σ.τ := by
            rw [hvi, hlenS, ← hlen]
            unfold St.new St.put putT
            cases oi.dst <;> rfl
          rw [this]
          exact hcell
        · rw [← inv.sav]
          unfold St.new
          cases oi.dst <;> rfl
        · have : (S (i + 1)).mem = (S i).mem ++ [some (.box c)] := by rw [hn]; unfold St.new; cases oi.dst <;> rfl
          rw [hmm, this, hidl, List.getElem?_append_right (Nat.le_refl _), List.getElem?_append_right (by omega)]
          rw [show σ.mem.length - σ.mem.length = 0 by omega, show σ.mem.length - (S i).mem.length = 0 by omega]
        · intro id hne
          rw [hmm]
          rw [hidl] at hne
          rcases Nat.lt_or_ge id σ.mem.length with h | h
          · rw [List.getElem?_append_left h]
          · rw [List.getElem?_eq_none (by simp; omega), List.getElem?_eq_none h]
        · exfalso
          have := tx.aa s o hso hsop hal hals
          subst this
          rw [(set_get inv.size hio).2 (.inr rfl)] at hun'
          cases hun'
        · rw [← inv.row id, hmm]
          unfold rowAt
          rcases Nat.lt_or_ge id σ.mem.length with h | h
          · rw [List.getElem?_append_left h]
          · by_cases he : id = σ.mem.length
            · subst he
              rw [List.getElem?_append_right (Nat.le_refl _), List.getElem?_eq_none (Nat.le_refl _)]
              simp
            · rw [List.getElem?_eq_none (by simp; omega), List.getElem?_eq_none h]
end order

theorem chainN_le (md : Region.Mode) (ops : Array Oper) : ∀ j, chainN md ops j ≤ j
  | 0 => Nat.le_refl _
  | j + 1 => by
    unfold chainN
    split
    · exact Nat.le_succ_of_le (chainN_le md ops j)
    · exact Nat.le_refl _

theorem wp_region_ordC {C : Cx} (hC : CxOk C) {id : Nat} {ops : Array Oper} {m : Nat} (hm : m ≤ ops.size) {σ : St} {w0 : World} {cs : List (Array Value)} {a : Act} {w : World} {ρ : Map} {Q : Exit → Act → World → Prop} {α : Type} {k : St → Option α} {r : α}
    (h : ordRunC C (ops.toList.take m) σ [] (fun σ1 ids => match ordTextC .any ops m ids with | true => k σ1 | false => none) = some r) (hR : Rel w0 σ a cs w ρ)
    (hQ : ∀ σ1 a1 w1 ρ1, Rel w0 σ1 a1 cs w1 ρ1 → k σ1 = some r → wpList C.P ops Q (ops.toList.drop m) a1 w1) : (Code.region id ops true).wp C.P Q a w := by
  obtain ⟨S, v, ids, h0, h1, _, h3, h4⟩ := ordRunC_spec _ _ _ h
  have hl : (ops.toList.take m).length = m := by simp; omega
  have hget : ∀ i o, i < m → ops[i]? = some o → (ops.toList.take m)[i]? = some o := fun i o hi ho => by
    rw [List.getElem?_take_of_lt hi]
    simpa using ho
  rw [hl] at h4
  split at h4
  · rename_i ht
    refine wp_region_any hC.mixed ?_
    have h1' : ∀ i o, i < m → ops[i]? = some o → StepC C o (v i) (S i) (S (i + 1)) := fun i o hi ho => h1 i o (hget i o hi ho)
    have h3' : ∀ i o, i < m → ops[i]? = some o → ids.getD i 0 = aid (S i) o := fun i o hi ho => by simpa using h3 i o (hget i o hi ho)
    refine ord_anyC hC hm h1' h3' ht (fun a1 w1 ρ1 hR1 => hQ _ a1 w1 ρ1 hR1 (by simpa using h4)) ops.size _ σ a _ ρ ?_ ?_ (hR.later (Below.drew (Below.refl _ _)))
    · exact Nat.le_trans (List.length_filter_le _ _) (by simp)
    · subst h0
      refine ⟨by simp, Clo.none, fun j _ => getD_replicate_false _ _, ⟨rfl, fun j o d _ _ hl => ?_, fun t _ => rfl⟩, rfl, fun id => ⟨0, Nat.zero_le _, rfl, fun s o _ _ _ _ => ?_⟩, fun _ _ _ _ _ _ => rfl, fun _ => rfl⟩
      · have hl : (Array.replicate ops.size false).getD j false = true := hl
        rw [getD_replicate_false] at hl; cases hl
      · rw [getD_replicate_false]; simp
  · cases h4
end
end Go.Ev

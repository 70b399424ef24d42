/- The evaluator's pure operations, second part: parts, '==', arithmetic, and all of them together. No conditions. -/
import Derived.Test.YtlfeobdfgmlmpaaGreatDoorEvC
import Derived.ChangeKeysEq
namespace Go.Ev
open Go.RowKit
section
variable {P : Program} {mem : List (Option Blk)} {ρ : Map} {B N : Nat} {w : World}

theorem partV_sound {t : TypeId} {xs ys : Array Value} {off : Nat} {v : Value} (h : partV P t xs.toList off = some v) (hs : xs.size = ys.size)
    (hx : ∀ (i : Nat) (x y : Value), xs[i]? = some x → ys[i]? = some y → V ρ N x y) : ∃ cv, V ρ N v cv ∧ ∀ w : World, (part t ys off).run P w = .ok cv w := by
  unfold partV at h
  split at h
  · rename_i i hi ha
    cases h
    refine ⟨.agg (ys.extract off (off + i.size)), .agg (by simp; omega) fun k x y hk hy => ?_, fun w => by simp [part, aggT_spec ha, run_sizeOf hi]⟩
    simp only [List.getElem?_toArray] at hk
    have hk' : k < i.size := by have := (List.getElem?_eq_some_iff.1 hk).1; simp at this; omega
    rw [take_drop_getElem? _ _ _ _ hk'] at hk
    rw [Array.getElem?_extract] at hy
    split at hy
    · exact hx (off + k) x y (by simpa using hk) hy
    · cases hy
  · rename_i i hi ha
    have h2 : xs[off]? = some v := by simpa using h
    have hlt : off < ys.size := by rw [← hs]; exact (Array.getElem?_eq_some_iff.1 h2).1
    exact ⟨ys[off], hx off v _ h2 (Array.getElem?_eq_getElem hlt), fun w => by simp [part, aggT_spec ha, hlt]⟩
  · cases h

theorem cellsOf_info {t : TypeId} {i : TypeInfo} (h : P.info? t = some i) : P.cellsOf t = i.size := by simp [Program.cellsOf, h]

theorem eqV_sound : ∀ (d : Nat) (t : TypeId) (x y cx cy : Value) (b : Bool), eqV P d t x y = some b → V ρ N x cx → V ρ N y cy → ∀ w : World, (Op.equalIn d t cx cy).run P w = .ok b w := by
  intro d
  induction d with
  | zero => intro t x y cx cy b h; simp [eqV] at h
  | succ d ih =>
    intro t x y cx cy b h hx hy w
    simp only [eqV] at h
    split at h
    · rename_i a a' hu
      cases hx; cases hy; cases h
      exact run_equalIn_bool' w d t _ _ hu
    · rename_i k k1 a k2 b' hu
      split at h
      · rename_i hk
        cases h; subst hk; cases hx; cases hy
        exact run_equalIn_int w d t _ _ _ _ hu
      · cases h
    · rename_i a b' hu
      cases hx; cases hy; cases h
      rw [run_equalIn_string w d t _ _ hu, beq_toListBytes]
    · rename_i fields xs ys hu
      cases hx with
      | agg hs1 hx =>
      rename_i xs'
      cases hy with
      | agg hs2 hy =>
      rename_i ys'
      split at h
      · cases h
      · rename_i hst
        have hf : P.fieldsOf t = fields := by simp [Program.fieldsOf, hu]
        rw [run_equalIn_struct w d t xs' ys' (by rw [hf]; exact hu) (by simpa using hst), hf]
        revert h
        generalize fields.toList = fs
        clear hf hu
        induction fs generalizing b w with
        | nil => intro h; simp at h; subst h; simp [Op.eqFields]
        | cons f fs ihf =>
          intro h
          simp only [List.foldr_cons] at h
          split at h
          · cases h
          · rename_i hname
            split at h
            · rename_i p q hp hq
              split at h
              · rename_i u v hu hv
                cases h
                obtain ⟨cp, hcp, hrp⟩ := partV_sound hp hs1 hx
                obtain ⟨cq, hcq, hrq⟩ := partV_sound hq hs2 hy
                have he := ih _ _ _ _ _ _ hu hcp hcq w
                simp only [Op.eqFields, if_pos (show f.name ≠ "_" from hname), Sem.run_bind, hrp, hrq, he, Result.andThen_ok]
                cases u with
                | true => simpa using ihf v w hv
                | false => simp
              · cases h
            · cases h
    · rename_i len elem xs ys hu
      cases hx with
      | agg hs1 hx =>
      rename_i xs'
      cases hy with
      | agg hs2 hy =>
      rename_i ys'
      split at h
      · rename_i i hi
        rw [run_equalIn_array w d xs' ys' hu hi, cellsOf_info hi]
        revert h
        generalize List.range len = is
        induction is generalizing b w with
        | nil => intro h; simp at h; subst h; simp [Op.eqItems]
        | cons n is ihf =>
          intro h
          simp only [List.foldr_cons] at h
          split at h
          · rename_i p q hp hq
            split at h
            · rename_i u v hu hv
              cases h
              obtain ⟨cp, hcp, hrp⟩ := partV_sound hp hs1 hx
              obtain ⟨cq, hcq, hrq⟩ := partV_sound hq hs2 hy
              have he := ih _ _ _ _ _ _ hu hcp hcq w
              simp only [Op.eqItems, Sem.run_bind, hrp, hrq, he, Result.andThen_ok]
              cases u with
              | true => simpa using ihf v w hv
              | false => simp
            · cases h
          · cases h
      · cases h
    · cases h

theorem br_none {α : Type} {b : Bool} {y : Option α} {r : α} (h : br b none y = some r) : b = false ∧ y = some r := by cases b <;> simp [br] at h ⊢; exact h
theorem br_none' {α : Type} {b : Bool} {y : Option α} {r : α} (h : br b y none = some r) : b = true ∧ y = some r := by cases b <;> simp [br] at h ⊢; exact h

theorem run_shift_any (op : BinOp) (k yk : IntKind) (a b : Int) (hb : ¬ b < 0) (w : World) (hop : op = .shl ∨ op = .shr) :
    (Op.shift op k a yk b).run P w = .ok (if op = .shl then .int k (k.wrap (a * 2 ^ (min b.toNat k.bits))) else .int k (a.fdiv (2 ^ (min b.toNat k.bits)))) w := by
  rcases hop with rfl | rfl <;> simp [Op.shift, hb]

theorem binV_sound {α : Type} {op : BinOp} {t : TypeId} {x y cx cy : Value} {ox oy : Operand} {k : Value → Option α} {r : α} (h : binV P op t x y k = some r) (hx : V ρ N x cx) (hy : V ρ N y cy) :
    ∃ v, k v = some r ∧ V ρ N v v ∧ ∀ w : World, (do eqGuard op t ox oy cx cy; binOp op t cx cy : Sem Value).run P w = .ok v w := by
  unfold binV at h
  split at h
  · rename_i kd a kd' b
    cases hx; cases hy
    have hg : ∀ w : World, (eqGuard op t ox oy (.int kd a) (.int kd' b)).run P w = .ok () w := by intro w; cases op <;> simp [eqGuard]
    split at h
    · obtain ⟨hb, hk⟩ := br_none h
      have hb' : ¬ b < 0 := by simpa using hb
      exact ⟨_, hk, .int, fun w => by simp [hg, binOp, run_shift_any .shl kd kd' a b hb' w (.inl rfl)]⟩
    · obtain ⟨hb, hk⟩ := br_none h
      have hb' : ¬ b < 0 := by simpa using hb
      exact ⟨_, hk, .int, fun w => by simp [hg, binOp, run_shift_any .shr kd kd' a b hb' w (.inr rfl)]⟩
    · rename_i hs1 hs2
      split at h
      · cases h
      · rename_i hkk
        have hkk' : kd = kd' := by simpa using hkk
        subst hkk'
        split at h
        · exact ⟨_, h, .int, fun w => by simp [binOp, Op.intArith, eqGuard]⟩
        · exact ⟨_, h, .int, fun w => by simp [binOp, Op.intArith, eqGuard]⟩
        · exact ⟨_, h, .int, fun w => by simp [binOp, Op.intArith, eqGuard]⟩
        · obtain ⟨hb, hk⟩ := br_none h
          have hb' : ¬ b = 0 := by simpa using hb
          exact ⟨_, hk, .int, fun w => by simp [binOp, Op.intDiv, eqGuard, hb']⟩
        · obtain ⟨hb, hk⟩ := br_none h
          have hb' : ¬ b = 0 := by simpa using hb
          exact ⟨_, hk, .int, fun w => by simp [binOp, Op.intDiv, eqGuard, hb']⟩
        · exact ⟨_, h, .bool, fun w => by simp [binOp, Op.intCmp, eqGuard]⟩
        · exact ⟨_, h, .bool, fun w => by simp [binOp, Op.intCmp, eqGuard]⟩
        · exact ⟨_, h, .bool, fun w => by simp [binOp, Op.intCmp, eqGuard]⟩
        · exact ⟨_, h, .bool, fun w => by simp [binOp, Op.intCmp, eqGuard]⟩
        · exact ⟨_, h, .bool, fun w => by simp [binOp, Op.intCmp, eqGuard]⟩
        · exact ⟨_, h, .bool, fun w => by simp [binOp, Op.intCmp, eqGuard]⟩
        · split at h
          · rename_i m hm
            unfold bitsV at hm
            split at hm <;> first | cases hm | skip
            all_goals exact ⟨_, h, .int, fun w => by simp [binOp, Op.intBits, eqGuard]⟩
          · cases h
  · rename_i a b
    cases hx; cases hy
    split at h
    · obtain ⟨hb, hk⟩ := br_none h
      have hb' : ¬ (((a.size + b.size : Nat) : Int) > IntKind.i64.max) := by simpa using hb
      exact ⟨_, hk, .str, fun w => by
        have : binOp .add t (.string a) (.string b) = pure (.string (a ++ b)) := by
          simp only [binOp, Op.stringOp]
          rw [if_neg hb']
        simp [eqGuard, this]⟩
    · exact ⟨_, h, .bool, fun w => by simp [binOp, Op.stringOp, eqGuard]⟩
    · exact ⟨_, h, .bool, fun w => by simp [binOp, Op.stringOp, eqGuard]⟩
    · exact ⟨_, h, .bool, fun w => by simp [binOp, Op.stringOp, eqGuard]⟩
    · exact ⟨_, h, .bool, fun w => by simp [binOp, Op.stringOp, eqGuard]⟩
    · exact ⟨_, h, .bool, fun w => by simp [binOp, Op.stringOp, eqGuard]⟩
    · exact ⟨_, h, .bool, fun w => by simp [binOp, Op.stringOp, eqGuard]⟩
    · cases h
  · split at h
    · split at h
      · rename_i b hb
        cases hx
        have he := eqV_sound _ _ _ _ _ _ _ hb (ρ := ρ) (N := N) .bool hy
        refine ⟨_, h, .bool, fun w => ?_⟩
        rw [eqGuard_at_bool]
        simp only [Sem.run_bind, Sem.run_pure, Result.andThen_ok]
        cases hy <;> simp [binOp, Op.equal, he] <;> simp [Op.maxDepth, eqV] at hb
      · cases h
    · split at h
      · rename_i b hb
        cases hx
        have he := eqV_sound _ _ _ _ _ _ _ hb (ρ := ρ) (N := N) .bool hy
        refine ⟨_, h, .bool, fun w => ?_⟩
        rw [eqGuard_at_bool]
        simp only [Sem.run_bind, Sem.run_pure, Result.andThen_ok]
        cases hy <;> simp [binOp, Op.equal, he] <;> simp [Op.maxDepth, eqV] at hb
      · cases h
    · split at h
      · cases h
      · rename_i hgt
        split at h
        · rename_i b hb
          have he := eqV_sound _ _ _ _ _ _ _ hb hx hy
          cases hx with
          | agg hs1 hx =>
          refine ⟨_, h, .bool, fun w => ?_⟩
          cases hy with
          | agg hs2 hy =>
            have hg := run_eqGuard_agg (P := P) w .eql t ox oy
            simp [hg _ _ (by simpa using hgt), binOp, Op.equal, he]
          | _ => simp [Op.maxDepth, eqV] at hb
        · cases h
    · split at h
      · cases h
      · rename_i hgt
        split at h
        · rename_i b hb
          have he := eqV_sound _ _ _ _ _ _ _ hb hx hy
          cases hx with
          | agg hs1 hx =>
          refine ⟨_, h, .bool, fun w => ?_⟩
          cases hy with
          | agg hs2 hy =>
            have hg := run_eqGuard_agg (P := P) w .neq t ox oy
            simp [hg _ _ (by simpa using hgt), binOp, Op.equal, he]
          | _ => simp [Op.maxDepth, eqV] at hb
        · cases h
    · cases h
end
end Go.Ev

/- Operations and guards: what the evaluator does, the machine does. No conditions. -/
import Derived.Test.YtlfeobdfgmlmpaaGreatDoorEvLc
namespace Go.Ev
open Go.RowKit

/-- Values without places. -/
def plainV : Value → Bool
  | .agg cs => cs.toList.all atom1
  | v => atom1 v

/-- A contract in place. -/
def IAt (P : Program) (wb : World) (g : FuncId) (F : List Value → St → Option (Bool × Value × St)) : Prop := ∀ w0, Below wb.heap.size wb w0 → ∀ (args : List Value) (σ : St) (v : Value) (σ1 : St), F args σ = some (true, v, σ1) →
  ∀ (a : Act) (cs : List (Array Value)) (w : World) (ρ : Map) (cargs : List Value), Rel w0 σ a cs w ρ → Vs ρ σ.mem.length args cargs → Calls P g ⟨cargs⟩ w fun e w' => ∃ cv ρ1, e = .returned cv ∧ Rel w0 σ1 a cs w' ρ1 ∧ V ρ1 σ1.mem.length v cv
theorem IAt.later {P : Program} {wb w : World} {g : FuncId} {F : List Value → St → Option (Bool × Value × St)} (h : IAt P wb g F) (hb : Below wb.heap.size wb w) : IAt P w g F := fun w0 hw => h w0 (hb.trans (hw.mono hb.size))

/-- What is taken of the program and of the contracts. -/
structure CxAt (C : Cx) (wb : World) : Prop where
  enter : ∀ (g : FuncId), C.ok.contains g = true → ∀ (args : Array Value) (w : World), (callFunc g args).run C.P w = .ok (.enter g args) w
  den : ∀ (g : FuncId) (F : List D → Option (Bool × List D)), C.Γ g = some F → DenAt C.P wb g F
  mixed : C.P.follows .mixedOrders = true
  ext : ∀ (g : FuncId) (f : List Value → Option (Bool × List Value)), C.X g = some f → ∀ (args vs : List Value), f args = some (true, vs) → (∀ v ∈ args, plainV v = true) ∧ (∀ v ∈ vs, plainV v = true) ∧ ∀ w : World, (callFunc g ⟨args⟩).run C.P w = .ok (.value (tupV vs)) w
  inpl : ∀ (g : FuncId) (F : List Value → St → Option (Bool × Value × St)), C.I g = some F → IAt C.P wb g F
  loop : ∀ (f : FuncId) (b : Code), b ∈ loopsOf C.P f → ∀ L, C.Λ f (firstRegion b) = some L → ∀ (d : Nat) (σ : St) (k : X → St → Option (List D)) (r : List D), L σ k = some r →
    rounds (C.lv f (firstRegion b)) (C.lx f (firstRegion b)) (evCode C f true (inl C (d + 4)) b) C.N σ k = some r

/-- In all worlds of which W holds. -/
def CxW (C : Cx) (W : World → Prop) : Prop := ∀ wb, W wb → CxAt C wb
/-- In all worlds. -/
def CxOk (C : Cx) : Prop := ∀ wb, CxAt C wb
theorem CxAt.later {C : Cx} {wb w : World} (h : CxAt C wb) (hb : Below wb.heap.size wb w) : CxAt C w := ⟨h.enter, fun g F hF => (h.den g F hF).later hb, h.mixed, h.ext, fun g F hF => (h.inpl g F hF).later hb, h.loop⟩

section
variable {P : Program} {mem mem' : List (Option Blk)} {ρ ρ' : Map} {B : Nat} {w w' : World}

theorem Rel.mono {w0 : World} {σ : St} {a : Act} {cs : List (Array Value)} {w1 : World} {ρ1 : Map} {mem1 : List (Option Blk)} (h : Rel w0 σ a cs w ρ) (hb : Below w0.heap.size w0 w1) (hm : MemR mem1 ρ1 w0.heap.size w1) (hN : σ.mem.length ≤ mem1.length) (hρ : ∀ id, id < σ.mem.length → Less ρ ρ1 id) :
    Rel w0 { σ with mem := mem1 } a cs w1 ρ1 := ⟨h.defers, h.tmps.mono hN hρ, h.saved.mono hN hρ, hb, hm⟩

/-- A pure operation. -/
theorem pure_wp {α : Type} {w0 : World} {σ : St} {a : Act} {cs : List (Array Value)} (hR : Rel w0 σ a cs w ρ) {o : Oper} {k : Value → Option α} {r : α} (h : evPure P σ.mem (env σ.τ) o k = some r) {K : Act → World → Prop} {Q : Exit → Act → World → Prop}
    (hK : ∀ v cv, k v = some r → Rel w0 (σ.put o.dst v) (a.put o.dst cv) cs w ρ → K (a.put o.dst cv) w) : o.wp P a w K Q := by
  obtain ⟨v, cv, h1, h2, h3⟩ := evPure_sound hR.mem (fun x => hR.tmps.env x) h
  unfold Oper.wp
  rw [h3 w (Below.refl _ _)]
  exact hK v cv h1 (hR.put _ h2)

theorem evBuild_sound {α : Type} {N : Nat} {ea : Operand → Value} {a : Act} (hE : ∀ x, V ρ N (ea x) (a.eval x)) {o : Oper} {t : TypeId} {parts : Array (Nat × Operand)} (ho : o.op = .build t parts) {k : Value → Option α} {r : α} (h : evBuild P ea t parts k = some r) :
    ∃ v cv, k v = some r ∧ V ρ N v cv ∧ ∀ w' : World, (execOp a.eval o).run P w' = .ok (.value cv) w' := by
  have hparts : ∀ (i : Nat) (p q : Nat × Value), (parts.toList.map fun p => (p.1, ea p.2))[i]? = some p → ((parts.map fun (i, x) => (i, a.eval x)).toList)[i]? = some q → p.1 = q.1 ∧ V ρ N p.2 q.2 := by
    intro i p q hp hq
    simp only [Array.toList_map, List.getElem?_map, Option.map_eq_some_iff] at hp hq
    obtain ⟨x, hx, rfl⟩ := hp
    obtain ⟨y, hy, rfl⟩ := hq
    rw [hx] at hy
    cases hy
    exact ⟨rfl, hE _⟩
  have hlen : (parts.toList.map fun p => (p.1, ea p.2)).length = ((parts.map fun (i, x) => (i, a.eval x)).toList).length := by simp
  have hzc : ∀ z : Value, atom z = true → ∀ (i : Nat) (x y : Value), z.cells[i]? = some x → z.cells[i]? = some y → V ρ N x y := by
    intro z hz i x y hx hy
    have hv := V.atom (ρ := ρ) (N := N) hz
    have hu : isUnk z = false := by cases z <;> first | rfl | simp [atom] at hz
    have h2 := (hv.cells hu).2
    exact h2 i x y (by rw [← cells_lcells]; simpa using hx) hy
  unfold evBuild at h
  split at h
  · rename_i z hz hall
    split at h
    · rename_i cells hat hbt
      obtain ⟨it, hi, hiz⟩ := Option.bind_eq_some_iff.1 hz
      have hpq : ∀ (i : Nat) (p q : Nat × Value), (parts.toList.map fun p => (p.1, ea p.2))[i]? = some p → ((parts.map fun (i, x) => (i, a.eval x)).toList)[i]? = some q → p.1 = q.1 ∧ isUnk p.2 = false ∧ V ρ N p.2 q.2 := fun i p q hp hq => ⟨(hparts i p q hp hq).1, by
          have := List.all_eq_true.1 hall p (List.mem_of_getElem? hp)
          simpa using this, (hparts i p q hp hq).2⟩
      have key : ∀ place, Instr.fill place z.cells (parts.toList.map fun p => (p.1, ea p.2)) = some cells → ∃ out', Instr.fill place z.cells ((parts.map fun (i, x) => (i, a.eval x)).toList) = some out' ∧ V ρ N (.agg cells) (.agg out') := by
        intro place hfill
        obtain ⟨out', o1, o2, o3, o4⟩ := fill_V (ρ := ρ) (N := N) _ ((parts.map fun (i, x) => (i, a.eval x)).toList) z.cells z.cells cells hfill hlen hpq rfl (hzc z hat)
        exact ⟨out', o1, .agg o2 o4⟩
      have : ∃ out', P.built t ((parts.map fun (i, x) => (i, a.eval x)).toList) = some out' ∧ V ρ N (.agg cells) (.agg out') := by
        unfold Program.built at hbt ⊢
        rw [hi] at hbt ⊢
        split at hbt
        · rename_i n el h1 hu
          cases h1
          rw [hiz] at hbt ⊢
          split at hbt
          · rename_i z' s hz' hs
            cases hz'
            first | exact key _ hbt | (rw [hs]; exact key _ hbt)
          · cases hbt
        · rename_i fs h1 hu
          cases h1
          rw [hiz] at hbt ⊢
          split at hbt
          · rename_i z' s hz' hs
            cases hz'
            first | exact key _ hbt | (rw [hs]; exact key _ hbt)
          · cases hbt
        · cases hbt
      obtain ⟨out', o1, o2⟩ := this
      refine ⟨.agg cells, .agg out', h, o2, fun w' => ?_⟩
      have := run_build (P := P) w' t _ out' o1
      simp only [execOp, ho, Sem.run_bind, this, Result.andThen_ok, Sem.run_pure]
    · cases h
  · cases h

theorem calleeOf_sound {N : Nat} {ea : Operand → Value} {a : Act} (hE : ∀ x, V ρ N (ea x) (a.eval x)) {o : Oper} {c : Call} (ho : o.op = .call c) {g : FuncId} {args : List Value} (h : calleeOf ea c = some (g, args)) :
    ∃ cargs, Vs ρ N args cargs ∧ ∀ w : World, (execOp a.eval o).run P w = (callFunc g ⟨cargs⟩).run P w := by
  unfold calleeOf at h
  split at h
  · rename_i f hc
    split at h
    · rename_i g' first captured hf
      cases h
      have hfv := hE f
      rw [hf] at hfv
      generalize hcf : a.eval f = cf at hfv
      cases hfv with
      | @func _ _ first' _ captured' h1 h2 h3 h4 =>
      refine ⟨first'.toList ++ c.args.toList.map a.eval ++ captured'.toList, ⟨by simp [h1, h3], fun i x y hx hy => ?_⟩, fun w => ?_⟩
      · rw [List.append_assoc] at hx hy
        rcases get_app hx with ⟨p1, p2⟩ | ⟨p1, p2⟩
        · rw [List.getElem?_append_left (by simpa [← h1] using p1)] at hy
          exact h2 i x y (by simpa using p2) (by simpa using hy)
        · rw [List.getElem?_append_right (by simpa [← h1] using p1)] at hy
          rw [show first'.toList.length = first.toList.length by simp [h1]] at hy
          rcases get_app p2 with ⟨q1, q2⟩ | ⟨q1, q2⟩
          · rw [List.getElem?_append_left (by simpa using q1)] at hy
            simp only [List.getElem?_map, Option.map_eq_some_iff] at q2 hy
            obtain ⟨u, hu, rfl⟩ := q2
            obtain ⟨v, hv, rfl⟩ := hy
            rw [hu] at hv
            cases hv
            exact hE u
          · rw [List.getElem?_append_right (by simpa using q1)] at hy
            exact h4 _ x y (by simpa using q2) (by simpa using hy)
      · have e1 : (⟨first'.toList ++ c.args.toList.map a.eval ++ captured'.toList⟩ : Array Value) = first' ++ c.args.map a.eval ++ captured' := by
          apply Array.ext'
          simp
        rw [e1]
        simp [execOp, ho, resolve, hc, hcf, Deferred.ofValue, invoke]
    · cases h
  · cases h

theorem plainV_atom {v : Value} (h : atom1 v = true) : plainV v = true := by
  cases v <;> first | exact h | simp [atom1] at h
theorem flatV_spec : ∀ {ds : List D} {xs : List Value} {m ys m'}, flatV ds = some xs → fromD1s true ds m = some (ys, m') → ys = xs ∧ m' = m ∧ ∀ v ∈ xs, atom1 v = true
  | [], xs, m, ys, m', h, h' => by
    simp [flatV] at h
    simp [fromD1s] at h'
    subst h
    exact ⟨h'.1, h'.2.symm, fun v hv => by simp at hv⟩
  | d :: ds, xs, m, ys, m', h, h' => by
    cases d with
    | v x =>
      simp only [flatV] at h
      split at h
      · rename_i xs' hxs
        cases h
        simp only [fromD1s, fromD1] at h'
        split at h'
        · rename_i y m1 h1
          split at h1
          · rename_i ha
            cases h1
            split at h'
            · rename_i ys2 m2 h2
              cases h'
              obtain ⟨rfl, rfl, k3⟩ := flatV_spec hxs h2
              exact ⟨rfl, rfl, fun v hv => (List.mem_cons.1 hv).elim (fun e => e ▸ ha) (k3 v)⟩
            · cases h'
          · cases h1
        · cases h'
      · cases h
    | slice ks r => simp [flatV] at h
    | ptr ks r => simp [flatV] at h
    | err b => simp [flatV] at h
    | agg ds' => simp [flatV] at h
theorem allV_spec : ∀ {rs : List D} {vs : List Value} {m us m'}, allV rs = some vs → fromDs true rs m = some (us, m') → us = vs ∧ m' = m ∧ ∀ v ∈ vs, plainV v = true
  | [], vs, m, us, m', h, h' => by
    simp [allV] at h
    simp [fromDs] at h'
    subst h
    exact ⟨h'.1, h'.2.symm, fun v hv => by simp at hv⟩
  | d :: ds, vs, m, us, m', h, h' => by
    simp only [allV] at h
    split at h
    · rename_i x xs hx hxs
      cases h
      cases d with
      | v x' =>
        simp [isV] at hx
        subst hx
        simp only [fromDs, fromD, fromD1] at h'
        split at h'
        · rename_i y m1 h1
          split at h1
          · rename_i ha
            cases h1
            split at h'
            · rename_i ys m2 h2
              cases h'
              obtain ⟨rfl, rfl, k3⟩ := allV_spec hxs h2
              exact ⟨rfl, rfl, fun v hv => (List.mem_cons.1 hv).elim (fun e => e ▸ plainV_atom ha) (k3 v)⟩
            · cases h'
          · cases h1
        · cases h'
      | slice ks r => simp [isV] at hx
      | ptr ks r => simp [isV] at hx
      | err b => simp [isV] at hx
      | agg ds' =>
        simp only [isV] at hx
        split at hx
        · rename_i zs hzs
          cases hx
          simp only [fromDs, fromD] at h'
          split at h'
          · rename_i y m1 h1
            split at h1
            · rename_i us1 m2 h2
              cases h1
              obtain ⟨rfl, rfl, k1⟩ := flatV_spec hzs h2
              split at h'
              · rename_i ys m3 h3
                cases h'
                obtain ⟨rfl, rfl, k3⟩ := allV_spec hxs h3
                exact ⟨rfl, rfl, fun v hv => (List.mem_cons.1 hv).elim (fun e => by rw [e]; exact List.all_eq_true.2 k1) (k3 v)⟩
              · cases h'
            · cases h1
          · cases h'
        · cases hx
    · cases h

theorem V.plain0 {N : Nat} {x y : Value} (h : V ρ N x y) (hp : atom1 x = true) : y = x := h.atom1_eq hp
theorem V.plain1 {N : Nat} {x y : Value} (h : V ρ N x y) (hp : plainV x = true) : y = x := by
  cases x with
  | agg xs =>
    cases h with
    | agg h1 h2 =>
      rename_i ys
      congr 1
      apply Array.ext
      · exact h1.symm
      · intro i hi hi'
        have ha : atom1 xs[i] = true := List.all_eq_true.1 hp _ (by simp)
        exact V.plain0 (h2 i _ _ (Array.getElem?_eq_getElem hi') (Array.getElem?_eq_getElem hi)) ha
  | _ => exact V.plain0 h hp
theorem V.reflP {N : Nat} {v : Value} (hp : plainV v = true) : V ρ N v v := by
  cases v with
  | agg cs =>
    refine .agg rfl fun i x y hx hy => ?_
    rw [hx] at hy
    cases hy
    have hm : x ∈ cs.toList := by
      rw [Array.getElem?_eq_some_iff] at hx
      obtain ⟨hi, rfl⟩ := hx
      simp
    exact V.refl1 (List.all_eq_true.1 hp _ hm)
  | _ => exact V.refl1 hp
theorem V.plain {N : Nat} {vs : List Value} {c : Value} (h : V ρ N (tupV vs) c) (hp : ∀ v ∈ vs, plainV v = true) : c = tupV vs := by
  obtain ⟨cs, rfl, h1, h2⟩ := tupV_V h
  congr 1
  apply List.ext_getElem?
  intro i
  by_cases hi : i < vs.length
  · have hx : vs[i]? = some vs[i] := List.getElem?_eq_getElem hi
    have hy : cs[i]? = some cs[i] := List.getElem?_eq_getElem (by omega)
    rw [hx, hy]
    have hv := h2 i _ _ hx hy
    have ha := hp _ (List.getElem_mem hi)
    rw [V.plain1 hv ha]
  · rw [List.getElem?_eq_none (by omega), List.getElem?_eq_none (by omega)]

theorem V.ofPlain {N : Nat} {vs : List Value} (hp : ∀ v ∈ vs, plainV v = true) : V ρ N (tupV vs) (tupV vs) :=
  Vs.tupV ⟨rfl, fun i x c hx hc => by rw [hx] at hc; cases hc; exact V.reflP (hp x (List.mem_of_getElem? hx))⟩

theorem Vs.plainEq {N : Nat} {xs cs : List Value} (h : Vs ρ N xs cs) (hp : ∀ v ∈ xs, plainV v = true) : cs = xs := by
  have hl : xs.length = cs.length := h.1
  apply List.ext_getElem?
  intro i
  by_cases hi : i < xs.length
  · have hx : xs[i]? = some xs[i] := List.getElem?_eq_getElem hi
    have hy : cs[i]? = some cs[i] := List.getElem?_eq_getElem (by omega)
    rw [hx, hy, V.plain1 (h.2 i _ _ hx hy) (hp _ (List.getElem_mem hi))]
  · rw [List.getElem?_eq_none (by omega), List.getElem?_eq_none (by omega)]

/-- A pure operation, or a call whose results are plain: quiet in all worlds that have the same old memory. -/
theorem evQ_sound {α : Type} {C : Cx} {wb : World} (hC : CxAt C wb) (hwb : Below wb.heap.size wb w) {calls : Bool} {σ : St} (hm : MemR σ.mem ρ B w) {a : Act} (hE : ∀ x, V ρ σ.mem.length (env σ.τ x) (a.eval x)) {o : Oper} {k : Value → Option α} {r : α} (h : evQ C calls σ.mem (env σ.τ) o k = some r) :
    ∃ v cv, k v = some r ∧ V ρ σ.mem.length v cv ∧ (∀ w', Below w.heap.size w w' → o.quietAt C.P a (fun w' => Below w.heap.size w w') w' cv) ∧ (calls = false → (execOp a.eval o).run C.P w = .ok (.value cv) w) := by
  have pure : ∀ h : evPure C.P σ.mem (env σ.τ) o k = some r, ∃ v cv, k v = some r ∧ V ρ σ.mem.length v cv ∧ (∀ w', Below w.heap.size w w' → o.quietAt C.P a (fun w' => Below w.heap.size w w') w' cv) ∧ (calls = false → (execOp a.eval o).run C.P w = .ok (.value cv) w) := by
    intro h
    obtain ⟨v, cv, h1, h2, h3⟩ := evPure_sound hm hE h
    refine ⟨v, cv, h1, h2, fun w' hw' => ?_, fun _ => h3 w (Below.refl _ _)⟩
    unfold Oper.quietAt
    rw [h3 w' hw']
    exact ⟨rfl, rfl⟩
  unfold evQ at h
  split at h
  · rename_i t parts ho
    obtain ⟨v, cv, h1, h2, h3⟩ := evBuild_sound hE ho h
    refine ⟨v, cv, h1, h2, fun w' _ => ?_, fun _ => h3 w⟩
    unfold Oper.quietAt
    rw [h3 w']
    exact ⟨rfl, rfl⟩
  · rename_i c ho
    split at h
    · rename_i g args hg
      obtain ⟨cargs, hv, hrun⟩ := calleeOf_sound (P := C.P) hE ho hg
      split at h
      · rename_i f hX
        split at h
        · rename_i bb vs hf
          cases bb with
          | false => cases h
          | true =>
          obtain ⟨p1, p2, p3⟩ := hC.ext g f hX args vs hf
          rw [hv.plainEq p1] at hrun
          refine ⟨tupV vs, tupV vs, h, V.ofPlain p2, fun w' _ => ?_, fun _ => ?_⟩
          · unfold Oper.quietAt
            rw [hrun, p3]
            exact ⟨rfl, rfl⟩
          · rw [hrun, p3]
        · cases h
      split at h
      · rename_i F ds hok hF hds
        split at h
        · rename_i cnd rs hrs
          split at h
          · rename_i vs hvs
            cases cnd with
            | false => cases h
            | true =>
            change k (tupV vs) = some r at h
            simp only [Bool.and_eq_true] at hok
            have hpl : ∀ v ∈ vs, plainV v = true := by
              intro v hv'
              have hcall := (hC.den g F hF).call hwb hm hds hv hrs
              obtain ⟨e, w', fr, ⟨cv, _, _, us, mem', ρ', h1, _⟩, _⟩ := hcall []
              exact (allV_spec hvs h1).2.2 v hv'
            refine ⟨tupV vs, tupV vs, h, V.ofPlain hpl, fun w' hw' => ?_, fun hcf => by rw [hcf] at hok; cases hok.1⟩
            unfold Oper.quietAt
            rw [hrun, hC.enter g hok.2]
            refine ⟨rfl, ((hC.den g F hF).call (hwb.trans (hw'.mono hwb.size)) (hm.later hw') hds hv hrs).mono fun e w'' ⟨cv, he, hb, us, mem', ρ', h1, h2, h3⟩ => ?_⟩
            obtain ⟨rfl, _, _⟩ := allV_spec hvs h1
            rw [V.plain h3 hpl] at he
            exact ⟨he, hw'.trans (hb.mono hw'.size)⟩
          · cases h
        · cases h
      · cases h
    · exact pure h
  · exact pure h
end
end Go.Ev

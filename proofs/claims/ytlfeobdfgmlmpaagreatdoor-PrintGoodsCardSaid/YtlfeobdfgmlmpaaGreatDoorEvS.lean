/- Operations in a row, regions, code, calls in place; and the end: a function that the evaluator runs gives what it says. No conditions. -/
import Derived.Test.YtlfeobdfgmlmpaaGreatDoorEvRc
import Derived.LoopN
namespace Go.Ev
open Go.RowKit
section
variable {P : Program} {mem mem' : List (Option Blk)} {ρ ρ' : Map} {B : Nat} {w w' : World}

theorem V.undef {N : Nat} : V ρ N (.tuple #[]) undef := .tuple rfl fun i x y hx _ => by simp at hx

theorem evOps_sound {α : Type} {C : Cx} {w0 : World} (hC : CxAt C w0) {inl : FuncId → List Value → St → (Value → St → Option α) → Option α} (hinl : InlOk C w0 inl) {cs : List (Array Value)} {ops : Array Oper} {k : St → Option α} {r : α} {Q : Exit → Act → World → Prop}
    (hQ : ∀ (σ1 : St) (a1 : Act) (w1 : World) (ρ1 : Map), Rel w0 σ1 a1 cs w1 ρ1 → k σ1 = some r → Q .normal a1 w1) : ∀ (l : List Oper) (σ : St) (a : Act) (w : World) (ρ : Map), evOps C inl ops.toList l σ k = some r → Rel w0 σ a cs w ρ → wpList C.P ops Q l a w
  | [], σ, a, w, ρ, h, hR => hQ σ a w ρ hR h
  | o :: rest, σ, a, w, ρ, h, hR => by
    simp only [evOps, frc_eq, putK_eq] at h
    unfold wpList
    rcases guard_sound hR h with ⟨hw, σ', hR', h'⟩ | ⟨hw, σ', hR', h'⟩
    · rw [if_pos hw]
      left
      split at h'
      · rename_i htr
        exact evEff_sound hC hinl hR' (fun ⟨s, d, x, ho⟩ => by rw [ho] at htr ⊢; simpa [isEff] using htr) h' fun σ1 a1 w1 ρ1 h1 h2 => evOps_sound hC hinl hQ rest σ1 a1 w1 ρ1 h2 h1
      · split at h'
        · rename_i v m hv
          obtain ⟨cv, ρ1, k1, k2⟩ := hR'.view hv
          unfold Oper.wp
          rw [k2 w (Below.refl _ _)]
          exact evOps_sound hC hinl hQ rest _ _ w ρ1 h' k1
        · exact pure_wp hR' h' fun v cv h1 h2 => evOps_sound hC hinl hQ rest _ _ w ρ h1 h2
    · rw [if_neg (by rw [hw]; simp)]
      exact evOps_sound hC hinl hQ rest _ _ w ρ h' (hR'.put o.dst V.undef)

/-- Operations that are quiet in all worlds with the same old memory. -/
theorem evOpsQ_sound {α : Type} {C : Cx} {w0 : World} (hC : CxAt C w0) {cs : List (Array Value)} {ops : Array Oper} {k : St → Option α} {r : α} {w : World} {Q : Act → Prop} (hQ : ∀ (σ1 : St) (a1 : Act) (ρ1 : Map), Rel w0 σ1 a1 cs w ρ1 → k σ1 = some r → Q a1) :
    ∀ (l : List Oper) (σ : St) (a : Act) (ρ : Map), evOpsQ C true ops.toList l σ k = some r → Rel w0 σ a cs w ρ → wpQuiet C.P ops (fun w' => Below w.heap.size w w') Q l a
  | [], σ, a, ρ, h, hR => hQ σ a ρ hR h
  | o :: rest, σ, a, ρ, h, hR => by
    simp only [evOpsQ, putK_eq] at h
    unfold wpQuiet
    rcases guard_sound hR h with ⟨hw, σ', hR', h'⟩ | ⟨hw, σ', hR', h'⟩
    · rw [if_pos hw]
      split at h'
      · rename_i v m hv
        obtain ⟨cv, ρ1, k1, k2⟩ := hR'.view hv
        refine ⟨cv, fun w' hw' => ?_, evOpsQ_sound hC hQ rest _ _ ρ1 h' k1⟩
        unfold Oper.quietAt
        rw [k2 w' hw']
        exact ⟨rfl, rfl⟩
      · obtain ⟨v, cv, h1, h2, h3, _⟩ := evQ_sound hC hR'.below hR'.mem (fun x => hR'.tmps.env x) h'
        exact ⟨cv, h3, evOpsQ_sound hC hQ rest _ _ ρ h1 (hR'.put o.dst h2)⟩
    · rw [if_neg (by rw [hw]; simp)]
      exact evOpsQ_sound hC hQ rest _ _ ρ h' (hR'.put o.dst V.undef)

theorem evOpsS_sound {α : Type} {C : Cx} {w0 : World} (hC : CxAt C w0) {cs : List (Array Value)} {ops : Array Oper} {k : St → Option α} {r : α} {w : World} {Q : Act → Prop} (hQ : ∀ (σ1 : St) (a1 : Act) (ρ1 : Map), Rel w0 σ1 a1 cs w ρ1 → k σ1 = some r → Q a1) :
    ∀ (l : List Oper) (σ : St) (a : Act) (ρ : Map), evOpsQ C false ops.toList l σ k = some r → Rel w0 σ a cs w ρ → wpStill C.P ops w Q l a
  | [], σ, a, ρ, h, hR => hQ σ a ρ hR h
  | o :: rest, σ, a, ρ, h, hR => by
    simp only [evOpsQ, putK_eq] at h
    unfold wpStill
    rcases guard_sound hR h with ⟨hw, σ', hR', h'⟩ | ⟨hw, σ', hR', h'⟩
    · rw [if_pos hw]
      split at h'
      · rename_i v m hv
        obtain ⟨cv, ρ1, k1, k2⟩ := hR'.view hv
        unfold Oper.still
        rw [k2 w (Below.refl _ _)]
        exact ⟨rfl, evOpsS_sound hC hQ rest _ _ ρ1 h' k1⟩
      · obtain ⟨v, cv, h1, h2, _, h3⟩ := evQ_sound hC hR'.below hR'.mem (fun x => hR'.tmps.env x) h'
        unfold Oper.still
        rw [h3 rfl]
        exact ⟨rfl, evOpsS_sound hC hQ rest _ _ ρ h1 (hR'.put o.dst h2)⟩
    · rw [if_neg (by rw [hw]; simp)]
      exact evOpsS_sound hC hQ rest _ _ ρ h' (hR'.put o.dst V.undef)

def X.toExit : X → Exit
  | .normal => .normal
  | .exit id => .exit id
  | .ret => .ret

/-- What code comes to. -/
def CodePost {α : Type} (w0 : World) (cs : List (Array Value)) (k : X → St → Option α) (r : α) : Exit → Act → World → Prop :=
  fun e a w => ∃ (x : X) (σ : St) (ρ : Map), e = x.toExit ∧ Rel w0 σ a cs w ρ ∧ k x σ = some r

theorem Rel.drew {w0 : World} {σ : St} {a : Act} {cs : List (Array Value)} (h : Rel w0 σ a cs w ρ) : Rel w0 σ a cs { w with drawn := w.drawn + 1 } ρ := h.later (Below.drew (Below.refl _ _))

theorem nrm_sound {w0 : World} {σ : St} {a : Act} {cs : List (Array Value)} (h : Rel w0 σ a cs w ρ) (live : Option (List Tmp)) : ∃ ρ', Rel w0 (nrm live σ) a cs w ρ' := by
  cases live with
  | none => exact ⟨ρ, h⟩
  | some l => exact norm_sound h l

theorem rounds_sound {α : Type} {C : Cx} {w0 : World} {cs : List (Array Value)} {body : Code} {lv : List Tmp} {lx : Option (List Tmp)} {f : St → (X → St → Option α) → Option α} {r : α}
    (hf : ∀ (σ : St) (k : X → St → Option α) (a : Act) (w : World) (ρ : Map), f σ k = some r → Rel w0 σ a cs w ρ → body.wp C.P (CodePost w0 cs k r) a w) :
    ∀ (n : Nat) (σ : St) (k : X → St → Option α) (a : Act) (w : World) (ρ : Map), rounds lv lx f n σ k = some r → Rel w0 σ a cs w ρ → Code.rounds C.P body (CodePost w0 cs k r) n a w
  | 0, σ, k, a, w, ρ, h, hR => by simp [rounds] at h
  | n + 1, σ, k, a, w, ρ, h, hR => by
    simp only [rounds] at h
    rw [rounds_succ]
    refine wp_mono (hf σ _ a w ρ h hR) fun e a1 w1 ⟨x, σ1, ρ1, he, h1, h2⟩ => ?_
    subst he
    cases x with
    | normal =>
      obtain ⟨ρ2, h3⟩ := norm_sound h1 lv
      exact rounds_sound hf n _ k a1 w1 ρ2 h2 h3
    | exit id =>
      obtain ⟨ρ2, h3⟩ := nrm_sound h1 lx
      exact ⟨.exit id, _, ρ2, rfl, h3, h2⟩
    | ret =>
      obtain ⟨ρ2, h3⟩ := nrm_sound h1 lx
      exact ⟨.ret, _, ρ2, rfl, h3, h2⟩

theorem evCode_sound {C : Cx} {w0 : World} (hC : CxAt C w0) {fid : FuncId} {lp : Bool} {inl : FuncId → List Value → St → (Value → St → Option (List D)) → Option (List D)} (hinl : InlOk C w0 inl)
    {cs : List (Array Value)} {r : List D} :
    ∀ (c : Code), (lp = true → ∀ b, b ∈ loops c → ∀ L, C.Λ fid (firstRegion b) = some L → ∀ (σ : St) (k : X → St → Option (List D)) (r : List D), L σ k = some r → rounds (C.lv fid (firstRegion b)) (C.lx fid (firstRegion b)) (evCode C fid lp inl b) C.N σ k = some r) →
      ∀ (σ : St) (k : X → St → Option (List D)) (a : Act) (w : World) (ρ : Map), evCode C fid lp inl c σ k = some r → Rel w0 σ a cs w ρ → c.wp C.P (CodePost w0 cs k r) a w
  | .skip, hL, σ, k, a, w, ρ, h, hR => wp_skip ⟨.normal, σ, ρ, rfl, hR, h⟩
  | .label _, hL, σ, k, a, w, ρ, h, hR => wp_label ⟨.normal, σ, ρ, rfl, hR, h⟩
  | .region id ops false, hL, σ, k, a, w, ρ, h, hR => by
    simp only [evCode] at h
    exact wp_region_list (evOps_sound hC hinl (fun σ1 a1 w1 ρ1 h1 h2 => ⟨.normal, σ1, ρ1, rfl, h1, h2⟩) ops.toList σ a w ρ h hR)
  | .region id ops true, hL, σ, k, a, w, ρ, h, hR => by
    simp only [evCode] at h
    split at h
    · rename_i hlex
      rw [Bool.and_eq_true] at hlex
      refine wp_region_quiet (C := fun w' => Below w.heap.size w w') hC.mixed hlex.2 (Below.drew (Below.refl _ _)) ?_
      exact evOpsQ_sound hC (fun σ1 a1 ρ1 h1 h2 w' hw' => ⟨.normal, σ1, ρ1, rfl, h1.later hw', h2⟩) ops.toList σ a ρ h hR
    · split at h
      · rename_i hlex
        rw [Bool.and_eq_true] at hlex
        have hlex := hlex.2
        have e1 : ops = ops.toList.toArray := by simp
        have key : (Code.region id ops.toList.toArray true).wp C.P (CodePost w0 cs k r) a w := by
          refine wp_region_still_tail (headN ops.toList) hC.mixed (by simpa using hlex) ?_
          refine evOpsS_sound hC (ops := ops.toList.toArray) (Q := fun a' => wpList C.P ops.toList.toArray (CodePost w0 cs k r) (ops.toList.drop (headN ops.toList)) a' { w with drawn := w.drawn + 1 }) (fun σ1 a1 ρ1 h1 h2 => ?_) _ σ a ρ (by simpa using h) hR.drew
          exact evOps_sound hC hinl (fun σ1 a1 w1 ρ1 h1 h2 => ⟨.normal, σ1, ρ1, rfl, h1, h2⟩) _ σ1 a1 _ _ (by simpa using h2) h1
        rw [← e1] at key
        exact key
      · split at h
        · rename_i hlex
          rw [Bool.and_eq_true] at hlex
          have hlex := hlex.2
          have e1 : ops = ops.toList.toArray := by simp
          have key : (Code.region id ops.toList.toArray true).wp C.P (CodePost w0 cs k r) a w := by
            refine wp_region_quiet_tail (C := fun w' => Below w.heap.size w w') (headN ops.toList) hC.mixed (by simpa using hlex) (Below.drew (Below.refl _ _)) ?_
            refine evOpsQ_sound hC (ops := ops.toList.toArray) (Q := fun a' => ∀ w', Below w.heap.size w w' → wpList C.P ops.toList.toArray (CodePost w0 cs k r) (ops.toList.drop (headN ops.toList)) a' w') (fun σ1 a1 ρ1 h1 h2 w' hw' => ?_) _ σ a ρ (by simpa using h) hR
            exact evOps_sound hC hinl (fun σ1 a1 w1 ρ1 h1 h2 => ⟨.normal, σ1, ρ1, rfl, h1, h2⟩) _ σ1 a1 _ _ (by simpa using h2) (h1.later hw')
          rw [← e1] at key
          exact key
        · split at h
          · rename_i hord
            rw [Bool.and_eq_true, Bool.and_eq_true] at hord
            refine wp_region_ord (Q' := fun e a w => e = .normal ∧ CodePost w0 cs k r .normal a w) hC.mixed hord.2.2 (fun e a w h => h) ?_
            refine evOpsS_sound hC (Q := fun a' => wpList C.P ops (fun e a w => e = .normal ∧ CodePost w0 cs k r .normal a w) ((tailIx ops).filterMap (ops[·]?)) a' { w with drawn := w.drawn + 1 }) (fun σ1 a1 ρ1 h1 h2 => ?_) _ σ a ρ h hR.drew
            exact evOps_sound hC hinl (fun σ1 a1 w1 ρ1 h1 h2 => ⟨rfl, .normal, σ1, ρ1, rfl, h1, h2⟩) _ σ1 a1 _ _ h2 h1
          · refine wp_region_ordC hC (chainM_le _ _ _) h hR fun σ1 a1 w1 ρ1 h1 h2 => ?_
            exact evOps_sound hC hinl (fun σ2 a2 w2 ρ2 h3 h4 => ⟨rfl, .normal, σ2, ρ2, rfl, h3, h4⟩) _ σ1 a1 w1 ρ1 h2 h1
  | .seq x y, hL, σ, k, a, w, ρ, h, hR => by
    simp only [evCode] at h
    refine wp_seq (wp_mono (evCode_sound hC hinl x (fun hlp b hb => hL hlp b (by simp [loops, hb])) σ _ a w ρ h hR) fun e a1 w1 ⟨x1, σ1, ρ1, he, h1, h2⟩ => ?_)
    subst he
    cases x1 with
    | normal => exact evCode_sound hC hinl y (fun hlp b hb => hL hlp b (by simp [loops, hb])) σ1 k a1 w1 ρ1 h2 h1
    | exit id => exact ⟨.exit id, σ1, ρ1, rfl, h1, h2⟩
    | ret => exact ⟨.ret, σ1, ρ1, rfl, h1, h2⟩
  | .cond c x y, hL, σ, k, a, w, ρ, h, hR => by
    simp only [evCode] at h
    split at h
    · rename_i t ht
      have hv := hR.tmps.env c
      rw [ht] at hv
      generalize hc : a.eval c = cc at hv
      cases hv
      refine wp_cond hc ?_
      cases t with
      | true => exact evCode_sound hC hinl x (fun hlp b hb => hL hlp b (by simp [loops, hb])) σ k a w ρ h hR
      | false => exact evCode_sound hC hinl y (fun hlp b hb => hL hlp b (by simp [loops, hb])) σ k a w ρ h hR
    · cases h
  | .block id b, hL, σ, k, a, w, ρ, h, hR => by
    simp only [evCode] at h
    refine wp_block (wp_mono (evCode_sound hC hinl b (fun hlp b' hb => hL hlp b' (by simp [loops, hb])) σ _ a w ρ h hR) fun e a1 w1 ⟨x1, σ1, ρ1, he, h1, h2⟩ => ?_)
    subst he
    cases x1 with
    | normal => exact ⟨.normal, σ1, ρ1, rfl, h1, h2⟩
    | exit id' =>
      simp only at h2
      show (if id' = id then _ else _)
      split at h2
      · rename_i hb
        rw [if_pos (Nat.eq_of_beq_eq_true hb)]
        exact ⟨.normal, σ1, ρ1, rfl, h1, h2⟩
      · rename_i hb
        rw [if_neg (fun e => by subst e; simp at hb)]
        exact ⟨.exit id', σ1, ρ1, rfl, h1, h2⟩
    | ret => exact ⟨.ret, σ1, ρ1, rfl, h1, h2⟩
  | .loop b, hL, σ, k, a, w, ρ, h, hR => by
    simp only [evCode] at h
    obtain ⟨ρ', hR'⟩ := norm_sound hR (C.lv fid (firstRegion b))
    have h' : rounds (C.lv fid (firstRegion b)) (C.lx fid (firstRegion b)) (evCode C fid lp inl b) C.N (norm (C.lv fid (firstRegion b)) σ) k = some r := by
      split at h
      · rename_i L hLL
        exact hL rfl b (by simp [loops]) L hLL _ k r h
      · exact h
    exact wp_loop_rounds C.N (rounds_sound (C := C) (fun σ k a w ρ h hR => evCode_sound hC hinl b (fun hlp b' hb => hL hlp b' (by simp [loops, hb])) σ k a w ρ h hR) C.N _ k a w ρ' h' hR')
  | .exit id, hL, σ, k, a, w, ρ, h, hR => wp_exit ⟨.exit id, σ, ρ, rfl, hR, h⟩
  | .ret, hL, σ, k, a, w, ρ, h, hR => wp_ret ⟨.ret, σ, ρ, rfl, hR, h⟩
  | .rangeFunc .., hL, σ, k, a, w, ρ, h, hR => by simp [evCode] at h
  | .scope _, hL, σ, k, a, w, ρ, h, hR => by simp [evCode] at h
  | .goto _, hL, σ, k, a, w, ρ, h, hR => by simp [evCode] at h
  | .refuse _, hL, σ, k, a, w, ρ, h, hR => by simp [evCode] at h

def resSem (a : Act) : ResultVar → Sem Value
  | .tmp t => pure (a.tmps.getD t undef)
  | .cell c t => do loadVar t (← asAddr (a.tmps.getD c undef))

theorem resV_sound {w0 : World} {σ : St} {a : Act} {cs : List (Array Value)} (hR : Rel w0 σ a cs w ρ) : ∀ (rs : List ResultVar) (vs : List Value), resV P σ rs = some vs →
    ∃ us, Vs ρ σ.mem.length vs us ∧ (rs.mapM (resSem a)).run P w = .ok us w
  | [], vs, h => by
    simp [resV] at h
    subst h
    exact ⟨[], .nil, by simp⟩
  | .tmp t :: rs, vs, h => by
    simp only [resV, getF_eq, Option.map_eq_some_iff] at h
    obtain ⟨vs', h1, rfl⟩ := h
    obtain ⟨us, h2, h3⟩ := resV_sound hR rs vs' h1
    refine ⟨a.tmps.getD t undef :: us, .cons (hR.tmps.getD t) h2, ?_⟩
    simp only [List.mapM_cons, resSem, Sem.run_bind, Sem.run_pure, Result.andThen_ok]
    rw [h3]
    rfl
  | .cell c t :: rs, vs, h => by
    simp only [resV, getF_eq] at h
    split at h
    · rename_i v hv
      simp only [Option.map_eq_some_iff] at h
      obtain ⟨vs', h1, rfl⟩ := h
      obtain ⟨us, h2, h3⟩ := resV_sound hR rs vs' h1
      obtain ⟨cv, k1, k2⟩ := loadV_sound hR.mem hv (hR.tmps.getD c)
      refine ⟨cv :: us, .cons k1 h2, ?_⟩
      have k3 := k2 w (Below.refl _ _)
      have hp : ∃ p, a.tmps.getD c undef = .pointer (some p) := by
        have hvv := hR.tmps.getD c
        unfold loadV at hv
        split at hv
        · rename_i id e j i ag hx hi hag
          rw [hx] at hvv
          generalize a.tmps.getD c undef = y at *
          cases hvv with
          | ptrDead => exact ⟨_, rfl⟩
          | ptr => exact ⟨_, rfl⟩
        · cases hv
      obtain ⟨p, hp⟩ := hp
      rw [hp] at k3
      simp only [Instr.loadAt, Instr.sureAddr, Sem.run_bind, Sem.run_pure, Result.andThen_ok] at k3
      simp only [List.mapM_cons, resSem, Sem.run_bind, hp, asAddr, Sem.run_pure, Result.andThen_ok, k3]
      rw [h3]
      rfl
    · cases h

theorem results_sound {w0 : World} {σ : St} {a : Act} {cs : List (Array Value)} (hR : Rel w0 σ a cs w ρ) {fn : Func} {vs : List Value} (h : resV P σ fn.results.toList = some vs) : ∃ cv, V ρ σ.mem.length (tupV vs) cv ∧ (results fn a.tmps).run P w = .ok cv w := by
  obtain ⟨us, h1, h2⟩ := resV_sound hR fn.results.toList vs h
  refine ⟨tupV us, h1.tupV, ?_⟩
  show ((fn.results.mapM (resSem a)) >>= fun vs => pure (if h : vs.size = 1 then vs[0] else .tuple vs) : Sem Value).run P w = _
  rw [Array.mapM_eq_mapM_toList]
  simp only [Sem.run_bind, Sem.run_map]
  rw [h2]
  simp only [Result.andThen_ok]
  match us with
  | [] => rfl
  | [u] => rfl
  | u :: v :: us => rfl

theorem inl_ok {C : Cx} {w0 : World} (hC : CxAt C w0) : ∀ (d : Nat), InlOk C w0 (inl C d)
  | 0 => fun g args σ k r h => by simp [inl] at h
  | d + 1 => fun g args σ k r h a cs w ρ cargs hR hv => by
    simp only [inl] at h
    split at h
    · rename_i fn hfn
      split at h
      · rename_i c hc
        have hlen := hv.1
        refine calls_of_wp hfn hc (wp_mono (evCode_sound hC (inl_ok hC d) (fid := g) (w0 := w0) (cs := a.tmps :: cs) c (fun hlp b hb => fun L hL => by obtain ⟨d', rfl⟩ : ∃ d', d = d' + 4 := ⟨d - 4, by have := Nat.le_of_ble_eq_true hlp; omega⟩; rw [hlp]; exact hC.loop g b (by simp [loopsOf, hfn, hc, hb]) L hL d') _ _ _ w ρ h ⟨rfl, ⟨by simp [hlen], fun t x y hx hy => ?_⟩, ⟨hR.tmps, hR.saved⟩, hR.below, hR.mem⟩) fun e a1 w1 ⟨x, σ1, ρ1, he, h1, h2⟩ => ?_)
        · simp only at hx hy
          rcases get_app hx with ⟨p1, p2⟩ | ⟨p1, p2⟩
          · rw [Array.getElem?_append_left (by simpa [← hlen] using p1)] at hy
            exact hv.2 t x y p2 (by simpa using hy)
          · rw [Array.getElem?_append_right (by simpa [← hlen] using p1)] at hy
            have e1 : x = .tuple #[] := by
              have := List.mem_of_getElem? p2
              simp at this
              exact this.2
            have e2 : y = Go.undef := by
              have h9 := Array.mem_of_getElem? hy
              simp at h9
              exact h9.2
            rw [e1, e2]
            exact V.undef
        · subst he
          have fin : ∀ (h2 : (match resV C.P σ1 fn.results.toList, σ1.saved with | some vs, τ :: saved => k (tupV vs) { τ, saved, mem := σ1.mem } | _, _ => none) = some r), a1.defers = [] ∧ ∃ v, (results fn a1.tmps).run C.P w1 = .ok v w1 ∧ ∃ cv v' σ2 ρ2, Ending.returned v = .returned cv ∧ Rel w0 σ2 a cs w1 ρ2 ∧ V ρ2 σ2.mem.length v' cv ∧ k v' σ2 = some r := by
            intro h2
            split at h2
            · rename_i vs τ saved hvs hsv
              obtain ⟨cv, k1, k2⟩ := results_sound h1 hvs
              refine ⟨h1.defers, cv, k2, cv, tupV vs, { τ, saved, mem := σ1.mem }, ρ1, rfl, ?_, k1, h2⟩
              have hs := h1.saved
              rw [hsv] at hs
              exact ⟨hR.defers, hs.1, hs.2, h1.below, h1.mem⟩
            · cases h2
          cases x with
          | normal => exact fin h2
          | exit id => cases h2
          | ret => exact fin h2
      · cases h
    · cases h

/-- THE END: what the evaluator gives for a function is what every call of it gives. -/
theorem evF_at {C : Cx} {wb : World} (hC : CxAt C wb) {d : Nat} {f : FuncId} {F : List D → Option (Bool × List D)} (hF : ∀ ds rs, F ds = some (true, rs) → evF C d f ds = some rs) : DenAt C.P wb f F := by
  intro ds rs hds w hbw args vs mem ρ hfrom hm hl hv
  have h := hF ds rs hds
  unfold evF at h
  rw [hfrom] at h
  simp only at h
  refine (inl_ok (hC.later hbw) (d + 1) f vs { τ := [], saved := [], mem } _ rs h { tmps := #[], defers := [] } [] w ρ args ⟨rfl, ⟨rfl, fun t x y hx => by simp at hx⟩, trivial, Below.refl _ _, hm⟩ ⟨hl, hv⟩).mono fun e w' ⟨cv, v, σ1, ρ1, he, h1, h2, h3⟩ => ?_
  have key : ∀ xs : List Value, resDs σ1.mem (resKs C.P f) xs = some rs → V ρ1 σ1.mem.length (tupV xs) cv → ∃ us mem' ρ', fromDs true rs [] = some (us, mem') ∧ MemR mem' ρ' w.heap.size w' ∧ V ρ' mem'.length (tupV us) cv := by
    intro xs hxs hx
    obtain ⟨cs, rfl, hvs⟩ := tupV_V hx
    obtain ⟨us, m2, ρ2, k1, k2, _, _, k5⟩ := resDs_sound xs _ σ1.mem ρ1 rs cs hxs h1.mem hvs [] (fun _ => none) ⟨fun id b h => by simp at h, fun _ _ => rfl, fun i j b h => by obtain ⟨_, _, h1, _⟩ := h; cases h1⟩ (fun id b h => by simp at h) (fun i j b _ h => by obtain ⟨_, _, h1, _⟩ := h; cases h1)
    exact ⟨us, m2, ρ2, k1, k2, k5.tupV⟩
  refine ⟨cv, he, h1.below, ?_⟩
  split at h3
  · cases h3
  · rename_i vs' hne
    obtain ⟨l⟩ := vs'
    match l with
    | [] => exact key [] h3 h2
    | [x] => exact absurd rfl (hne x)
    | x :: y :: l => exact key (x :: y :: l) h3 h2
  · exact key [v] h3 h2

theorem evF_den {C : Cx} (hC : CxOk C) {d : Nat} {f : FuncId} {F : List D → Option (Bool × List D)} (hF : ∀ ds rs, F ds = some (true, rs) → evF C d f ds = some rs) : Den C.P f F := fun wb => evF_at (hC wb) hF
theorem evF_denW {C : Cx} {W : World → Prop} (hC : CxW C W) {d : Nat} {f : FuncId} {F : List D → Option (Bool × List D)} (hF : ∀ ds rs, F ds = some (true, rs) → evF C d f ds = some rs) : DenW C.P W f F := fun wb hw => evF_at (hC wb hw) hF
end
end Go.Ev

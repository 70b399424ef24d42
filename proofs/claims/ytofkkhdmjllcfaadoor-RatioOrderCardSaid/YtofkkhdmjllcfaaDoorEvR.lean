/- Before a round: what is forgotten and numbered anew. No conditions. -/
import Derived.Test.YtofkkhdmjllcfaaDoorEvQ
import Derived.Laws.BytesString
namespace Go.Ev
open Go.RowKit
section
variable {P : Program} {mem mem' : List (Option Blk)} {ρ ρ' : Map} {B : Nat} {w w' : World}

theorem findPos_some : ∀ {l : List Nat} {id i : Nat}, findPos l id = some i → l[i]? = some id
  | [], id, i, h => by simp [findPos] at h
  | x :: xs, id, i, h => by
    simp only [findPos] at h
    split at h
    · rename_i hb
      cases h
      simp [Nat.eq_of_beq_eq_true hb]
    · split at h
      · rename_i j hj
        cases h
        simpa using findPos_some hj
      · cases h

def renM (ρ : Map) (l : List Nat) : Map := fun i => match l[i]? with | some id => ρ id | none => none

theorem renM_pos {l : List Nat} {id i : Nat} (h : findPos l id = some i) : i < l.length ∧ renM ρ l i = ρ id := by
  have h1 := findPos_some h
  exact ⟨(List.getElem?_eq_some_iff.1 h1).1, by simp [renM, h1]⟩

theorem ren1_V {N : Nat} {l : List Nat} {x y : Value} (h : V ρ N x y) : V (renM ρ l) l.length (ren1 l x) y := by
  cases h with
  | unk => exact .unk
  | bool => exact .bool
  | int => exact .int
  | str => exact .str
  | ptrNil => exact .ptrNil
  | nilFunc => exact .nilFunc
  | nilIface => exact .nilIface
  | iface h1 h2 => exact .iface h1 h2
  | sliceNil => exact .sliceNil
  | ptrDead h1 h2 =>
    simp only [ren1]
    split
    · rename_i i hi
      obtain ⟨g1, g2⟩ := renM_pos (ρ := ρ) hi
      exact .ptrDead g1 (g2.trans h2)
    · exact .unk
  | sliceDead h1 h2 =>
    simp only [ren1]
    split
    · rename_i i hi
      obtain ⟨g1, g2⟩ := renM_pos (ρ := ρ) hi
      exact .sliceDead g1 (g2.trans h2)
    · exact .unk
  | ptr h1 h2 h3 =>
    simp only [ren1]
    split
    · rename_i i hi
      obtain ⟨g1, g2⟩ := renM_pos (ρ := ρ) hi
      exact .ptr g1 (g2.trans h2) h3
    · exact .unk
  | slice h1 h2 h3 h4 h5 h6 =>
    simp only [ren1]
    split
    · rename_i i hi
      obtain ⟨g1, g2⟩ := renM_pos (ρ := ρ) hi
      exact .slice g1 (g2.trans h2) h3 h4 h5 h6
    · exact .unk
  | agg h1 h2 => exact .unk
  | tuple h1 h2 => exact .unk
  | @func fn xs ys us vs h1 h2 h3 h4 =>
    obtain ⟨xs⟩ := xs
    obtain ⟨us⟩ := us
    match xs, us with
    | [], [] => 
      have e1 : ys = #[] := by simpa using h1.symm
      have e2 : vs = #[] := by simpa using h3.symm
      subst e1; subst e2
      exact .func rfl (fun i x y hx _ => by simp at hx) rfl (fun i x y hx _ => by simp at hx)
    | x :: xs, us => simp only [ren1]; exact .unk
    | [], u :: us => simp only [ren1]; exact .unk

theorem ren1s_V {N : Nat} {l : List Nat} {xs ys : Array Value} (h : ∀ (i : Nat) (x y : Value), xs[i]? = some x → ys[i]? = some y → V ρ N x y) : ∀ (i : Nat) (x y : Value), ((⟨xs.toList.map (ren1 l)⟩ : Array Value))[i]? = some x → ys[i]? = some y → V (renM ρ l) l.length x y := by
  intro i x y hx hy
  simp only [List.getElem?_toArray, List.getElem?_map, Option.map_eq_some_iff] at hx
  obtain ⟨u, hu, rfl⟩ := hx
  exact ren1_V (h i u y (by simpa using hu) hy)

theorem ren_V {N : Nat} {l : List Nat} {x y : Value} (h : V ρ N x y) : V (renM ρ l) l.length (ren l x) y := by
  cases h with
  | agg h1 h2 => exact .agg (by simpa using h1) (ren1s_V h2)
  | func h1 h2 h3 h4 => exact .func (by simpa using h1) (ren1s_V h2) (by simpa using h3) (ren1s_V h4)
  | unk => exact ren1_V (N := N) .unk
  | bool => exact ren1_V (N := N) .bool
  | int => exact ren1_V (N := N) .int
  | str => exact ren1_V (N := N) .str
  | ptrNil => exact ren1_V (N := N) .ptrNil
  | nilFunc => exact ren1_V (N := N) .nilFunc
  | nilIface => exact ren1_V (N := N) .nilIface
  | iface h1 h2 => exact .iface h1 h2
  | sliceNil => exact ren1_V (N := N) .sliceNil
  | ptrDead h1 h2 => exact ren1_V (N := N) (.ptrDead h1 h2)
  | sliceDead h1 h2 => exact ren1_V (N := N) (.sliceDead h1 h2)
  | ptr h1 h2 h3 => exact ren1_V (N := N) (.ptr h1 h2 h3)
  | slice h1 h2 h3 h4 h5 h6 => exact ren1_V (N := N) (.slice h1 h2 h3 h4 h5 h6)
  | tuple h1 h2 => exact ren1_V (N := N) (.tuple h1 h2)

theorem addNew_nodup : ∀ (xs : List Nat) {l : List Nat}, l.Nodup → (addNew l xs).Nodup
  | [], l, h => h
  | x :: xs, l, h => by
    simp only [addNew]
    split
    · exact addNew_nodup xs h
    · rename_i hc
      refine addNew_nodup xs ?_
      rw [List.nodup_append]
      refine ⟨h, by simp, fun a ha b hb => ?_⟩
      simp at hb
      subst hb
      rintro rfl
      have : l.contains a = true := by simpa using ha
      rw [this] at hc
      cases hc

theorem reach_nodup : ∀ (n : Nat) {l : List Nat}, l.Nodup → (reach mem n l).Nodup
  | 0, _, h => h
  | n + 1, _, h => reach_nodup n (addNew_nodup _ h)

def renMem (mem : List (Option Blk)) (l : List Nat) : List (Option Blk) := l.map fun id => (match mem[id]? with | some (some b) => some (renB l b) | _ => none)

theorem renMem_get {l : List Nat} {i : Nat} {b : Blk} (h : (renMem mem l)[i]? = some (some b)) : ∃ id c, l[i]? = some id ∧ mem[id]? = some (some c) ∧ b = renB l c := by
  simp only [renMem, List.getElem?_map, Option.map_eq_some_iff] at h
  obtain ⟨id, h1, h2⟩ := h
  split at h2
  · rename_i c hc
    cases h2
    exact ⟨id, c, h1, hc, rfl⟩
  · cases h2

theorem renB_own {l : List Nat} (b : Blk) : (renB l b).own = b.own := by cases b <;> rfl

theorem MemR.ren (h : MemR mem ρ B w) {l : List Nat} (hl : l.Nodup) : MemR (renMem mem l) (renM ρ l) B w := by
  have hown : ∀ (i : Nat) (L : Loc), Owned (renMem mem l) (renM ρ l) i L → ∃ id, l[i]? = some id ∧ Owned mem ρ id L := by
    intro i L ⟨g1, g2, b, g3, g4⟩
    obtain ⟨id, c, h1, h2, rfl⟩ := renMem_get g3
    simp only [renM, h1] at g1
    exact ⟨id, h1, g1, g2, c, h2, by rw [renB_own] at g4; exact g4⟩
  have hok : ∀ b, okB mem ρ w b → okB (renMem mem l) (renM ρ l) w b := by
    intro b ⟨h1, h2⟩
    refine ⟨h1, fun i L hL => ?_⟩
    obtain ⟨id, _, h3⟩ := hown i L hL
    exact h2 id L h3
  refine ⟨fun i b hi => ?_, fun i hi => ?_, fun i j L M hi hj hLM => ?_⟩
  · obtain ⟨id, c, h1, h2, rfl⟩ := renMem_get hi
    obtain ⟨L, hL, hr⟩ := h.blk id c h2
    refine ⟨L, by simp [renM, h1, hL], ?_⟩
    cases c with
    | box cells =>
      obtain ⟨g1, g2, g3, g4, c, T, g5, g6, g7⟩ := hr
      refine ⟨g1, g2, g3, g4, c, T, g5, by simpa using g6, fun j x y hx hy => ?_⟩
      simp only [List.getElem?_map, Option.map_eq_some_iff] at hx
      obtain ⟨u, hu, rfl⟩ := hx
      have := ren_V (l := l) (g7 j u y hu hy)
      simpa [renMem] using this
    | row ks own r =>
      obtain ⟨g1, g2, g3, g4⟩ := hr
      exact ⟨g1, g2, g3, fun hn => ⟨fun ho => hok _ ((g4 hn).1 ho), (g4 hn).2.mono (fun b hb => ⟨hok b hb, rfl⟩) rfl⟩⟩
  · simp only [renM]
    split
    · rename_i id hid
      refine h.dead id fun b hb => hi (renB l b) ?_
      simp [renMem, hid, hb]
    · rfl
  · obtain ⟨id, h1, h2⟩ := hown i L hi
    obtain ⟨jd, h3, h4⟩ := hown j M hj
    have := h.inj id jd L M h2 h4 hLM
    subst this
    have hi' : i < l.length := (List.getElem?_eq_some_iff.1 h1).1
    have hj' : j < l.length := (List.getElem?_eq_some_iff.1 h3).1
    rw [List.getElem?_eq_getElem hi'] at h1
    rw [List.getElem?_eq_getElem hj'] at h3
    have heq : l[i] = l[j] := (Option.some.inj h1).trans (Option.some.inj h3).symm
    have hp := List.pairwise_iff_getElem.1 hl
    rcases Nat.lt_trichotomy i j with hij | hij | hij
    · exact absurd heq (hp i j hi' hj' hij)
    · exact hij
    · exact absurd heq.symm (hp j i hj' hi' hij)

theorem TmpR.ren {N : Nat} {τ : List Value} {ts : Array Value} {l : List Nat} (h : TmpR ρ N τ ts) : TmpR (renM ρ l) l.length (τ.map (ren l)) ts :=
  ⟨by simpa using h.1, fun t x y hx hy => by
    simp only [List.getElem?_map, Option.map_eq_some_iff] at hx
    obtain ⟨u, hu, rfl⟩ := hx
    exact ren_V (h.2 t u y hu hy)⟩

theorem TmpsR.ren {N : Nat} {l : List Nat} : ∀ {τs : List (List Value)} {ts : List (Array Value)}, TmpsR ρ N τs ts → TmpsR (renM ρ l) l.length (τs.map (·.map (Ev.ren l))) ts
  | [], [], _ => trivial
  | _ :: _, _ :: _, h => ⟨h.1.ren, TmpsR.ren h.2⟩

theorem keepT_len {live : List Tmp} : ∀ (t : Nat) (τ : List Value), (keepT live t τ).length = τ.length
  | _, [] => rfl
  | t, v :: vs => by simp [keepT, keepT_len (t + 1) vs]

theorem keepT_get {live : List Tmp} : ∀ (t : Nat) (τ : List Value) (i : Nat) (x : Value), (keepT live t τ)[i]? = some x → x = unk ∨ τ[i]? = some x
  | _, [], i, x, h => by simp [keepT] at h
  | t, v :: vs, 0, x, h => by
    simp only [keepT, List.getElem?_cons_zero, Option.some.injEq] at h
    split at h
    · exact .inr (by simp [h])
    · exact .inl h.symm
  | t, v :: vs, i + 1, x, h => by
    simp only [keepT, List.getElem?_cons_succ] at h
    rcases keepT_get (t + 1) vs i x h with h1 | h1
    · exact .inl h1
    · exact .inr (by simpa using h1)

theorem norm_sound {w0 : World} {σ : St} {a : Act} {cs : List (Array Value)} (h : Rel w0 σ a cs w ρ) (live : List Tmp) : ∃ ρ', Rel w0 (norm live σ) a cs w ρ' := by
  have hk : TmpR ρ σ.mem.length (keepT live 0 σ.τ) a.tmps := ⟨by rw [keepT_len]; exact h.tmps.1, fun t x y hx hy => by
    rcases keepT_get 0 σ.τ t x hx with rfl | h1
    · exact .unk
    · exact h.tmps.2 t x y h1 hy⟩
  have hl : (reach σ.mem 2 (addNew [] ((keepT live 0 σ.τ).flatMap refs ++ σ.saved.flatMap (·.flatMap refs)))).Nodup := reach_nodup _ (addNew_nodup _ List.nodup_nil)
  refine ⟨renM ρ _, h.defers, ?_, ?_, h.below, h.mem.ren hl⟩
  · have := hk.ren (l := reach σ.mem 2 (addNew [] ((keepT live 0 σ.τ).flatMap refs ++ σ.saved.flatMap (·.flatMap refs))))
    simpa [norm] using this
  · have := h.saved.ren (l := reach σ.mem 2 (addNew [] ((keepT live 0 σ.τ).flatMap refs ++ σ.saved.flatMap (·.flatMap refs))))
    simpa [norm] using this

/-! ### Slices in rows, seen as blocks -/
theorem MemR.view {mem : List (Option Blk)} (h : MemR mem ρ B w) {sub : List CK} {r : Row} {c : Value} (hv : (r.n = 0 ∧ ∃ a cap, c = .slice a 0 cap) ∨ ∃ b off cap, c = .slice (some ⟨b, off, none⟩) r.n cap ∧ r.n ≤ cap ∧ okB mem ρ w b ∧ Rds (okB mem ρ w) w sub r b off) :
    ∃ ρ', MemR (mem ++ [some (.row sub false r)]) ρ' B w ∧ (∀ id, id < mem.length → ρ' id = ρ id) ∧ (∀ b, okB mem ρ w b → okB (mem ++ [some (.row sub false r)]) ρ' w b) ∧ V ρ' (mem.length + 1) (.slice (some ⟨mem.length, 0, some 0⟩) r.n 0) c := by
  have hok : ∀ (L : Loc) (b : Nat), okB mem ρ w b → okB (mem ++ [some (.row sub false r)]) (Map.snoc ρ mem.length L) w b := by
    intro L b ⟨h1, h2⟩
    refine ⟨h1, fun id M ⟨g1, g2, blk, g4, g5⟩ => ?_⟩
    rcases get_snoc g4 with ⟨g6, g7⟩ | ⟨g6, g7⟩
    · rw [Map.snoc_old g7] at g1
      exact h2 id M ⟨g1, g2, blk, g6, g5⟩
    · cases g7
      cases g5
  rcases hv with ⟨h0, a, cap, rfl⟩ | ⟨b, off, cap, rfl, hc, hb, hd⟩
  · let L : Loc := ⟨0, 0, sub.length, 0, 0, false⟩
    refine ⟨Map.snoc ρ mem.length L, h.alloc (blk := .row sub false r) (Below.refl _ _) (fun h => by simp [L] at h) ⟨by rw [h0], rfl, (fun hf => by cases hf), fun h => by omega⟩, fun id hid => Map.snoc_old hid, hok L, ?_⟩
    rw [h0]
    exact .slice (L := L) (by omega) Map.snoc_new (by simp [L]) (Nat.zero_le _) (fun h => by omega) (fun h => by cases h)
  · let L : Loc := ⟨b, off, sub.length, 0, r.n, false⟩
    refine ⟨Map.snoc ρ mem.length L, h.alloc (blk := .row sub false r) (Below.refl _ _) (fun h => by simp [L] at h) ⟨rfl, rfl, (fun hf => by cases hf), fun _ => ⟨fun _ => hok L b hb, ?_⟩⟩, fun id hid => Map.snoc_old hid, hok L, ?_⟩
    · exact hd.mono (fun b' hb' => ⟨hok L b' hb', rfl⟩) rfl
    · refine .slice (L := L) (by omega) Map.snoc_new (by simp [L]) hc (fun h => ?_) (fun h => by cases h)
      simp [Loc.adr, L]

theorem viewVals_sound {ok : Nat → Prop} {r : Row} {e : Nat} {cv : Nat → Value} : ∀ (ks : List CK) (j : Nat) (mem mem2 : List (Option Blk)) (ρ : Map) (vs : List Value), viewVals r e ks j mem = some (vs, mem2) → MemR mem ρ B w → (∀ b, ok b → okB mem ρ w b) →
    (∀ (i : Nat) (k : CK), ks[i]? = some k → CellR ok w k r e (j + i) (cv (j + i))) →
    ∃ ρ2, MemR mem2 ρ2 B w ∧ mem.length ≤ mem2.length ∧ (∀ id, id < mem.length → ρ2 id = ρ id) ∧ vs.length = ks.length ∧ ∀ (i : Nat) (x : Value), vs[i]? = some x → V ρ2 mem2.length x (cv (j + i))
  | [], j, mem, mem2, ρ, vs, h, hm, hok, hc => by
    simp only [viewVals, Option.some.injEq, Prod.mk.injEq] at h
    obtain ⟨rfl, rfl⟩ := h
    exact ⟨ρ, hm, Nat.le_refl _, fun _ _ => rfl, rfl, fun i x hx => by simp at hx⟩
  | k :: ks, j, mem, mem2, ρ, vs, h, hm, hok, hc => by
    have h0 : CellR ok w k r e j (cv j) := hc 0 k rfl
    have hs : ∀ (i : Nat) (k' : CK), ks[i]? = some k' → CellR ok w k' r e (j + 1 + i) (cv (j + 1 + i)) := fun i k' hk => by
      have := hc (i + 1) k' (by simpa using hk)
      rwa [show j + (i + 1) = j + 1 + i by omega] at this
    have plain : ∀ (x : Value), (∀ (ρ' : Map) (N : Nat), V ρ' N x (cv j)) → (match viewVals r e ks (j + 1) mem with | some (vs, m) => some (x :: vs, m) | none => none) = some (vs, mem2) →
        ∃ ρ2, MemR mem2 ρ2 B w ∧ mem.length ≤ mem2.length ∧ (∀ id, id < mem.length → ρ2 id = ρ id) ∧ vs.length = (k :: ks).length ∧ ∀ (i : Nat) (x : Value), vs[i]? = some x → V ρ2 mem2.length x (cv (j + i)) := by
      intro x hx h
      split at h
      · rename_i us m hu
        cases h
        obtain ⟨ρ2, k1, k2, k3, k4, k5⟩ := viewVals_sound ks (j + 1) mem _ ρ us hu hm hok hs
        refine ⟨ρ2, k1, k2, k3, by simp [k4], fun i y hy => ?_⟩
        cases i with
        | zero => simp at hy; subst hy; exact hx _ _
        | succ i =>
          have := k5 i y (by simpa using hy)
          rwa [show j + 1 + i = j + (i + 1) by omega] at this
      · cases h
    cases k with
    | int kd =>
      simp only [viewVals] at h
      refine plain _ (fun ρ' N => ?_) h
      generalize cv j = c at h0
      cases h0
      exact .int
    | bool =>
      simp only [viewVals] at h
      refine plain _ (fun ρ' N => ?_) h
      generalize cv j = c at h0
      cases h0
      exact .bool
    | str =>
      simp only [viewVals] at h
      refine plain _ (fun ρ' N => ?_) h
      generalize cv j = c at h0
      cases h0
      exact .str
    | slice sub =>
      simp only [viewVals] at h
      split at h
      · rename_i us m hu
        cases h
        have hv : ((r.R e j).n = 0 ∧ ∃ a cap, cv j = .slice a 0 cap) ∨ ∃ b off cap, cv j = .slice (some ⟨b, off, none⟩) (r.R e j).n cap ∧ (r.R e j).n ≤ cap ∧ okB mem ρ w b ∧ Rds (okB mem ρ w) w sub (r.R e j) b off := by
          generalize cv j = c at h0
          cases h0 with
          | slice0 g => exact .inl ⟨g, _, _, rfl⟩
          | slice g1 g2 g3 g4 => exact .inr ⟨_, _, _, by rw [g1], by rw [g1]; exact g2, hok _ g3, g4.mono (fun b hb => ⟨hok b hb, rfl⟩) rfl⟩
        obtain ⟨ρ1, n1, n2, n3, n4⟩ := hm.view hv
        obtain ⟨ρ2, k1, k2, k3, k4, k5⟩ := viewVals_sound ks (j + 1) _ _ ρ1 us hu n1 (fun b hb => n3 b (hok b hb)) hs
        have hl : mem.length + 1 ≤ mem2.length := by simpa using k2
        refine ⟨ρ2, k1, by omega, fun id hid => (k3 id (by simp; omega)).trans (n2 id hid), by simp [k4], fun i y hy => ?_⟩
        cases i with
        | zero =>
          simp at hy
          subst hy
          exact n4.mono hl fun id hid => .inl (k3 id (by simpa using hid))
        | succ i =>
          have := k5 i y (by simpa using hy)
          rwa [show j + 1 + i = j + (i + 1) by omega] at this
      · cases h
    | other => simp [viewVals] at h

theorem run_eqnil {t : TypeId} {ms : Array (String × TypeId)} (ht : P.underlying t = some (.interface ms)) (w : World) : (Op.equal t .nilIface .nilIface).run P w = .ok true w := by
  have h : ∀ d : Nat, (Op.equalIn (d + 1) t .nilIface .nilIface).run P w = .ok true w := fun d => by simp [Op.equalIn, run_underlying ht]
  exact h 9999
theorem run_eqerr {t s : TypeId} {x : Value} {ms : Array (String × TypeId)} (ht : P.underlying t = some (.interface ms)) (w : World) : (Op.equal t (.iface s x) .nilIface).run P w = .ok false w := by
  have h : ∀ d : Nat, (Op.equalIn (d + 1) t (.iface s x) .nilIface).run P w = .ok false w := fun d => by simp [Op.equalIn, run_underlying ht]
  exact h 9999
theorem viewLoad_sound {mem mem1 : List (Option Blk)} (hm : MemR mem ρ B w) {ea : Operand → Value} {a : Act} (hE : ∀ x, V ρ mem.length (ea x) (a.eval x)) {o : Oper} {v : Value} (h : viewLoad P mem ea o = some (v, mem1)) :
    ∃ cv ρ1, MemR mem1 ρ1 B w ∧ mem.length ≤ mem1.length ∧ (∀ id, id < mem.length → ρ1 id = ρ id) ∧ V ρ1 mem1.length v cv ∧ ∀ w', Below w.heap.size w w' → (execOp a.eval o).run P w' = .ok (.value cv) w' := by
  unfold viewLoad at h
  split at h
  · rename_i t x ho
    split at h
    · rename_i id e j i ag hx hi hag
      split at h
      · rename_i ks own r hb
        split at h
        · rename_i hsl
          simp only [Bool.and_eq_true] at hsl
          have hle := Nat.le_of_ble_eq_true hsl.2
          have hvx := hE x
          rw [hx] at hvx
          generalize hcx : a.eval x = cx at hvx
          cases hvx with
          | ptrDead h1 h2 => exact absurd h2 (live_of hm hb)
          | ptr h1 h2 h3 =>
            rename_i L
            have hcell : ∀ i', i' < i.size → ∃ y, (∀ k, ks[j + i']? = some k → CellR (okB mem ρ w) w k r e (j + i') y) ∧ ∀ w', Below w.heap.size w w' → w'.cell? (L.adr e (j + i')) = some y := by
              intro i' hi'
              have hk : ks[j + i']? = some ks[j + i'] := List.getElem?_eq_getElem (by omega)
              obtain ⟨y, hy1, hy2⟩ := row_cell hm hb h2 h3 hk
              exact ⟨y, fun k hk' => by rw [hk] at hk'; cases hk'; exact hy1, hy2⟩
            let f : Nat → Value := fun q => if hi' : q - j < i.size then Classical.choose (hcell (q - j) hi') else undef
            have hf : ∀ i', i' < i.size → (∀ k, ks[j + i']? = some k → CellR (okB mem ρ w) w k r e (j + i') (f (j + i'))) ∧ ∀ w', Below w.heap.size w w' → w'.cell? (L.adr e (j + i')) = some (f (j + i')) := by
              intro i' hi'
              have := Classical.choose_spec (hcell i' hi')
              have e1 : j + i' - j = i' := by omega
              simp only [f, e1, hi', dif_pos]
              exact this
            have hrun : ∀ (w' : World) (cv : Value), (loadVar t (L.adr e j)).run P w' = .ok cv w' → (execOp a.eval o).run P w' = .ok (.value cv) w' := by
              intro w' cv hv
              simp [execOp, ho, hcx, Instr.loadAt, Instr.sureAddr, hv]
            have hcs : ∀ (i' : Nat) (k : CK), ((ks.drop j).take i.size)[i']? = some k → CellR (okB mem ρ w) w k r e (j + i') (f (j + i')) := by
              intro i' k hk
              have hi' : i' < i.size := by have := (List.getElem?_eq_some_iff.1 hk).1; simp at this; omega
              rw [take_drop_getElem? _ _ _ _ hi'] at hk
              exact (hf i' hi').1 k hk
            have hklen : ((ks.drop j).take i.size).length = i.size := by simp; omega
            split at h
            · rename_i vs m hvs
              cases h
              obtain ⟨ρ2, k1, k2, k3, k4, k5⟩ := viewVals_sound _ _ _ _ ρ vs hvs hm (fun b hb => hb) hcs
              rw [hklen] at k4
              refine ⟨.agg ⟨(List.range i.size).map fun i' => f (j + i')⟩, ρ2, k1, k2, k3, .agg (by simp [k4]) fun i' p q hp hq => ?_, fun w' hw' => hrun _ _ (run_loadVar_agg hi hag (by simp) fun i' v hv => ?_)⟩
              · simp only [List.getElem?_toArray] at hp hq
                have hi' : i' < i.size := by have := (List.getElem?_eq_some_iff.1 hq).1; simpa using this
                simp [hi'] at hq
                subst hq
                exact k5 i' p hp
              · have hi' : i' < i.size := by have := (List.getElem?_eq_some_iff.1 hv).1; simpa using this
                simp [hi'] at hv
                subst hv
                rw [Loc.adr_add]
                exact (hf i' hi').2 w' hw'
            · rename_i u m hvs
              cases h
              obtain ⟨ρ2, k1, k2, k3, k4, k5⟩ := viewVals_sound _ _ _ _ ρ _ hvs hm (fun b hb => hb) hcs
              rw [hklen] at k4
              refine ⟨f (j + 0), ρ2, k1, k2, k3, k5 0 v rfl, fun w' hw' => hrun _ _ (run_loadVar_one hag ?_)⟩
              exact (hf 0 (by simp at k4; omega)).2 w' hw'
            · cases h
        · cases h
      · cases h
    · cases h
  · rename_i src dst x ho
    split at h
    · rename_i el id e len hs hd hx
      split at h
      · rename_i own r hu8 hb
        cases h
        have hvx := hE x
        rw [hx] at hvx
        generalize hcx : a.eval x = cx at hvx
        have hrun : ∀ (w' : World) (a' : Option Addr) (cap : Nat) (cv : Value), cx = .slice a' len cap → (Conv.bytesToString (.slice a' len cap)).run P w' = .ok cv w' → (execOp a.eval o).run P w' = .ok (.value cv) w' := by
          intro w' a' cap cv he hv
          subst he
          simp only [execOp, ho, hcx, Sem.run_bind, run_convert_bytes_string w' src dst el a' len cap hs hu8 hd, hv, Result.andThen_ok, Sem.run_pure]
        cases hvx with
        | sliceDead h1 h2 => exact absurd h2 (live_of hm hb)
        | @slice _ _ _ L a' cap h1 h2 h3 h4 h5 h6 =>
          refine ⟨_, ρ, hm, Nat.le_refl _, fun _ _ => rfl, .str, fun w' hw' => hrun w' a' cap _ rfl ?_⟩
          by_cases h0 : len = 0
          · subst h0
            cases a' with
            | none => rfl
            | some a' => exact run_bytesToString w' a' 0 cap [] (run_loadCells_list (P := P) w' a' [] (fun j v hv => by simp at hv))
          · rw [h5 (by omega)]
            have hsz : L.sz = 1 := by
              obtain ⟨M, hM, _, b2, _⟩ := hm.blk _ _ hb
              rw [h2] at hM
              cases hM
              exact b2
            refine run_bytesToString w' (L.adr e 0) len cap ((List.range len).map fun i => r.I (e + i) 0) ?_
            have := run_loadCells_list (P := P) w' (L.adr e 0) (((List.range len).map fun i => r.I (e + i) 0).map (Value.int .u8)) (fun j v hv => by
              have hj : j < len := by have := (List.getElem?_eq_some_iff.1 hv).1; simpa using this
              simp [hj] at hv
              subst hv
              obtain ⟨y, hy1, hy2⟩ := row_cell hm hb h2 (show e + j < L.n by omega) (j := 0) (k := .int .u8) rfl
              cases hy1
              have h7 := hy2 w' hw'
              rw [← h7]
              congr 1
              simp [Loc.adr, Addr.add, hsz, Nat.add_assoc])
            simpa using this
      · cases h
    · cases h
  · rename_i op t x q ho
    have hvx := hE x
    have hev : a.eval (.const .nilIface) = .nilIface := rfl
    split at h
    · rename_i hu hx
      cases h
      rw [hx] at hvx
      generalize hcx : a.eval x = cx at hvx
      cases hvx
      refine ⟨_, ρ, hm, Nat.le_refl _, fun _ _ => rfl, .bool, fun w' _ => ?_⟩
      simp [execOp, ho, hcx, hev, eqGuard, binOp, run_eqnil hu]
    · rename_i hu hx
      cases h
      rw [hx] at hvx
      generalize hcx : a.eval x = cx at hvx
      cases hvx
      refine ⟨_, ρ, hm, Nat.le_refl _, fun _ _ => rfl, .bool, fun w' _ => ?_⟩
      simp [execOp, ho, hcx, hev, eqGuard, binOp, run_eqnil hu]
    · rename_i b hu hx
      cases h
      rw [hx] at hvx
      generalize hcx : a.eval x = cx at hvx
      cases hvx with
      | iface h1 h2 =>
        refine ⟨_, ρ, hm, Nat.le_refl _, fun _ _ => rfl, .bool, fun w' _ => ?_⟩
        cases b with
        | true =>
          obtain ⟨t', y, rfl⟩ := h1 rfl
          simp [execOp, ho, hcx, hev, eqGuard, binOp, run_eqerr hu]
        | false =>
          obtain rfl := h2 rfl
          simp [execOp, ho, hcx, hev, eqGuard, binOp, run_eqnil hu]
    · rename_i b hu hx
      cases h
      rw [hx] at hvx
      generalize hcx : a.eval x = cx at hvx
      cases hvx with
      | iface h1 h2 =>
        refine ⟨_, ρ, hm, Nat.le_refl _, fun _ _ => rfl, .bool, fun w' _ => ?_⟩
        cases b with
        | true =>
          obtain ⟨t', y, rfl⟩ := h1 rfl
          simp [execOp, ho, hcx, hev, eqGuard, binOp, run_eqerr hu]
        | false =>
          obtain rfl := h2 rfl
          simp [execOp, ho, hcx, hev, eqGuard, binOp, run_eqnil hu]
    · cases h
  · cases h

theorem Rel.view {w0 : World} {σ : St} {a : Act} {cs : List (Array Value)} (h : Rel w0 σ a cs w ρ) {o : Oper} {v : Value} {m : List (Option Blk)} (hv : viewLoad P σ.mem (env σ.τ) o = some (v, m)) :
    ∃ cv ρ1, Rel w0 (({ σ with mem := m } : St).put o.dst v) (a.put o.dst cv) cs w ρ1 ∧ ∀ w', Below w.heap.size w w' → (execOp a.eval o).run P w' = .ok (.value cv) w' := by
  obtain ⟨cv, ρ1, k1, k2, k3, k4, k5⟩ := viewLoad_sound h.mem (fun x => h.tmps.env x) hv
  refine ⟨cv, ρ1, ?_, k5⟩
  have h1 : Rel w0 { σ with mem := m } a cs w ρ1 := ⟨h.defers, h.tmps.mono k2 fun id hid => .inl (k3 id hid), h.saved.mono k2 fun id hid => .inl (k3 id hid), h.below, k1⟩
  exact h1.put o.dst k4
end
end Go.Ev

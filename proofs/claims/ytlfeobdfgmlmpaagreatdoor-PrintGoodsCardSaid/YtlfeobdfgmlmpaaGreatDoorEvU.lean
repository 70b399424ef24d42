/- A law's row out of an evaluation: whatever comes in, the law's function gives true. No conditions. -/
import Derived.Test.YtlfeobdfgmlmpaaGreatDoorEvT
import Derived.ProofKit
import Derived.OpenShut
import Derived.ShutString
import Derived.ChangeOld
import Derived.Below
import Derived.Carry
import Derived.Handed
import Derived.KernelRfl
namespace Go.Ev
open Go.RowKit Go.ChangeShapes Go.WideShapes

/-- Data of one cell, in range. -/
inductive ArgD : CK → D → Prop
  | int {k : IntKind} {n : Int} : (Lit.int k n).wf = true → ArgD (.int k) (.v (.int k n))
  | bool {b : Bool} : ArgD .bool (.v (.bool b))
  | str {s : ByteArray} : s.size ≤ maxLen → ArgD .str (.v (.string s))
  | slice {sub : List CK} {r : Row} : WfR sub r → ArgD (.slice sub) (.slice sub r)

inductive ArgDs : List CK → List D → Prop
  | nil : ArgDs [] []
  | cons {k : CK} {ks : List CK} {x : D} {xs : List D} : ArgD k x → ArgDs ks xs → ArgDs (k :: ks) (x :: xs)

inductive ArgTs : List (Bool × List CK) → List D → Prop
  | nil : ArgTs [] []
  | one {k : CK} {sh : List (Bool × List CK)} {x : D} {xs : List D} : ArgD k x → ArgTs sh xs → ArgTs ((false, [k]) :: sh) (x :: xs)
  | agg {ks : List CK} {sh : List (Bool × List CK)} {ys xs : List D} : ArgDs ks ys → ArgTs sh xs → ArgTs ((true, ks) :: sh) (.agg ys :: xs)

def plainT (P : Program) (t : TypeId) : Bool := match P.underlying t with
  | some .bool | some (.int _) | some .string | some (.slice _) => true
  | _ => false

/-- The arguments' shapes, where they are ones that can be read. -/
def shapes (P : Program) (d : Nat) : List TypeId → Option (List (Bool × List CK))
  | [] => some []
  | t :: ts => match shapes P d ts, layOk P d t, aggT P t, plainT P t, kinds P d t with
    | some sh, true, some true, _, ks => some ((true, ks) :: sh)
    | some sh, true, some false, true, [k] => some ((false, [k]) :: sh)
    | _, _, _, _, _ => none

section
variable {P : Program} {w : World}

theorem in1 {k : CK} {v : Value} {p : Pay} (h : CellP w k v p) {m1 : List (Option Blk)} {ρ1 : Map} (hm1 : MemR m1 ρ1 w.heap.size w) (hn : NonOwn m1) :
    ∃ d, ArgD k d ∧ (∀ ds, d ≠ .agg ds) ∧ ∃ x m2 ρ2, fromD1 false m1 d = some (x, m2) ∧ MemR m2 ρ2 w.heap.size w ∧ NonOwn m2 ∧ m1.length ≤ m2.length ∧ (∀ id, id < m1.length → ρ2 id = ρ1 id) ∧ V ρ2 m2.length x v := by
  obtain ⟨hR, hW⟩ := h (fun _ _ => p) 1 0 0 rfl
  generalize hr : Pay.row (fun _ _ => p) 1 = r at hR hW
  cases hR with
  | int =>
    cases hW with
    | int hw => exact ⟨_, .int hw, (fun _ h => by cases h), _, m1, ρ1, rfl, hm1, hn, Nat.le_refl _, fun _ _ => rfl, .int⟩
  | bool => exact ⟨_, .bool, (fun _ h => by cases h), _, m1, ρ1, rfl, hm1, hn, Nat.le_refl _, fun _ _ => rfl, .bool⟩
  | str =>
    cases hW with
    | str hw => exact ⟨_, .str hw, (fun _ h => by cases h), _, m1, ρ1, rfl, hm1, hn, Nat.le_refl _, fun _ _ => rfl, .str⟩
  | @slice0 sub _ _ _ a cap h0 =>
    cases hW with
    | slice hw =>
      let L : Loc := ⟨0, 0, sub.length, 0, 0, false, s0⟩
      refine ⟨_, .slice hw, (fun _ h => by cases h), _, _, Map.snoc ρ1 m1.length L, by simp only [fromD1]; rfl, hm1.alloc (blk := .row sub false (r.R 0 0)) (Below.refl _ _) (fun h => by cases h) ⟨by rw [h0], rfl, (fun hf => by cases hf), fun h => by omega, rfl⟩, hn.snoc rfl, by simp, fun id hid => Map.snoc_old hid, ?_⟩
      rw [h0]
      exact .slice (L := L) (by simp) Map.snoc_new (by simp [L]) (Nat.zero_le _) (fun h => by omega) (fun h => by cases h)
  | @slice sub _ _ _ b off n cap h0 hc hb hd =>
    cases hW with
    | slice hw =>
      let L : Loc := ⟨b, off, sub.length, 0, n, false, s0⟩
      have hn2 : NonOwn (m1 ++ [some (.row sub false (r.R 0 0))]) := hn.snoc rfl
      refine ⟨_, .slice hw, (fun _ h => by cases h), _, _, Map.snoc ρ1 m1.length L, by simp only [fromD1]; rfl, hm1.alloc (blk := .row sub false (r.R 0 0)) (Below.refl _ _) (fun h => by cases h) ⟨by rw [h0], rfl, (fun hf => by cases hf), fun _ => ⟨fun _ => hn2.ok hb, ?_⟩, rfl⟩, hn2, by simp, fun id hid => Map.snoc_old hid, ?_⟩
      · exact hd.mono (fun b hb' => ⟨hn2.ok hb', rfl⟩) rfl
      · rw [h0]
        refine .slice (L := L) (by simp) Map.snoc_new (by simp [L]) hc (fun h => ?_) (fun h => by cases h)
        simp [Loc.adr, L]

theorem ins : ∀ (ks : List CK) (cs : List Value), CellsP w ks cs → ∀ (m1 : List (Option Blk)) (ρ1 : Map), MemR m1 ρ1 w.heap.size w → NonOwn m1 →
    ∃ ds, ArgDs ks ds ∧ ∃ xs m2 ρ2, fromD1s false ds m1 = some (xs, m2) ∧ MemR m2 ρ2 w.heap.size w ∧ NonOwn m2 ∧ m1.length ≤ m2.length ∧ (∀ id, id < m1.length → ρ2 id = ρ1 id) ∧ Vs ρ2 m2.length xs cs
  | [], cs, h, m1, ρ1, hm1, hn => by
    obtain rfl : cs = [] := by simpa using h.1
    exact ⟨[], .nil, [], m1, ρ1, rfl, hm1, hn, Nat.le_refl _, fun _ _ => rfl, .nil⟩
  | k :: ks, [], h, m1, ρ1, hm1, hn => by have := h.1; simp at this
  | k :: ks, c :: cs, h, m1, ρ1, hm1, hn => by
    obtain ⟨p, hp⟩ := h.2 0 k c rfl rfl
    obtain ⟨d, hd, _, x, m2, ρ2, k1, k2, k3, k4, k5, k6⟩ := in1 hp hm1 hn
    obtain ⟨ds, hds, xs, m3, ρ3, l1, l2, l3, l4, l5, l6⟩ := ins ks cs ⟨by simpa using h.1, fun j k v hk hv => h.2 (j + 1) k v (by simpa using hk) (by simpa using hv)⟩ m2 ρ2 k2 k3
    exact ⟨d :: ds, .cons hd hds, x :: xs, m3, ρ3, by simp [fromD1s, k1, l1], l2, l3, by omega, fun id hid => (l5 id (by omega)).trans (k5 id hid), .cons (k6.mono l4 fun id hid => .inl (l5 id hid)) l6⟩

theorem plain_cells {t : TypeId} {r : Reach} {b0 : Nat} {v : Value} (hp : plainT P t = true) (h : Value.okWide P w r b0 t v) : v.cells.toList = [v] := by
  unfold plainT at hp
  split at hp
  · rename_i hu; obtain ⟨b, rfl⟩ := okWide_bool hu h; rfl
  · rename_i hu; obtain ⟨b, rfl⟩ := okWide_int hu h; rfl
  · rename_i hu; obtain ⟨b, rfl⟩ := okWide_string hu h; rfl
  · rename_i hu; obtain ⟨a, l, c, rfl⟩ := okWide_slice hu h; rfl
  · cases hp

theorem agg_cells {t : TypeId} {r : Reach} {b0 : Nat} {v : Value} (hp : aggT P t = some true) (h : Value.okWide P w r b0 t v) : ∃ cs, v = .agg cs := by
  unfold aggT at hp
  unfold Value.okWide at h
  split at hp
  · rename_i hu
    rw [hu] at h
    obtain ⟨cs, rfl, _⟩ := h
    exact ⟨cs, rfl⟩
  · rename_i hu
    rw [hu] at h
    obtain ⟨cs, rfl, _⟩ := h
    exact ⟨cs, rfl⟩
  · cases hp
  · cases hp

theorem args_in {H : Type} {enc : TypeId × Value → H} {d : Nat} {r : Reach} {b0 : Nat} : ∀ (ts : List TypeId) (sh : List (Bool × List CK)) (vs : List Value) (ds : List (DataW H)) (ps : List MemPlace), shapes P d ts = some sh →
    DataW.TrodAll enc P w 0 (fun _ => true) true ts vs ds ps → (∀ (j : Nat) t v, ts[j]? = some t → vs[j]? = some v → Value.okWide P w r b0 t v) → ∀ (m1 : List (Option Blk)) (ρ1 : Map), MemR m1 ρ1 w.heap.size w → NonOwn m1 →
    ∃ Ds, ArgTs sh Ds ∧ ∃ xs m2 ρ2, fromDs false Ds m1 = some (xs, m2) ∧ MemR m2 ρ2 w.heap.size w ∧ NonOwn m2 ∧ m1.length ≤ m2.length ∧ (∀ id, id < m1.length → ρ2 id = ρ1 id) ∧ Vs ρ2 m2.length xs vs
  | [], sh, vs, ds, ps, hs, ht, _, m1, ρ1, hm1, hn => by
    simp only [shapes, Option.some.injEq] at hs
    subst hs
    obtain ⟨rfl, _, _⟩ := trodAll_nil ht
    exact ⟨[], .nil, [], m1, ρ1, rfl, hm1, hn, Nat.le_refl _, fun _ _ => rfl, .nil⟩
  | t :: ts, sh, vs, ds, ps, hs, ht, hok, m1, ρ1, hm1, hn => by
    obtain ⟨v, vs', dd, ds', p, q, rfl, rfl, rfl, ⟨fuel, h0⟩, hr⟩ := trodAll_cons ht
    have hv := hok 0 t v rfl rfl
    unfold shapes at hs
    split at hs
    · rename_i sh' hs' hl ha
      cases hs
      obtain ⟨cs, rfl⟩ := agg_cells ha hv
      have hc := read_cells _ _ _ _ _ hl h0
      obtain ⟨ys, hys, xs, m2, ρ2, k1, k2, k3, k4, k5, k6⟩ := ins _ _ hc m1 ρ1 hm1 hn
      obtain ⟨Ds, hDs, xs', m3, ρ3, l1, l2, l3, l4, l5, l6⟩ := args_in ts sh' vs' ds' q hs' hr (fun j t v h1 h2 => hok (j + 1) t v (by simpa using h1) (by simpa using h2)) m2 ρ2 k2 k3
      refine ⟨.agg ys :: Ds, .agg hys hDs, .agg ⟨xs⟩ :: xs', m3, ρ3, by simp [fromDs, fromD, k1, l1], l2, l3, by omega, fun id hid => (l5 id (by omega)).trans (k5 id hid), .cons (V.mono l4 (fun id hid => .inl (l5 id hid)) ?_) l6⟩
      exact k6.agg
    · rename_i sh' k hs' hl ha hpl hk
      cases hs
      have hc := read_cells _ _ _ _ _ hl h0
      rw [hk, plain_cells hpl hv] at hc
      obtain ⟨pp, hpp⟩ := hc.2 0 k v rfl rfl
      obtain ⟨y, hy, hna, x, m2, ρ2, k1, k2, k3, k4, k5, k6⟩ := in1 hpp hm1 hn
      obtain ⟨Ds, hDs, xs', m3, ρ3, l1, l2, l3, l4, l5, l6⟩ := args_in ts sh' vs' ds' q hs' hr (fun j t v h1 h2 => hok (j + 1) t v (by simpa using h1) (by simpa using h2)) m2 ρ2 k2 k3
      have hfd : fromD false m1 y = some (x, m2) := by
        rw [← k1]
        cases y with
        | agg zs => exact absurd rfl (hna zs)
        | v z => rfl
        | slice ks r => rfl
        | ptr ks r => rfl
        | err b => rfl
      exact ⟨y :: Ds, .one hy hDs, x :: xs', m3, ρ3, by simp [fromDs, hfd, l1], l2, l3, by omega, fun id hid => (l5 id (by omega)).trans (k5 id hid), .cons (V.mono l4 (fun id hid => .inl (l5 id hid)) k6) l6⟩
    · cases hs

theorem trodAll_below {H : Type} {enc : TypeId × Value → H} (hl : laidOutB P = true) {W' : World} (hb : Below w.heap.size w W') : ∀ (ts : List TypeId) (vs : List Value) (ds : List (DataW H)) (ps : List MemPlace), (ts.all fun t => P.readableRec t && decide (t < P.types.size)) = true →
    DataW.TrodAll enc P w 0 (fun _ => true) true ts vs ds ps → (∀ x ∈ ps, x.block < w.heap.size) → DataW.TrodAll enc P W' 0 (fun b => decide (b < w.heap.size)) true ts vs ds ps
  | [], vs, ds, ps, _, h, _ => by
    obtain ⟨rfl, rfl, rfl⟩ := trodAll_nil h
    exact trodAll_mk0
  | t :: ts, vs, ds, ps, ha, h, hlt => by
    obtain ⟨v, vs', dd, ds', p, q, rfl, rfl, rfl, h0, hr⟩ := trodAll_cons h
    simp only [List.all_cons, Bool.and_eq_true, decide_eq_true_eq] at ha
    exact trodAll_cons_mk (Below.trod hl ha.1.1 ha.1.2 h0 hb fun x hx => hlt x (by simp [hx])) (trodAll_below hl hb ts vs' ds' q (by simpa using ha.2) hr fun x hx => hlt x (by simp [hx]))

end

/-- What a call of the law's function comes to, from a world W in which the contracts hold. -/
theorem contract_true {C : Cx} {K : Checked} (hP : C.P = K.prog) {f d e : Nat} {fn : Func} {s : ChangeSpec} {t4 : TypeId} {sh : List (Bool × List CK)} (laid : laidOutB K.prog = true)
    (hall : (fn.params.toList.all fun t => K.prog.readableRec t && decide (t < K.prog.types.size)) = true) (hres : fn.resultTypes = #[t4]) (h4 : K.prog.underlying t4 = some .bool) (hvars : s.vars = [])
    (hs : ∀ (H : Type) (ds : List (DataW H)), ds.length = fn.params.size → s.fn H ds = { results := [.lit (.bool true)], args := ds }) (hsh : shapes K.prog d fn.params.toList = some sh)
    (hev : ∀ Ds, ArgTs sh Ds → evF C e f Ds = some [.v (.bool true)])
    {H : Type} {enc : TypeId × Value → H} {W : World} {base : Nat} {args : Array Value} {ds gs : List (DataW H)} {before : List MemPlace} (hC : CxAt C W)
    (hval : ∀ (j : Nat) t v, fn.params[j]? = some t → args[j]? = some v → Value.okWide K.prog W .any base t v) (hW : DataW.Whole enc K.prog fn.params.toList s.vars false W args.toList ds gs before) :
    Calls K.prog f args W fun e' W' => ∃ v, e' = .returned v ∧ s.post enc K.prog fn false true false false W args v W' := by
  have hlt := hW.lt
  have hW' := hW
  obtain ⟨p, q, hA, hV, hpq, hfz, hnd⟩ := hW
  rw [hvars] at hV
  obtain ⟨rfl, rfl⟩ := trodVars_none hV
  rw [List.append_nil] at hpq
  subst hpq
  have hlen : ∀ (ts : List TypeId) (vs : List Value) (ds : List (DataW H)) (ps : List MemPlace), DataW.TrodAll enc K.prog W 0 (fun _ => true) true ts vs ds ps → ds.length = ts.length := by
    intro ts
    induction ts with
    | nil => intro vs ds ps h; obtain ⟨_, rfl, _⟩ := trodAll_nil h; rfl
    | cons t ts ih =>
      intro vs ds ps h
      obtain ⟨v, vs', dd, ds', p, q, rfl, rfl, rfl, h0, hr⟩ := trodAll_cons h
      simp [ih _ _ _ hr]
  obtain ⟨Ds, hDs, xs, m2, ρ2, k1, k2, _, _, _, k6⟩ := args_in fn.params.toList sh args.toList ds before hsh hA (fun j t v h1 h2 => hval j t v (by simpa using h1) (by simpa using h2)) [] (fun _ => none) ⟨fun id b h => by simp at h, fun _ _ => rfl, fun i j b h => by obtain ⟨_, _, h1, _⟩ := h; cases h1⟩ (fun id b h => by simp at h)
  have hden : DenAt C.P W f (fun ds => (evF C e f ds).map fun rs => (true, rs)) := evF_at hC fun ds rs h => by simpa using h
  have := hden Ds [.v (.bool true)] (by show Option.map _ (evF C e f Ds) = _; rw [hev Ds hDs]; rfl) W (Below.refl _ _) args.toList xs m2 ρ2 k1 k2 k6.1 k6.2
  have hargs : (⟨args.toList⟩ : Array Value) = args := by cases args; rfl
  rw [hP, hargs] at this
  refine Calls.mono this fun e' W' hh => ?_
  obtain ⟨cv, he, bel, us, mem', ρ', hfrom, _, hcv⟩ := hh
  simp only [fromDs, fromD, fromD1, atom1, Option.some.injEq, Prod.mk.injEq] at hfrom
  obtain ⟨rfl, rfl⟩ := hfrom
  have hcv2 : cv = .bool true := by
    simp only [tupV] at hcv
    cases hcv
    rfl
  subst hcv2
  subst he
  have hss := hs H ds (by rw [hlen _ _ _ _ hA]; simp)
  refine ⟨_, rfl, ds, [], before, [], before, [], hW', ?_, ?_, ?_, bel.frame _, fun h => by cases h⟩
  · rw [List.append_nil, hss, hres]
    exact trodAll_mk1 (shut_bool h4 _)
  · rw [List.append_nil, hss]
    exact trodAll_below laid bel _ _ _ _ hall hA hlt
  · rw [List.append_nil, hss, hvars]
    rfl

/-- The row: the law's function, evaluated at whatever data of the arguments' shapes, gives true. -/
theorem lifted_true {C : Cx} (hC : CxOk C) {K : Checked} (hP : C.P = K.prog) {f d e : Nat} {fn : Func} {s : ChangeSpec} {t4 : TypeId} {sh : List (Bool × List CK)} (own : ownKnob K.prog.godebug = none) (noInit : K.prog.inits.idxOf? f = none) (hfn : K.prog.funcs[f]? = some fn) (laid : laidOutB K.prog = true)
    (hall : (fn.params.toList.all fun t => K.prog.readableRec t && decide (t < K.prog.types.size)) = true) (hres : fn.resultTypes = #[t4]) (h4 : K.prog.underlying t4 = some .bool) (hvars : s.vars = [])
    (hs : ∀ (H : Type) (ds : List (DataW H)), ds.length = fn.params.size → s.fn H ds = { results := [.lit (.bool true)], args := ds }) (hsh : shapes K.prog d fn.params.toList = some sh)
    (hev : ∀ Ds, ArgTs sh Ds → evF C e f Ds = some [.v (.bool true)])
    {conds : List PathCond} {os : Os} (started : os.Started) {H : Type} {enc : TypeId × Value → H}
    (wit : ∃ (w : World) (tape : Tape) (i : Input), w.os = os ∧ (w.forCall tape i).Shaped K.prog ∧ i.vars = [] ∧ Input.okWide K.prog (w.forCall tape i) .any w.heap.size f i ∧
      s.pre6 enc K.prog fn conds false (w.forCall tape i).memory i.args ∧ ({} : Assume).holds K.prog (lone (Frame.enter K.prog f i.args .normal) [] (w.forCall tape i))) :
    ReturnsInHanded {} K os f .any (s.pre6 enc K.prog fn conds false) (s.post enc K.prog fn false true false false) := by
  exact returnsInHanded_of_change (C := K) own started noInit hfn wit fun W _ _ _ _ _ hval hW _ _ => contract_true (C := C) hP laid hall hres h4 hvars hs hsh hev (hC W) hval hW

/-- The same of a row that lists package variables: X says what they hold. -/
theorem lifted_laid {C : Cx} {Wp : World → Prop} (hC : CxW C Wp) {K : Checked} (hP : C.P = K.prog) {f d e : Nat} {fn : Func} {s : ChangeSpec} {t4 : TypeId} {sh : List (Bool × List CK)} (own : ownKnob K.prog.godebug = none) (noInit : K.prog.inits.idxOf? f = none) (hfn : K.prog.funcs[f]? = some fn) (laid : laidOutB K.prog = true)
    (hall : (fn.params.toList.all fun t => K.prog.readableRec t && decide (t < K.prog.types.size)) = true) (hres : fn.resultTypes = #[t4]) (h4 : K.prog.underlying t4 = some .bool) (hvars : s.vars = [])
    (hs : ∀ (H : Type) (ds : List (DataW H)), ds.length = fn.params.size → s.fn H ds = { results := [.lit (.bool true)], args := ds }) (hsh : shapes K.prog d fn.params.toList = some sh)
    (hev : ∀ Ds, ArgTs sh Ds → evF C e f Ds = some [.v (.bool true)])
    {conds : List PathCond} {os : Os} (started : os.Started) {H : Type} {enc : TypeId × Value → H} {X : World → Prop} (hX : ∀ w w' : World, w.heap = w'.heap → X w → X w') (hXW : ∀ w, X w → Wp w)
    (wit : ∃ (w : World) (tape : Tape) (i : Input), w.os = os ∧ (w.forCall tape i).Shaped K.prog ∧ i.vars = [] ∧ Input.okWide K.prog (w.forCall tape i) .any w.heap.size f i ∧
      ((s.pre enc K.prog fn conds false (w.forCall tape i).memory i.args ∧ X (w.forCall tape i).memory) ∧ sizedMet enc K.prog fn (OpenSpec.ofChange s) false (w.forCall tape i).memory i.args) ∧ ({} : Assume).holds K.prog (lone (Frame.enter K.prog f i.args .normal) [] (w.forCall tape i))) :
    ReturnsInHanded {} K os f .any (fun w args => (s.pre enc K.prog fn conds false w args ∧ X w) ∧ sizedMet enc K.prog fn (OpenSpec.ofChange s) false w args) (s.post enc K.prog fn false true false false) :=
  returnsInHanded_of_change_and (C := K) (X := fun w _ => X w) (fun w w' _ h1 h2 => hX w w' h1 h2) own started noInit hfn wit fun W _ _ _ _ _ hval hW _ _ hL _ =>
    contract_true (C := C) hP laid hall hres h4 hvars hs hsh hev (hC W (hXW W hL)) hval hW
end Go.Ev

/- Texts P10 in one. No conditions. -/
import Derived.Test.YtlfeobdfgmlmpaaGreatDoorTie
import Derived.Test.YtlfeobdfgmlmpaaGreatDoorCards
import Derived.Lib.LaidU8
import Derived.Lib.LaidTab
import Derived.LaidLaws
import Derived.Handed
import Derived.Test.YtlfeobdfgmlmpaaGreatDoorPD
/- PrintGoods: what the rows say of package variables, a start that bears it; the law's function gives true; the tied card. No conditions. -/
namespace Go.Proofs.YtlfeobdfgmlmpaaGreatDoor
open Go.Ev Go.ChangeShapes Go.WideShapes Go.RowKit
set_option linter.all false
theorem own : ownKnob Tryz.prog.godebug = none := by kernel_rfl
theorem laidOut : laidOutB Tryz.prog = true := by kernel_rfl
theorem ints_of_array {H : Type} {enc : TypeId × Value → H} {P : Program} {w : World} {base : Nat} {sp : Nat → Bool} {held : Bool} {fuel : Nat} {t e : TypeId} {n : Nat} {k : IntKind} {cs : List Value} {zs : List Int} {p : List MemPlace}
    (ht : P.underlying t = some (.array n e)) (he : P.underlying e = some (.int k)) (hc : P.cellsOf e = 1) (h : DataW.trod enc P w base sp held fuel t cs = some (.agg (zs.map fun z => .lit (.int k z)), p)) (i : Nat) (z : Int) (hz : zs[i]? = some z) : cs[i]? = some (.int k z) := by
  obtain ⟨xs, m, rfl, hx, hl, hxl, hall⟩ := DataW.trod_array ht h
  have hxs : xs.map (·.1) = zs.map fun z => (DataW.lit (.int k z) : DataW H) := by
    have := congrArg Prod.fst hx
    simpa using this.symm
  have hzl : zs.length = n := by
    have := congrArg List.length hxs
    simp at this
    omega
  have hi : i < n := by
    have := (List.getElem?_eq_some_iff.1 hz).1
    omega
  have h1 := hall i hi
  obtain ⟨b, hb⟩ : ∃ b, xs[i]? = some b := ⟨xs[i]'(by omega), List.getElem?_eq_getElem (by omega)⟩
  rw [hb, hc, Nat.mul_one] at h1
  obtain ⟨y, hcz, hy, _⟩ := DataW.trod_int he h1
  have h2 : cs[i]? = some (.int k y) := by
    have := congrArg (·[0]?) hcz
    simpa [List.getElem?_take, List.getElem?_drop] using this
  have h3 : (xs.map (·.1))[i]? = some (DataW.lit (.int k z) : DataW H) := by rw [hxs]; simp [hz]
  rw [h2]
  have h4 : (xs.map (·.1))[i]? = some b.1 := by simp [hb]
  rw [h4] at h3
  have h5 := Option.some.inj h3
  obtain ⟨b1, b2⟩ := b
  simp only [Prod.mk.injEq] at hy
  have h6 : (DataW.lit (Lit.int k y) : DataW H) = DataW.lit (Lit.int k z) := hy.1.symm.trans h5
  simp only [DataW.lit.injEq, Lit.int.injEq, true_and] at h6
  rw [h6]
def laidL : List (String × DataW Unit) := [("math/bits.deBruijn32tab", Rows.laid_math_bits_deBruijn32tab), ("math/bits.deBruijn64tab", Rows.laid_math_bits_deBruijn64tab), ("internal/strconv.uint64pow10", Rows.laid_internal_strconv_uint64pow10)]
/-- What the rows say of package variables. -/
def Xt (w : World) : Prop := laidMet Tryz.prog laidL w
theorem Xt.tz {w : World} (h : Xt w) : Ld.Wt w := by
  obtain ⟨g, t, cs, fuel, p, hg, ht, hvar, hd⟩ := Lib.laidMet.reads h (n := "math/bits.deBruijn64tab") (d := Rows.laid_math_bits_deBruijn64tab) (by simp [laidL])
  obtain rfl : g = 1 := Option.some.inj (hg.symm.trans (show Tryz.prog.globalNamed "math/bits.deBruijn64tab" = some 1 by kernel_rfl))
  obtain rfl : t = 172 := Option.some.inj (ht.symm.trans (show (Tryz.prog.globals[1]?).map (·.type) = some 172 by kernel_rfl))
  have hdat : (Rows.laid_math_bits_deBruijn64tab : DataW Unit) = .agg ((Lib.deBruijn64tab.map fun (z : Nat) => (z : Int)).map fun z => .lit (.int .u8 z)) := by kernel_rfl
  rw [hdat] at hd
  have hcell : ∀ j, j < Lib.deBruijn64tab.length → w.cell? ⟨1, j, none⟩ = some (.int .u8 (Lib.deBruijn64tab.getD j 0)) := fun j hj => by
    rw [World.var?_cell hg hvar j, ← Array.getElem?_toList]
    refine ints_of_array Tryz.underlying172 (by kernel_rfl) (by kernel_rfl) hd j _ ?_
    rw [List.getElem?_map, List.getElem?_eq_getElem hj, List.getD_eq_getElem?_getD, List.getElem?_eq_getElem hj]
    rfl
  refine ⟨hcell, ?_⟩
  have h0 := hcell 0 (by decide)
  rcases Nat.lt_or_ge 1 w.heap.size with h | h
  · exact h
  · exfalso
    unfold World.cell? at h0
    rw [show w.heap[1]? = none from Array.getElem?_eq_none h] at h0
    cases h0
theorem Xt.wt {w : World} (h : Xt w) : Wd w := by
  refine ⟨?_, h.tz⟩
  obtain ⟨g, t, cs, fuel, p, hg, ht, hvar, hd⟩ := Lib.laidMet.reads h (n := "internal/strconv.uint64pow10") (d := Rows.laid_internal_strconv_uint64pow10) (by simp [laidL])
  obtain rfl : g = 2 := Option.some.inj (hg.symm.trans (show Tryz.prog.globalNamed "internal/strconv.uint64pow10" = some 2 by kernel_rfl))
  obtain rfl : t = 190 := Option.some.inj (ht.symm.trans (show (Tryz.prog.globals[2]?).map (·.type) = some 190 by kernel_rfl))
  have hdat : (Rows.laid_internal_strconv_uint64pow10 : DataW Unit) = Lib.tabData .u64 Lib.pow10Tab := by kernel_rfl
  rw [hdat] at hd
  have := Lib.cells_of_tab (k := .u64) (n := 20) (zs := Lib.pow10Tab) Tryz.underlying190 (by kernel_rfl) (by kernel_rfl) (by kernel_rfl) hd
  unfold Lib.TabIs
  rw [hvar, ← this]
noncomputable def putAt (h : Array Obj) (g : Nat) (cs : List Value) : Array Obj := h.modify g fun
  | .cells _ t frozen => .cells ⟨cs⟩ t frozen
  | o => o
/-- A start at which the tables lie. -/
noncomputable def tabWorld (os : Os) : World :=
  let w0 := World.holding Tryz.prog os ⟨#[], #[], []⟩
  { w0 with heap := putAt (putAt (putAt w0.heap 0 (Lib.deBruijn32tab.map fun (z : Nat) => Value.int .u8 z)) 1 (Lib.deBruijn64tab.map fun (z : Nat) => Value.int .u8 z)) 2 (Lib.pow10Tab.map fun (z : Int) => Value.int .u64 z) }
theorem tab_met (os : Os) (args : Array Value) : Xt ((tabWorld os).forCall (fun _ _ => 0) ⟨#[], args, []⟩).memory :=
  laidMet_of_run' 8 (by kernel_rfl) (by kernel_rfl)
/-- The same as lifted_laid; the facts on the world may need its shape. -/
theorem lifted_shape {C : Cx} {Wp : World → Prop} (hC : CxW C Wp) {K : Checked} (hP : C.P = K.prog) {f d e : Nat} {fn : Func} {s : ChangeSpec} {t4 : TypeId} {sh : List (Bool × List CK)} (own : ownKnob K.prog.godebug = none) (noInit : K.prog.inits.idxOf? f = none) (hfn : K.prog.funcs[f]? = some fn) (laid : laidOutB K.prog = true)
    (hall : (fn.params.toList.all fun t => K.prog.readableRec t && decide (t < K.prog.types.size)) = true) (hres : fn.resultTypes = #[t4]) (h4 : K.prog.underlying t4 = some .bool) (hvars : s.vars = [])
    (hs : ∀ (H : Type) (ds : List (DataW H)), ds.length = fn.params.size → s.fn H ds = { results := [.lit (.bool true)], args := ds }) (hsh : shapes K.prog d fn.params.toList = some sh)
    (hev : ∀ Ds, ArgTs sh Ds → evF C e f Ds = some [.v (.bool true)])
    {conds : List PathCond} {os : Os} (started : os.Started) {H : Type} {enc : TypeId × Value → H} {X : World → Prop} (hX : ∀ w w' : World, w.heap = w'.heap → X w → X w') (hXW : ∀ w, w.ShapedOpen K.prog → X w → Wp w)
    (wit : ∃ (w : World) (tape : Tape) (i : Input), w.os = os ∧ (w.forCall tape i).Shaped K.prog ∧ i.vars = [] ∧ Input.okWide K.prog (w.forCall tape i) .any w.heap.size f i ∧
      ((s.pre enc K.prog fn conds false (w.forCall tape i).memory i.args ∧ X (w.forCall tape i).memory) ∧ sizedMet enc K.prog fn (OpenSpec.ofChange s) false (w.forCall tape i).memory i.args) ∧ ({} : Assume).holds K.prog (lone (Frame.enter K.prog f i.args .normal) [] (w.forCall tape i))) :
    ReturnsInHanded {} K os f .any (fun w args => (s.pre enc K.prog fn conds false w args ∧ X w) ∧ sizedMet enc K.prog fn (OpenSpec.ofChange s) false w args) (s.post enc K.prog fn false true false false) := by
  refine returnsInHanded_of_calls own started noInit wit fun w tape i _ hso _ hok hpre _ => ?_
  obtain ⟨_, _, _, fn', hfn', _, _, _, _, hval⟩ := hok
  obtain rfl := Option.some.inj (hfn'.symm.trans hfn)
  obtain ⟨⟨⟨ds, gs, before, hw, _⟩, hx⟩, _⟩ := hpre
  have hx' : X (w.forCall tape i) := hX (w.forCall tape i).memory (w.forCall tape i) rfl hx
  refine (contract_true (C := C) hP laid hall hres h4 hvars hs hsh hev (hC _ (hXW _ hso hx')) hval (DataW.Whole.of_heap (w' := w.forCall tape i) (by rfl) hw)).mono fun e W' hp => ?_
  obtain ⟨v, rfl, hp⟩ := hp
  exact ChangeSpec.post_blind hp
set_option maxRecDepth 100000 in
theorem printGoods_lifted (os : Os) (started : os.Started) (H : Type) (enc : TypeId × Value → H) :
    ReturnsInHanded {} Tryz.checked os 3 .any (fun w args => (Rows.printGoodsSpec.pre enc Tryz.prog Tryz.f3 Rows.printGoodsRow.domain false w args ∧ Xt w) ∧ sizedMet enc Tryz.prog Tryz.f3 (OpenSpec.ofChange Rows.printGoodsSpec) false w args) (Rows.printGoodsSpec.post enc Tryz.prog Tryz.f3 false true false false) :=
  lifted_shape (C := CLg) (Wp := Wd) CLg_ok (K := Tryz.checked) rfl (f := 3) (d := 8) (e := 6) (fn := Tryz.f3) (t4 := 4) (sh := [(true, [.slice [.slice [.int .i64]]]), (false, [.slice [.int .i64]])]) own (by kernel_rfl) Tryz.func3 laidOut (by kernel_rfl) (by kernel_rfl) Tryz.underlying4 rfl
    (fun H ds h => by
      have h : ds.length = 2 := h
      match ds, h with
      | [d1, d2], _ => rfl)
    (by kernel_rfl)
    (fun Ds h => by
      cases h with
      | agg a h =>
      cases a with
      | cons c a =>
      cases c with
      | slice w0_0 =>
      cases a
      cases h with
      | one c h =>
      cases c with
      | slice w1_0 =>
      cases h
      exact law_goods _ _)
    started (X := Xt) (fun _ _ hh h => laidMet.of_heap hh h) (fun _ hs h => Xt.wt h)
    (ChangeSpec.witness_at (enc := enc) (C := Tryz.checked) (os := os) (X := fun w _ => Xt w) false (tabWorld os) #[.agg #[.slice none 0 0], .slice none 0 0] 8 rfl (by kernel_rfl) (by kernel_rfl) (by kernel_rfl) (by kernel_rfl) (by kernel_rfl) (tab_met os _))

theorem printGoods_over : Rows.printGoodsRow.holds Tryz.pinned (OpenSpec.ofChange Rows.printGoodsSpec) :=
  OpenClaim.holds_of_wide 3 Tryz.f3 rfl rfl rfl rfl rfl rfl rfl ⟨rfl, rfl, rfl, rfl, rfl⟩ rfl rfl rfl rfl rfl (by kernel_rfl) Tryz.func3 (by kernel_rfl)
    (of_decide_eq_true (by kernel_rfl)) (by unfold Func.isWrapper; first | (rw [if_pos (by decide +kernel)]; kernel_rfl) | (rw [if_neg (by decide +kernel)]; exact ⟨rfl, rfl⟩))
    (fun os started H enc _ => printGoods_lifted os started H enc)

theorem printGoods_card : Rows.PrintGoodsCardSaid :=
  Claim7.holds_tied_plain_at .later [] [.data, .data, .data] true (true, "5c68a7f53a3529523a6a6790695b0443bdca33c192181b8f5a6ca0dde643f2d2") false
    printGoods_over (fun _ h => by cases h) (by kernel_rfl) (fun _ h => by cases h) printGoods_row_tie rfl ⟨rfl, rfl⟩ (by kernel_rfl) rfl
    (fun f fn hf hfn => by
      obtain rfl : f = 3 := Option.some.inj ((show Tryz.prog.funcNamed Rows.printGoodsRow.func = some 3 by kernel_rfl).symm.trans hf) |>.symm
      obtain rfl : fn = Tryz.f3 := (Option.some.inj (Tryz.func3.symm.trans hfn)).symm
      refine ⟨by kernel_rfl, fun j t ht => ?_⟩
      have hall : (Tryz.f3.params.toList.all fun t => !Tryz.prog.wantsStandIn t) = true := by kernel_rfl
      have hm : t ∈ Tryz.f3.params.toList := List.mem_of_getElem? (by rw [Array.getElem?_toList]; exact ht)
      have hq : Tryz.prog.wantsStandIn t = false := by simpa using List.all_eq_true.1 hall t hm
      exact hq)
    (by kernel_rfl)
#print axioms printGoods_card
end Go.Proofs.YtlfeobdfgmlmpaaGreatDoor

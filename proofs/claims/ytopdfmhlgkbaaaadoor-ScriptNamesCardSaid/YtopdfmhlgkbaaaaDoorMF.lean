/- Texts T29 in one. No conditions. -/
import Derived.Test.YtopdfmhlgkbaaaaDoorTie
import Derived.Test.YtopdfmhlgkbaaaaDoorCards
import Derived.Lib.LaidU8
import Derived.Lib.LaidTab
import Derived.Shelf.Spec.TrailingZeros
import Derived.LaidLaws
import Derived.Handed
import Derived.Test.YtopdfmhlgkbaaaaDoorMD
/- What the rows say of package variables, and a start that bears it. No conditions. -/
namespace Go.Proofs.YtopdfmhlgkbaaaaDoor
open Go.Ev Go.ChangeShapes Go.WideShapes Go.RowKit
set_option linter.all false
theorem own : ownKnob Tryd.prog.godebug = none := by kernel_rfl
theorem laidOut : laidOutB Tryd.prog = true := by kernel_rfl
def laidL : List (String × DataW Unit) := [("math/bits.deBruijn32tab", Rows.laid_math_bits_deBruijn32tab), ("math/bits.deBruijn64tab", Rows.laid_math_bits_deBruijn64tab), ("internal/strconv.uint64pow10", Rows.laid_internal_strconv_uint64pow10), ("unicode/utf8.acceptRanges", Rows.laid_unicode_utf8_acceptRanges), ("strconv.ErrRange", Rows.laid_strconv_ErrRange), ("strconv.ErrSyntax", Rows.laid_strconv_ErrSyntax), ("unicode/utf8.first", Rows.laid_unicode_utf8_first)]
def Xt (w : World) : Prop := laidMet Tryd.prog laidL w
set_option maxRecDepth 100000 in
theorem laid_iface {w : World} {n nm : String} {d : DataW Unit} {g t : Nat} {ms : Array (String × TypeId)} (h : Lib.VarReads Tryd.prog w n (.iface nm d)) (hg : Tryd.prog.globalNamed n = some g) (ht : (Tryd.prog.globals[g]?).map (·.type) = some t) (hi : Tryd.prog.underlying t = some (.interface ms)) :
    ∃ te pe, w.cell? ⟨g, 0, none⟩ = some (.iface te pe) := by
  obtain ⟨g', t', ⟨l⟩, fuel, p, hg', ht', hvar, hd⟩ := h
  obtain rfl := Option.some.inj (hg.symm.trans hg')
  obtain rfl := Option.some.inj (ht.symm.trans ht')
  cases fuel with
  | zero => simp [DataW.trod] at hd
  | succ fuel =>
    unfold DataW.trod at hd
    rw [hi] at hd
    cases l with
    | nil => simp at hd
    | cons x r =>
      cases r with
      | cons y r => cases x <;> simp at hd
      | nil =>
        cases x with
        | iface u v => exact ⟨u, v, by rw [World.var?_cell hg hvar 0]; rfl⟩
        | _ => simp at hd
theorem Xt.wt {w : World} (hs : w.ShapedOpen Tryd.prog) (h : Xt w) : Wd w := by
  refine ⟨?_, Go.Proofs.cell_of_shapedOpen_int (zero := #[.int .i64 0]) (t := 3) hs (of_decide_eq_true (by kernel_rfl)) (by kernel_rfl) rfl (by kernel_rfl) (by kernel_rfl) Tryd.underlying3, ?_, ?_⟩
  · obtain ⟨g, t, cs, fuel, p, hg, ht, hvar, hd⟩ := Lib.laidMet.reads h (n := "internal/strconv.uint64pow10") (d := Rows.laid_internal_strconv_uint64pow10) (by simp [laidL])
    obtain rfl : g = 3 := Option.some.inj (hg.symm.trans (show Tryd.prog.globalNamed "internal/strconv.uint64pow10" = some 3 by kernel_rfl))
    obtain rfl : t = 133 := Option.some.inj (ht.symm.trans (show (Tryd.prog.globals[3]?).map (·.type) = some 133 by kernel_rfl))
    have hdat : (Rows.laid_internal_strconv_uint64pow10 : DataW Unit) = Lib.tabData .u64 Lib.pow10Tab := by kernel_rfl
    rw [hdat] at hd
    have := Lib.cells_of_tab (k := .u64) (n := 20) (e := 114) (zs := Lib.pow10Tab) Tryd.underlying133 (by kernel_rfl) (by kernel_rfl) (by kernel_rfl) hd
    unfold Lib.TabIs
    rw [hvar, ← this]
  · exact laid_iface (Lib.laidMet.reads h (n := "strconv.ErrSyntax") (d := Rows.laid_strconv_ErrSyntax) (by simp [laidL])) (g := 1) (t := 60) (by kernel_rfl) (by kernel_rfl) Tryd.underlying60
  · exact laid_iface (Lib.laidMet.reads h (n := "strconv.ErrRange") (d := Rows.laid_strconv_ErrRange) (by simp [laidL])) (g := 2) (t := 60) (by kernel_rfl) (by kernel_rfl) Tryd.underlying60
/-- How many blocks lie before those of a start's own. -/
noncomputable def low : Nat := (World.holding Tryd.prog default ⟨#[], #[], []⟩).heap.size
def rngS : List UInt8 := [118, 97, 108, 117, 101, 32, 111, 117, 116, 32, 111, 102, 32, 114, 97, 110, 103, 101]
def synS : List UInt8 := [105, 110, 118, 97, 108, 105, 100, 32, 115, 121, 110, 116, 97, 120]
def accZ : List Nat := [128, 191, 160, 191, 128, 159, 144, 191, 128, 143] ++ List.replicate 22 0
noncomputable def putAt (h : Array Obj) (g : Nat) (cs : List Value) : Array Obj := h.modify g fun
  | .cells _ t frozen => .cells ⟨cs⟩ t frozen
  | o => o
/-- A start at which the tables and the errors lie. -/
noncomputable def tabWorld (os : Os) : World :=
  let w0 := World.holding Tryd.prog os ⟨#[.cells #[str rngS] 139, .cells #[str synS] 139], #[], []⟩
  { w0 with heap := putAt (putAt (putAt (putAt (putAt (putAt (putAt w0.heap 6 (Lib.deBruijn32tab.map fun (z : Nat) => Value.int .u8 z)) 7 (Lib.deBruijn64tab.map fun (z : Nat) => Value.int .u8 z)) 3 (Lib.pow10Tab.map fun (z : Int) => Value.int .u64 z)) 2 [.iface 137 (.pointer (some ⟨low, 0, none⟩))]) 1 [.iface 137 (.pointer (some ⟨low + 1, 0, none⟩))]) 4 (Go.Pinned.utf8FirstZ.map fun (z : Nat) => Value.int .u8 z)) 5 (accZ.map fun (z : Nat) => Value.int .u8 z) }
theorem tab_met (os : Os) (args : Array Value) : Xt ((tabWorld os).forCall (fun _ _ => 0) ⟨#[], args, []⟩).memory :=
  laidMet_of_run' 8 (by kernel_rfl) (by kernel_rfl)
/-- The same as lifted_laid; the facts on the world may need its shape. -/
theorem lifted_shape {C : Cx} {Wp : World → Prop} (hC : CxW C Wp) {K : Checked} (hP : C.P = K.prog) {f d e : Nat} {fn : Func} {s : ChangeSpec} {t4 : TypeId} {sh : List (Bool × List CK)} (own : ownKnob K.prog.godebug = none) (noInit : K.prog.inits.idxOf? f = none) (hfn : K.prog.funcs[f]? = some fn) (laid : laidOutB K.prog = true)
    (hall : (fn.params.toList.all fun t => K.prog.readableRec t && decide (t < K.prog.types.size)) = true) (hres : fn.resultTypes = #[t4]) (h4 : K.prog.underlying t4 = some .bool) (hvars : s.vars = [])
    (hs : ∀ (H : Type) (ds : List (DataW H)), ds.length = fn.params.size → s.fn H ds = { results := [.lit (.bool true)], args := ds }) (hsh : shapes K.prog d fn.params.toList = some sh)
    (hev : ∀ Ds, ArgTs sh Ds → evF C e f Ds = some [.v (.bool true)])
    {conds : List PathCond} {os : Os} (started : os.Started) {H : Type} {enc : TypeId × Value → H} {X : World → Prop} (hX : ∀ w w' : World, w.heap = w'.heap → X w → X w') (hXW : ∀ w, w.ShapedOpen K.prog → X w → Wp w)
    (wit : ∃ (w : World) (tape : Tape) (i : Input), w.os = os ∧ (w.forCall tape i).Shaped K.prog ∧ i.vars = [] ∧ Input.okWide K.prog (w.forCall tape i) .any w.heap.size f i ∧
      ((s.pre enc K.prog fn conds false (w.forCall tape i).memory i.args ∧ X (w.forCall tape i).memory) ∧ sizedMet enc K.prog fn (OpenSpec.ofChange s) false (w.forCall tape i).memory i.args) ∧ ({} : Assume).holds K.prog (lone (Frame.enter K.prog f i.args .normal) [] (w.forCall tape i))) :
    ReturnsInHanded {} K os f .any (fun w args => (s.pre enc K.prog fn conds false w args ∧ X w) ∧ sizedMet enc K.prog fn (OpenSpec.ofChange s) false w args) (s.post enc K.prog fn false true false false) := by
  refine returnsInHanded_of_calls own started noInit wit fun w tape i _ hso _ hok hpre _ => ?_
  obtain ⟨_, _, _, fn', hfn', _, _, _, _, hval⟩ := hok
  obtain rfl := Option.some.inj (hfn'.symm.trans hfn)
  obtain ⟨⟨⟨ds, gs, before, hw, _⟩, hx⟩, _⟩ := hpre
  have hx' : X (w.forCall tape i) := hX (w.forCall tape i).memory (w.forCall tape i) rfl hx
  refine (contract_true (C := C) hP laid hall hres h4 hvars hs hsh hev (hC _ (hXW _ hso hx')) hval (DataW.Whole.of_heap (w' := w.forCall tape i) (by rfl) hw)).mono fun e W' hp => ?_
  obtain ⟨v, rfl, hp⟩ := hp
  exact ChangeSpec.post_blind hp
end Go.Proofs.YtopdfmhlgkbaaaaDoor

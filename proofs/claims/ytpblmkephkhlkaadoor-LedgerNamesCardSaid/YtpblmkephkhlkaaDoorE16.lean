/- The table of math/bits, from what the rows list; a start that bears it. No conditions. -/
import Derived.Test.YtpblmkephkhlkaaDoorE2
import Derived.Test.YtpblmkephkhlkaaDoorTie
import Derived.Test.YtpblmkephkhlkaaDoorCards
import Derived.Lib.LaidU8
import Derived.LaidLaws
import Derived.Handed
namespace Go.Proofs.YtpblmkephkhlkaaDoor
open Go.Ev Go.ChangeShapes Go.WideShapes Go.RowKit
set_option linter.all false
theorem own : ownKnob Tryd.prog.godebug = none := by kernel_rfl
theorem laidOut : laidOutB Tryd.prog = true := by kernel_rfl
theorem ints_of_array {H : Type} {enc : TypeId × Value → H} {P : Program} {w : World} {base : Nat} {sp : Nat → Bool} {held : Bool} {fuel : Nat} {t e : TypeId} {n : Nat} {k : IntKind} {cs : List Value} {zs : List Int} {p : List MemPlace}
    (ht : P.underlying t = some (.array n e)) (he : P.underlying e = some (.int k)) (hc : P.cellsOf e = 1) (h : DataW.trod enc P w base sp held fuel t cs = some (.agg (zs.map fun z => .lit (.int k z)), p)) (i : Nat) (z : Int) (hz : zs[i]? = some z) : cs[i]? = some (.int k z) := by
  obtain ⟨xs, m, rfl, hx, hl, hxl, hall⟩ := DataW.trod_array ht h
  have hxs : xs.map (·.1) = zs.map fun z => (DataW.lit (.int k z) : DataW H) := by
    have := congrArg Prod.fst hx
    simpa using this.symm
  have hzl : zs.length = n := by
    have := congrArg List.length hxs
    simp at this
    omega
  have hi : i < n := by
    have := (List.getElem?_eq_some_iff.1 hz).1
    omega
  have h1 := hall i hi
  obtain ⟨b, hb⟩ : ∃ b, xs[i]? = some b := ⟨xs[i]'(by omega), List.getElem?_eq_getElem (by omega)⟩
  rw [hb, hc, Nat.mul_one] at h1
  obtain ⟨y, hcz, hy, _⟩ := DataW.trod_int he h1
  have h2 : cs[i]? = some (.int k y) := by
    have := congrArg (·[0]?) hcz
    simpa [List.getElem?_take, List.getElem?_drop] using this
  have h3 : (xs.map (·.1))[i]? = some (DataW.lit (.int k z) : DataW H) := by rw [hxs]; simp [hz]
  rw [h2]
  have h4 : (xs.map (·.1))[i]? = some b.1 := by simp [hb]
  rw [h4] at h3
  have h5 := Option.some.inj h3
  obtain ⟨b1, b2⟩ := b
  simp only [Prod.mk.injEq] at hy
  have h6 : (DataW.lit (Lit.int k y) : DataW H) = DataW.lit (Lit.int k z) := hy.1.symm.trans h5
  simp only [DataW.lit.injEq, Lit.int.injEq, true_and] at h6
  rw [h6]
def laidL : List (String × DataW Unit) := [("math/bits.deBruijn32tab", Rows.laid_math_bits_deBruijn32tab), ("math/bits.deBruijn64tab", Rows.laid_math_bits_deBruijn64tab)]
/-- What the rows say of package variables. -/
def Xt (w : World) : Prop := laidMet Tryd.prog laidL w
theorem Xt.wt {w : World} (h : Xt w) : Wt w := by
  obtain ⟨g, t, cs, fuel, p, hg, ht, hvar, hd⟩ := Lib.laidMet.reads h (n := "math/bits.deBruijn64tab") (d := Rows.laid_math_bits_deBruijn64tab) (by simp [laidL])
  obtain rfl : g = 1 := Option.some.inj (hg.symm.trans (show Tryd.prog.globalNamed "math/bits.deBruijn64tab" = some 1 by kernel_rfl))
  obtain rfl : t = 70 := Option.some.inj (ht.symm.trans (show (Tryd.prog.globals[1]?).map (·.type) = some 70 by kernel_rfl))
  have hdat : (Rows.laid_math_bits_deBruijn64tab : DataW Unit) = .agg ((Lib.deBruijn64tab.map fun (z : Nat) => (z : Int)).map fun z => .lit (.int .u8 z)) := by kernel_rfl
  rw [hdat] at hd
  have hcell : ∀ j, j < Lib.deBruijn64tab.length → w.cell? ⟨1, j, none⟩ = some (.int .u8 (Lib.deBruijn64tab.getD j 0)) := fun j hj => by
    rw [World.var?_cell hg hvar j, ← Array.getElem?_toList]
    refine ints_of_array Tryd.underlying70 Tryd.underlying5 (by kernel_rfl) hd j _ ?_
    rw [List.getElem?_map, List.getElem?_eq_getElem hj, List.getD_eq_getElem?_getD, List.getElem?_eq_getElem hj]
    rfl
  refine ⟨hcell, ?_⟩
  have h0 := hcell 0 (by decide)
  rcases Nat.lt_or_ge 1 w.heap.size with h | h
  · exact h
  · exfalso
    unfold World.cell? at h0
    rw [show w.heap[1]? = none from Array.getElem?_eq_none h] at h0
    cases h0
/-- A start at which the tables lie. -/
noncomputable def tabWorld (os : Os) : World :=
  let w0 := World.holding Tryd.prog os ⟨#[], #[], []⟩
  { w0 with heap := (w0.heap.modify 0 fun
      | .cells _ t frozen => .cells ⟨Lib.deBruijn32tab.map fun (z : Nat) => Value.int .u8 z⟩ t frozen
      | o => o).modify 1 fun
      | .cells _ t frozen => .cells ⟨Lib.deBruijn64tab.map fun (z : Nat) => Value.int .u8 z⟩ t frozen
      | o => o }
theorem tab_met (os : Os) (args : Array Value) : Xt ((tabWorld os).forCall (fun _ _ => 0) ⟨#[], args, []⟩).memory :=
  laidMet_of_run' 8 (by kernel_rfl) (by kernel_rfl)
end Go.Proofs.YtpblmkephkhlkaaDoor

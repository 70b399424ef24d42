/- Texts E16 E76 in one. No conditions. -/
import Derived.Test.YtpblmkephkhlkaaDoorTie
import Derived.Test.YtpblmkephkhlkaaDoorCards
import Derived.Lib.LaidU8
import Derived.LaidLaws
import Derived.Handed
import Derived.Test.YtpblmkephkhlkaaDoorLC
/- The table of math/bits, from what the rows list; a start that bears it. No conditions. -/
namespace Go.Proofs.YtpblmkephkhlkaaDoor
open Go.Ev Go.ChangeShapes Go.WideShapes Go.RowKit
set_option linter.all false
theorem own : ownKnob Tryd.prog.godebug = none := by kernel_rfl
theorem laidOut : laidOutB Tryd.prog = true := by kernel_rfl
theorem ints_of_array {H : Type} {enc : TypeId × Value → H} {P : Program} {w : World} {base : Nat} {sp : Nat → Bool} {held : Bool} {fuel : Nat} {t e : TypeId} {n : Nat} {k : IntKind} {cs : List Value} {zs : List Int} {p : List MemPlace}
    (ht : P.underlying t = some (.array n e)) (he : P.underlying e = some (.int k)) (hc : P.cellsOf e = 1) (h : DataW.trod enc P w base sp held fuel t cs = some (.agg (zs.map fun z => .lit (.int k z)), p)) (i : Nat) (z : Int) (hz : zs[i]? = some z) : cs[i]? = some (.int k z) := by
  obtain ⟨xs, m, rfl, hx, hl, hxl, hall⟩ := DataW.trod_array ht h
  have hxs : xs.map (·.1) = zs.map fun z => (DataW.lit (.int k z) : DataW H) := by
    have := congrArg Prod.fst hx
    simpa using this.symm
  have hzl : zs.length = n := by
    have := congrArg List.length hxs
    simp at this
    omega
  have hi : i < n := by
    have := (List.getElem?_eq_some_iff.1 hz).1
    omega
  have h1 := hall i hi
  obtain ⟨b, hb⟩ : ∃ b, xs[i]? = some b := ⟨xs[i]'(by omega), List.getElem?_eq_getElem (by omega)⟩
  rw [hb, hc, Nat.mul_one] at h1
  obtain ⟨y, hcz, hy, _⟩ := DataW.trod_int he h1
  have h2 : cs[i]? = some (.int k y) := by
    have := congrArg (·[0]?) hcz
    simpa [List.getElem?_take, List.getElem?_drop] using this
  have h3 : (xs.map (·.1))[i]? = some (DataW.lit (.int k z) : DataW H) := by rw [hxs]; simp [hz]
  rw [h2]
  have h4 : (xs.map (·.1))[i]? = some b.1 := by simp [hb]
  rw [h4] at h3
  have h5 := Option.some.inj h3
  obtain ⟨b1, b2⟩ := b
  simp only [Prod.mk.injEq] at hy
  have h6 : (DataW.lit (Lit.int k y) : DataW H) = DataW.lit (Lit.int k z) := hy.1.symm.trans h5
  simp only [DataW.lit.injEq, Lit.int.injEq, true_and] at h6
  rw [h6]
def laidL : List (String × DataW Unit) := [("math/bits.deBruijn32tab", Rows.laid_math_bits_deBruijn32tab), ("math/bits.deBruijn64tab", Rows.laid_math_bits_deBruijn64tab)]
/-- What the rows say of package variables. -/
def Xt (w : World) : Prop := laidMet Tryd.prog laidL w
theorem Xt.wt {w : World} (h : Xt w) : Wt w := by
  obtain ⟨g, t, cs, fuel, p, hg, ht, hvar, hd⟩ := Lib.laidMet.reads h (n := "math/bits.deBruijn64tab") (d := Rows.laid_math_bits_deBruijn64tab) (by simp [laidL])
  obtain rfl : g = 1 := Option.some.inj (hg.symm.trans (show Tryd.prog.globalNamed "math/bits.deBruijn64tab" = some 1 by kernel_rfl))
  obtain rfl : t = 70 := Option.some.inj (ht.symm.trans (show (Tryd.prog.globals[1]?).map (·.type) = some 70 by kernel_rfl))
  have hdat : (Rows.laid_math_bits_deBruijn64tab : DataW Unit) = .agg ((Lib.deBruijn64tab.map fun (z : Nat) => (z : Int)).map fun z => .lit (.int .u8 z)) := by kernel_rfl
  rw [hdat] at hd
  have hcell : ∀ j, j < Lib.deBruijn64tab.length → w.cell? ⟨1, j, none⟩ = some (.int .u8 (Lib.deBruijn64tab.getD j 0)) := fun j hj => by
    rw [World.var?_cell hg hvar j, ← Array.getElem?_toList]
    refine ints_of_array Tryd.underlying70 Tryd.underlying5 (by kernel_rfl) hd j _ ?_
    rw [List.getElem?_map, List.getElem?_eq_getElem hj, List.getD_eq_getElem?_getD, List.getElem?_eq_getElem hj]
    rfl
  refine ⟨hcell, ?_⟩
  have h0 := hcell 0 (by decide)
  rcases Nat.lt_or_ge 1 w.heap.size with h | h
  · exact h
  · exfalso
    unfold World.cell? at h0
    rw [show w.heap[1]? = none from Array.getElem?_eq_none h] at h0
    cases h0
/-- A start at which the tables lie. -/
noncomputable def tabWorld (os : Os) : World :=
  let w0 := World.holding Tryd.prog os ⟨#[], #[], []⟩
  { w0 with heap := (w0.heap.modify 0 fun
      | .cells _ t frozen => .cells ⟨Lib.deBruijn32tab.map fun (z : Nat) => Value.int .u8 z⟩ t frozen
      | o => o).modify 1 fun
      | .cells _ t frozen => .cells ⟨Lib.deBruijn64tab.map fun (z : Nat) => Value.int .u8 z⟩ t frozen
      | o => o }
theorem tab_met (os : Os) (args : Array Value) : Xt ((tabWorld os).forCall (fun _ _ => 0) ⟨#[], args, []⟩).memory :=
  laidMet_of_run' 8 (by kernel_rfl) (by kernel_rfl)
end Go.Proofs.YtpblmkephkhlkaaDoor
/- LedgerSettles: whatever balances come in, the law's function gives true; the tied card. No conditions. -/
namespace Go.Proofs.YtpblmkephkhlkaaDoor
open Go.Ev Go.ChangeShapes Go.WideShapes Go.RowKit
set_option linter.all false
set_option maxRecDepth 100000 in
theorem ledgerSettles_lifted (os : Os) (started : os.Started) (H : Type) (enc : TypeId × Value → H) :
    ReturnsInHanded {} Tryd.checked os 3 .any (fun w args => (Rows.ledgerSettlesSpec.pre enc Tryd.prog Tryd.f3 Rows.ledgerSettlesRow.domain false w args ∧ Xt w) ∧ sizedMet enc Tryd.prog Tryd.f3 (OpenSpec.ofChange Rows.ledgerSettlesSpec) false w args) (Rows.ledgerSettlesSpec.post enc Tryd.prog Tryd.f3 false true false false) :=
  lifted_laid (C := Eq7.CL gpC Eq7.hT Se.stC Rf.rsC gpR Rf.rgR Se.stR Rf.rsR Eq7.mB Lg.same Eq7.pB Rf.sameP) (Wp := Wt) Eq7.CLr_ok (K := Tryd.checked) rfl (f := 3) (d := 5) (e := 6) (fn := Tryd.f3) (t4 := 4) (sh := [(false, [.slice ks1])]) own (by kernel_rfl) Tryd.func3 laidOut (by kernel_rfl) (by kernel_rfl) Tryd.underlying4 rfl
    (fun H ds h => by
      have h : ds.length = 1 := h
      match ds, h with
      | [d1], _ => rfl)
    (by kernel_rfl)
    (fun Ds h => by
      cases h with
      | one c h =>
      cases c with
      | slice w1_0 =>
      cases h
      exact Eq7.law_settles _)
    started (X := Xt) (fun _ _ hh h => laidMet.of_heap hh h) (fun _ h => h.wt)
    (ChangeSpec.witness_at (enc := enc) (C := Tryd.checked) (os := os) (X := fun w _ => Xt w) false (tabWorld os) #[.slice none 0 0] 8 rfl (by kernel_rfl) (by kernel_rfl) (by kernel_rfl) (by kernel_rfl) (by kernel_rfl) (tab_met os _))

theorem ledgerSettles_over : Rows.ledgerSettlesRow.holds Tryd.pinned (OpenSpec.ofChange Rows.ledgerSettlesSpec) :=
  OpenClaim.holds_of_wide 3 Tryd.f3 rfl rfl rfl rfl rfl rfl rfl ⟨rfl, rfl, rfl, rfl, rfl⟩ rfl rfl rfl rfl rfl (by kernel_rfl) Tryd.func3 (by kernel_rfl)
    (of_decide_eq_true (by kernel_rfl)) (by unfold Func.isWrapper; first | (rw [if_pos (by decide +kernel)]; kernel_rfl) | (rw [if_neg (by decide +kernel)]; exact ⟨rfl, rfl⟩))
    (fun os started H enc _ => ledgerSettles_lifted os started H enc)

theorem ledgerSettles_card : Rows.LedgerSettlesCardSaid :=
  Claim7.holds_tied_plain_at .later [] [.data, .data] true (true, "c574c69ac59fb3124327a303ca252de68517c022ba0d0c9022e11bf7ae4326c0") false
    ledgerSettles_over (fun _ h => by cases h) (by kernel_rfl) (fun _ h => by cases h) ledgerSettles_row_tie rfl ⟨rfl, rfl⟩ (by kernel_rfl) rfl
    (fun f fn hf hfn => by
      obtain rfl : f = 3 := Option.some.inj ((show Tryd.prog.funcNamed Rows.ledgerSettlesRow.func = some 3 by kernel_rfl).symm.trans hf) |>.symm
      obtain rfl : fn = Tryd.f3 := (Option.some.inj (Tryd.func3.symm.trans hfn)).symm
      refine ⟨by kernel_rfl, fun j t ht => ?_⟩
      have hall : (Tryd.f3.params.toList.all fun t => !Tryd.prog.wantsStandIn t) = true := by kernel_rfl
      have hm : t ∈ Tryd.f3.params.toList := List.mem_of_getElem? (by rw [Array.getElem?_toList]; exact ht)
      have hq : Tryd.prog.wantsStandIn t = false := by simpa using List.all_eq_true.1 hall t hm
      exact hq)
    (by kernel_rfl)
end Go.Proofs.YtpblmkephkhlkaaDoor

/- Texts B1 B2 B3 B4 B5 B6 in one. No conditions. -/
import Derived.Shelf.LaysM
import Derived.Shelf.Strconv.Itoa4
import Derived.Shelf.Strings.OnBuilder
import Derived.Shelf.Strings.BuilderK
import Derived.Shelf.Strings.MapGrows
import Derived.Lib.AtoiErrMem
import Derived.Lib.ItoaMem
import Derived.WalkKit
import Derived.BigCall
import Derived.Deep.QuietTactic
import Derived.Test.YtlfeobdfgmlmpaaGreatDoorPK
/- Functions of the library by their contracts: Itoa, Builder. No conditions. -/
namespace Go.Proofs
open Go.Shelf
def Tryz.lays170_ren : Go.Shelf.Ren := ⟨fun | 170 => 60 | n => n, fun | 70 => 123 | 3 => 3 | 0 => 0 | 72 => 125 | 37 => 80 | 5 => 5 | n => n, fun | n => n⟩
theorem Tryz.lays170 : Go.Proofs.Lays.n170 Tryz.prog Tryz.lays170_ren := {
  mixed := by kernel_rfl
  f170 := Tryz.func60.trans (congrArg some (by kernel_rfl))
  t0 := Tryz.underlying0
  a0 := Tryz.isAgg0
  z0 := Tryz.sizeOf0
  v0 := Tryz.zeroValue0
  t3 := Tryz.underlying3
  a3 := Tryz.isAgg3
  z3 := Tryz.sizeOf3
  v3 := Tryz.zeroValue3
  t37 := Tryz.underlying80
  a37 := Tryz.isAgg80
  z37 := Tryz.sizeOf80
  v37 := Tryz.zeroValue80
  t70 := Tryz.underlying123
  a70 := Tryz.isAgg123
  z70 := Tryz.sizeOf123
  v70 := Tryz.zeroValue123
  t72 := Tryz.underlying125
  a72 := Tryz.isAgg125
  z72 := Tryz.sizeOf125
  v72 := Tryz.zeroValue125 }
def Tryz.lays169_ren : Go.Shelf.Ren := ⟨fun | 169 => 61 | n => n, fun | 70 => 123 | 9 => 9 | 0 => 0 | 72 => 125 | 37 => 80 | 127 => 150 | 3 => 3 | 5 => 5 | n => n, fun | n => n⟩
theorem Tryz.lays169 : Go.Proofs.Lays.n169 Tryz.prog Tryz.lays169_ren := {
  mixed := by kernel_rfl
  f169 := Tryz.func61.trans (congrArg some (by kernel_rfl))
  t0 := Tryz.underlying0
  a0 := Tryz.isAgg0
  z0 := Tryz.sizeOf0
  v0 := Tryz.zeroValue0
  t3 := Tryz.underlying3
  a3 := Tryz.isAgg3
  z3 := Tryz.sizeOf3
  v3 := Tryz.zeroValue3
  t9 := Tryz.underlying9
  a9 := Tryz.isAgg9
  z9 := Tryz.sizeOf9
  v9 := Tryz.zeroValue9
  t37 := Tryz.underlying80
  a37 := Tryz.isAgg80
  z37 := Tryz.sizeOf80
  v37 := Tryz.zeroValue80
  t70 := Tryz.underlying123
  a70 := Tryz.isAgg123
  z70 := Tryz.sizeOf123
  v70 := Tryz.zeroValue123
  t72 := Tryz.underlying125
  a72 := Tryz.isAgg125
  z72 := Tryz.sizeOf125
  v72 := Tryz.zeroValue125
  t127 := Tryz.underlying150
  a127 := Tryz.isAgg150
  z127 := Tryz.sizeOf150
  v127 := Tryz.zeroValue150 }
theorem Tryz.Builder_Extra_169 : Builder.Extra Tryz.prog Tryz.lays169_ren := {
  sizeBuilder := by kernel_rfl
  liesBuilder := by kernel_rfl
  t5 := Tryz.underlying5
  a5 := Tryz.isAgg5
  z5 := Tryz.sizeOf5
  v5 := Tryz.zeroValue5
  infoByte := by kernel_rfl
  cellsByte := by kernel_rfl
  sizeByte := by kernel_rfl
  neB5 := by decide }
open Go.RowKit in
/-- (*strings.Builder).Len: "Len returns the number of accumulated bytes; b.Len() == len(b.String()).": the world is as it was. (THE FORM '_f': 'Lib.IsBuilderF'.) (LAID: no walk: one application.) -/
theorem Tryz.Builder_Len_f (B b : Nat) (bs : List Value) (w : World) (h : Lib.IsBuilderF 125 5 B b bs w) :
    Calls Tryz.prog 60 #[.pointer (some ⟨b, 0, none⟩)] w fun e w' => e = .returned (.int .i64 bs.length) ∧ w' = w := Any.Builder_Len_f Tryz.lays170 B b bs w h
open Go.RowKit in
/-- (*strings.Builder).String: "String returns the accumulated string.": WHATEVER THE BUILDER HOLDS; THE FORM '_k': OVER 'Lib.IsBuilderF' (a builder that 'String()' may have read), AND WITH THE FRAME THAT REACHES ABOVE THE BUILDER: 'Lib.OthersKept': every block that is not b and is no row of uint8's stands as it stood: the iterator of a range among them. (LAID: no walk: one application.) -/
theorem Tryz.Builder_String_any_k (B b : Nat) (l : List UInt8) (w : World) (h : Lib.IsBuilderF 125 5 B b (Lib.byteCells l) w) (hBw : B ≤ w.heap.size) :
    Calls Tryz.prog 61 #[.pointer (some ⟨b, 0, none⟩)] w fun e w' => e = .returned (.string ⟨l.toArray⟩) ∧ (Lib.IsBuilderF 125 5 B b (Lib.byteCells l) w' ∧ Below B w w' ∧ Lib.OthersKept 5 (some b) w w') := Any.Builder_String_any_k Tryz.lays169 Tryz.Builder_Extra_169 B b l w h hBw
def Tryz.laysM171_ren : Go.Shelf.Ren := ⟨fun | 171 => 74 | 243 => 89 | 246 => 97 | 283 => 101 | 284 => 102 | 285 => 103 | 286 => 104 | 129 => 115 | 317 => 116 | 318 => 117 | 319 => 118 | 320 => 71 | 337 => 85 | 338 => 86 | n => n, fun | 3 => 3 | 9 => 9 | 2 => 2 | 4 => 4 | 171 => 176 | 0 => 0 | 53 => 141 | 37 => 80 | 5 => 5 | 173 => 178 | 212 => 190 | 51 => 163 | 20 => 20 | 213 => 191 | 46 => 147 | 232 => 171 | 233 => 172 | n => n, fun | 17 => 2 | 18 => 0 | 19 => 1 | n => n⟩
theorem Tryz.laysM171 : Go.Proofs.LaysM.n171 Tryz.prog Tryz.laysM171_ren := {
  mixed := by kernel_rfl
  f129 := Tryz.func115.trans (congrArg some (by kernel_rfl))
  f171 := Tryz.func74.trans (congrArg some (by kernel_rfl))
  f243 := Tryz.func89.trans (congrArg some (by kernel_rfl))
  f246 := Tryz.func97.trans (congrArg some (by kernel_rfl))
  f283 := Tryz.func101.trans (congrArg some (by kernel_rfl))
  f284 := Tryz.func102.trans (congrArg some (by kernel_rfl))
  f285 := Tryz.func103.trans (congrArg some (by kernel_rfl))
  f286 := Tryz.func104.trans (congrArg some (by kernel_rfl))
  f317 := Tryz.func116.trans (congrArg some (by kernel_rfl))
  f318 := Tryz.func117.trans (congrArg some (by kernel_rfl))
  f319 := Tryz.func118.trans (congrArg some (by kernel_rfl))
  f320 := Tryz.func71.trans (congrArg some (by kernel_rfl))
  f337 := Tryz.func85.trans (congrArg some (by kernel_rfl))
  f338 := Tryz.func86.trans (congrArg some (by kernel_rfl))
  t0 := Tryz.underlying0
  a0 := Tryz.isAgg0
  z0 := Tryz.sizeOf0
  v0 := Tryz.zeroValue0
  t2 := Tryz.underlying2
  a2 := Tryz.isAgg2
  z2 := Tryz.sizeOf2
  v2 := Tryz.zeroValue2
  t3 := Tryz.underlying3
  a3 := Tryz.isAgg3
  z3 := Tryz.sizeOf3
  v3 := Tryz.zeroValue3
  t4 := Tryz.underlying4
  a4 := Tryz.isAgg4
  z4 := Tryz.sizeOf4
  v4 := Tryz.zeroValue4
  t5 := Tryz.underlying5
  a5 := Tryz.isAgg5
  z5 := Tryz.sizeOf5
  v5 := Tryz.zeroValue5
  t9 := Tryz.underlying9
  a9 := Tryz.isAgg9
  z9 := Tryz.sizeOf9
  v9 := Tryz.zeroValue9
  t20 := Tryz.underlying20
  a20 := Tryz.isAgg20
  z20 := Tryz.sizeOf20
  v20 := Tryz.zeroValue20
  t37 := Tryz.underlying80
  a37 := Tryz.isAgg80
  z37 := Tryz.sizeOf80
  v37 := Tryz.zeroValue80
  t46 := Tryz.underlying147
  a46 := Tryz.isAgg147
  z46 := Tryz.sizeOf147
  v46 := Tryz.zeroValue147
  t51 := Tryz.underlying163
  a51 := Tryz.isAgg163
  z51 := Tryz.sizeOf163
  v51 := Tryz.zeroValue163
  t53 := Tryz.underlying141
  a53 := Tryz.isAgg141
  z53 := Tryz.sizeOf141
  v53 := Tryz.zeroValue141
  t171 := Tryz.underlying176
  a171 := Tryz.isAgg176
  z171 := Tryz.sizeOf176
  v171 := Tryz.zeroValue176
  t173 := Tryz.underlying178
  a173 := Tryz.isAgg178
  z173 := Tryz.sizeOf178
  v173 := Tryz.zeroValue178
  t212 := Tryz.underlying190
  a212 := Tryz.isAgg190
  z212 := Tryz.sizeOf190
  v212 := Tryz.zeroValue190
  t213 := Tryz.underlying191
  a213 := Tryz.isAgg191
  z213 := Tryz.sizeOf191
  t232 := Tryz.underlying171
  a232 := Tryz.isAgg171
  z232 := Tryz.sizeOf171
  v232 := Tryz.zeroValue171
  t233 := Tryz.underlying172
  a233 := Tryz.isAgg172
  z233 := Tryz.sizeOf172
  v233 := Tryz.zeroValue172
  g17 := by kernel_rfl
  g18 := by kernel_rfl
  g19 := by kernel_rfl
  i0 := by kernel_rfl
  i2 := by kernel_rfl
  i3 := by kernel_rfl
  i4 := by kernel_rfl
  i5 := by kernel_rfl
  i9 := by kernel_rfl
  i20 := by kernel_rfl
  i37 := by kernel_rfl
  i46 := by kernel_rfl
  i51 := by kernel_rfl
  i53 := by kernel_rfl
  i171 := by kernel_rfl
  i173 := by kernel_rfl
  i212 := by kernel_rfl
  i232 := by kernel_rfl
  i233 := by kernel_rfl
  m17 := by kernel_rfl
  m18 := by kernel_rfl
  m19 := by kernel_rfl }
open Go.RowKit Go.Sort Go.Lib in
/-- strconv.Itoa: "Itoa is equivalent to FormatInt(int64(i), 10).": i's DECIMAL NUMERAL ('Lib.itoa': a '-' where i is negative, then the digits), FOR EVERY int. The world behind the call: the world before it, new blocks behind the heap (the library's 'var a [24]byte'), draws. (LAID: no walk: one application.) -/
theorem Tryz.strconv_Itoa (n : Int) (h0 : -9223372036854775808 ≤ n) (h1 : n ≤ 9223372036854775807) (w : World) (htab : Lib.TabIs Tryz.prog w "internal/strconv.uint64pow10" .u64 Lib.pow10Tab) :
    Calls Tryz.prog 74 #[.int .i64 n] w fun e w' => e = .returned (.string ⟨(Lib.itoa n).toArray⟩) ∧ ∃ k os, w' = grow (w.drewN k) os := Any.strconv_Itoa Tryz.laysM171 n h0 h1 w htab
def Tryz.lays166_ren : Go.Shelf.Ren := ⟨fun | 166 => 56 | 240 => 72 | 276 => 87 | n => n, fun | 0 => 0 | 3 => 3 | 4 => 4 | 9 => 9 | 20 => 20 | 37 => 80 | 70 => 123 | 72 => 125 | 75 => 129 | 164 => 165 | 80 => 137 | 5 => 5 | n => n, fun | n => n⟩
theorem Tryz.lays166 : Go.Proofs.Lays.n166 Tryz.prog Tryz.lays166_ren := {
  mixed := by kernel_rfl
  f166 := Tryz.func56.trans (congrArg some (by kernel_rfl))
  f240 := Tryz.func72.trans (congrArg some (by kernel_rfl))
  f276 := Tryz.func87.trans (congrArg some (by kernel_rfl))
  t0 := Tryz.underlying0
  a0 := Tryz.isAgg0
  z0 := Tryz.sizeOf0
  v0 := Tryz.zeroValue0
  t3 := Tryz.underlying3
  a3 := Tryz.isAgg3
  z3 := Tryz.sizeOf3
  v3 := Tryz.zeroValue3
  t4 := Tryz.underlying4
  a4 := Tryz.isAgg4
  z4 := Tryz.sizeOf4
  v4 := Tryz.zeroValue4
  t9 := Tryz.underlying9
  a9 := Tryz.isAgg9
  z9 := Tryz.sizeOf9
  v9 := Tryz.zeroValue9
  t20 := Tryz.underlying20
  a20 := Tryz.isAgg20
  z20 := Tryz.sizeOf20
  v20 := Tryz.zeroValue20
  t37 := Tryz.underlying80
  a37 := Tryz.isAgg80
  z37 := Tryz.sizeOf80
  v37 := Tryz.zeroValue80
  t70 := Tryz.underlying123
  a70 := Tryz.isAgg123
  z70 := Tryz.sizeOf123
  v70 := Tryz.zeroValue123
  t72 := Tryz.underlying125
  a72 := Tryz.isAgg125
  z72 := Tryz.sizeOf125
  v72 := Tryz.zeroValue125
  t75 := Tryz.underlying129
  a75 := Tryz.isAgg129
  z75 := Tryz.sizeOf129
  v75 := Tryz.zeroValue129
  t164 := Tryz.underlying165
  a164 := Tryz.isAgg165
  z164 := Tryz.sizeOf165
  v164 := Tryz.zeroValue165 }
theorem Tryz.Builder_Extra_166 : Builder.Extra Tryz.prog Tryz.lays166_ren := {
  sizeBuilder := by kernel_rfl
  liesBuilder := by kernel_rfl
  t5 := Tryz.underlying5
  a5 := Tryz.isAgg5
  z5 := Tryz.sizeOf5
  v5 := Tryz.zeroValue5
  infoByte := by kernel_rfl
  cellsByte := by kernel_rfl
  sizeByte := by kernel_rfl
  neB5 := by decide }
open Go.RowKit in
theorem Tryz.Builder_WriteString_k (B b : Nat) (bs : List Value) (s : ByteArray) (w : World) (h : Lib.IsBuilderF 125 5 B b bs w) (hlen : bs.length + s.size ≤ 140737488355328) (hBw : B ≤ w.heap.size) :
    Calls Tryz.prog 56 #[.pointer (some ⟨b, 0, none⟩), .string s] w fun e w' => e = .returned (.tuple #[.int .i64 s.size, .nilIface]) ∧ (Lib.BuilderAtF 125 5 B b (.pointer (some ⟨b, 0, none⟩)) (bs ++ Lib.strCells s) w' ∧ Below B w w' ∧ Lib.OthersKept 5 (some b) w w') := Any.Builder_WriteString_k Tryz.lays166 Tryz.Builder_Extra_166 B b bs s w h hlen hBw
end Go.Proofs
namespace Go.Proofs.YtlfeobdfgmlmpaaGreatDoor
open Go.Ev Go.RowKit
set_option linter.all false
/-- The tables of the library lie as their text lays them. -/
structure Wd (w : World) : Prop where
  pow : Lib.TabIs Tryz.prog w "internal/strconv.uint64pow10" .u64 Lib.pow10Tab
  tz : Ld.Wt w
theorem cell_later {w w' : World} {b j : Nat} {v : Value} (h : w.cell? ⟨b, j, none⟩ = some v) (hb : Below w.heap.size w w') : w'.cell? ⟨b, j, none⟩ = some v := by
  rw [hb.cell (p := ⟨b, j, none⟩) (Lib.lt_of_cell h)]
  exact h
theorem pow_block {w w' : World} (h : Lib.TabIs Tryz.prog w "internal/strconv.uint64pow10" .u64 Lib.pow10Tab) (hb : Below w.heap.size w w') : Lib.TabIs Tryz.prog w' "internal/strconv.uint64pow10" .u64 Lib.pow10Tab := by
  have h0 := h.cell (g := 2) (by kernel_rfl) 0 (by decide)
  have hlt : 2 < w.heap.size := Lib.lt_of_cell h0
  unfold Lib.TabIs World.var? at h ⊢
  rw [show Tryz.prog.globalNamed "internal/strconv.uint64pow10" = some 2 by kernel_rfl] at h ⊢
  have hbk := hb.block 2 hlt
  show (match w'.heap[2]? with | some (.cells cs _ _) => some cs | _ => none) = _
  rw [hbk]
  exact h
theorem Wd.later {w w' : World} (h : Wd w) (hb : Below w.heap.size w w') : Wd w' := ⟨pow_block h.pow hb, h.tz.later hb⟩
/-- Results out of a walk: plain values and values of interface types; what was there stays. -/
inductive ResE : List D → List Value → List Value → Prop
  | nil : ResE [] [] []
  | v {x : Value} {ds : List D} {us cs : List Value} : atom1 x = true → ResE ds us cs → ResE (.v x :: ds) (x :: us) (x :: cs)
  | err {b : Bool} {c : Value} {ds : List D} {us cs : List Value} : (b = true → ∃ t x, c = .iface t x) → (b = false → c = .nilIface) → ResE ds us cs → ResE (.err b :: ds) (errV b :: us) (c :: cs)
theorem ResE.from {ds : List D} {us cs : List Value} (h : ResE ds us cs) (m : List (Option Blk)) : fromDs true ds m = some (us, m) := by
  induction h with
  | nil => rfl
  | v ha _ ih => simp only [fromDs, fromD, fromD1, ha, ih]
  | err _ _ _ ih => simp only [fromDs, fromD, fromD1, ih]
theorem ResE.vs {ρ : Map} {N : Nat} {ds : List D} {us cs : List Value} (h : ResE ds us cs) : Vs ρ N us cs := by
  induction h with
  | nil => exact .nil
  | v ha _ ih => exact .cons (V.refl1 ha) ih
  | err h1 h2 _ ih => exact .cons (.iface h1 h2) ih
theorem denW_of_below {P : Program} {W : World → Prop} (hst : ∀ w w', W w → Below w.heap.size w w' → W w') {f : FuncId} {F : List D → Option (Bool × List D)}
    (h : ∀ ds rs, F ds = some (true, rs) → ∃ xs : List Value, ds = xs.map D.v ∧ (∀ x ∈ xs, atom1 x = true) ∧ ∀ w, W w → Calls P f ⟨xs⟩ w fun e w' => ∃ us cs, e = .returned (tupV cs) ∧ ResE rs us cs ∧ Below w.heap.size w w') : DenW P W f F := by
  intro wb hwb ds rs hF w hbw args vs' mem ρ hfrom _ hl hv
  obtain ⟨xs, rfl, hx, hc⟩ := h ds rs hF
  rw [fromDs_plain false xs [] hx] at hfrom
  simp only [Option.some.injEq, Prod.mk.injEq] at hfrom
  obtain ⟨e1, e2⟩ := hfrom
  subst e1
  subst e2
  have hargs : args = xs := by
    apply List.ext_getElem?
    intro i
    by_cases hi : i < xs.length
    · have h1 : xs[i]? = some xs[i] := List.getElem?_eq_getElem hi
      have h2 : args[i]? = some args[i] := List.getElem?_eq_getElem (by omega)
      rw [h1, h2, (hv i _ _ h1 h2).atom1_eq (hx _ (List.getElem_mem hi))]
    · rw [List.getElem?_eq_none (by omega), List.getElem?_eq_none (by omega)]
  subst hargs
  refine (hc w (hst wb w hwb hbw)).mono fun e w' ⟨us, cs, he, hr, hb⟩ => ?_
  exact ⟨tupV cs, he, hb, us, [], fun _ => none, hr.from [], ⟨fun id b h => by simp at h, fun _ _ => rfl, fun i j b h => by obtain ⟨_, _, _, h2, _⟩ := h; simp at h2⟩, hr.vs.tupV⟩
def txt (l : List UInt8) : ByteArray := ⟨l.toArray⟩
def str (l : List UInt8) : Value := .string (txt l)
def by_ (s : ByteArray) : List UInt8 := s.data.toList
theorem drew_below (w : World) (n : Nat) : Below w.heap.size w (w.drewN n) := ⟨rfl, rfl, rfl, Nat.le_refl _, fun _ _ => rfl⟩
theorem grow_below (w : World) (n : Nat) (os : Array Obj) : Below w.heap.size w (Go.Sort.grow (w.drewN n) os) := ⟨rfl, rfl, rfl, by show w.heap.size ≤ (w.heap ++ os).size; simp, fun k hk => by
  show (w.heap ++ os)[k]? = _
  rw [Array.getElem?_append_left hk]⟩
def iR (n : Int) : Bool := decide (-9223372036854775808 ≤ n ∧ n ≤ 9223372036854775807)
theorem iR_iff {n : Int} : iR n = true ↔ -9223372036854775808 ≤ n ∧ n ≤ 9223372036854775807 := by unfold iR; rw [decide_eq_true_eq]
def Fitoa : List D → Option (Bool × List D)
  | [.v (.int .i64 n)] => some (iR n, [.v (str (Lib.itoa n))])
  | _ => none
theorem den_itoa : DenW Tryz.prog Wd 74 Fitoa := denW_of_below (fun _ _ h hb => h.later hb) fun ds rs h => by
  unfold Fitoa at h
  split at h
  · rename_i n
    simp only [Option.some.injEq, Prod.mk.injEq] at h
    obtain ⟨h0, rfl⟩ := h
    obtain ⟨h1, h2⟩ := iR_iff.1 h0
    refine ⟨[.int .i64 n], rfl, fun y hy => ?_, fun w hw => ?_⟩
    · simp only [List.mem_cons, List.not_mem_nil, or_false] at hy
      rcases hy with rfl; rfl
    · refine (Tryz.strconv_Itoa n h1 h2 w hw.pow).mono fun e w' ⟨he, k, os, hw'⟩ => ?_
      subst hw'
      exact ⟨_, [str (Lib.itoa n)], he, .v rfl .nil, grow_below w k os⟩
  · cases h
theorem by_txt (l : List UInt8) : by_ (txt l) = l := rfl
theorem txt_by (s : ByteArray) : txt (by_ s) = s := by cases s; rfl
theorem txt_size (l : List UInt8) : (txt l).size = l.length := by
  show l.toArray.size = _
  simp
theorem txt_app (a b : List UInt8) : txt a ++ txt b = txt (a ++ b) := ByteArray.mk_append_mk a b
theorem size_by (s : ByteArray) : s.size = (by_ s).length := by
  unfold by_
  rw [Array.length_toList]; rfl
theorem toList_by (s : ByteArray) : s.toList = by_ s := ByteArray.toList_eq s
theorem by_inj {a b : ByteArray} (h : by_ a = by_ b) : a = b := by rw [← txt_by a, ← txt_by b, h]
theorem by_app (a b : ByteArray) : by_ (a ++ b) = by_ a ++ by_ b := by
  conv => lhs; rw [← txt_by a, ← txt_by b, txt_app]
  exact by_txt _
open Go.Lib in
theorem nDigits_lt : ∀ (k u : Nat), u < 10 ^ (k + 1) → nDigits u ≤ k + 1
  | 0, u, h => by rw [nDigits_small (by simpa using h)]; exact Nat.le_refl _
  | k + 1, u, h => by
    by_cases hs : u < 10
    · rw [nDigits_small hs]; omega
    · rw [nDigits_big hs]
      have := nDigits_lt k (u / 10) (by rw [Nat.pow_succ] at h; omega)
      omega

open Go.Lib in
theorem itoa_len {n : Int} (h : iR n = true) : (itoa n).length ≤ 21 := by
  obtain ⟨h0, h1⟩ := iR_iff.1 h
  unfold itoa
  by_cases hn : n < 0
  · rw [if_pos hn]
    have := decDigits_length n.natAbs
    have h3 := nDigits_lt 19 n.natAbs (by omega)
    simp only [List.length_cons]
    omega
  · rw [if_neg hn]
    have := decDigits_length n.toNat
    have h3 := nDigits_lt 19 n.toNat (by omega)
    omega
end Go.Proofs.YtlfeobdfgmlmpaaGreatDoor
/- The writer of package print: a builder that lies in a struct: what is written to it, its length, its text. No conditions. -/
namespace Go.Proofs.YtlfeobdfgmlmpaaGreatDoor
open Go.Ev Go.RowKit Go.Lib
set_option linter.all false
set_option maxHeartbeats 1000000 in
set_option maxRecDepth 100000 in
theorem wr_fresh (b : Nat) (w : World) (h0 : w.cell? ⟨b, 0, none⟩ = some (.pointer none)) (hsh : w.shape? b = some (127, 2)) (hfz : w.frozen? ⟨b, 0, none⟩ = false) :
    Calls Tryz.prog 72 #[.pointer (some ⟨b, 0, none⟩)] w fun e w' => e = .returned (.tuple #[]) ∧ w' = w.setCell ⟨b, 0, none⟩ (.pointer (some ⟨b, 0, none⟩)) := by
  obtain ⟨i0, hi, his⟩ := Option.map_eq_some_iff.1 (show (Tryz.prog.info? 125).map (·.size) = some 2 by kernel_rfl)
  go_enter Tryz.func72, Tryz.ntmps72
  go_wp2
  rw [Lib.run_to_unsafe w ⟨b, 0, none⟩ Tryz.underlying123 Tryz.underlying165 hi (by rw [his]; decide) hsh (Nat.zero_lt_succ 1)]
  simp only [Result.andThen]
  rw [Oper.upon_value]
  go_wp2
  rw [run_callFunc_extern Tryz.func87 (by kernel_rfl) (by kernel_rfl) (by kernel_rfl) (e := Extern.AbiNoEscape.same) (by kernel_rfl)]
  rw [Lib.run_noEscape]
  simp only [Result.andThen]
  rw [Oper.upon_value]
  go_wp2
  rw [Lib.run_from_unsafe w ⟨b, 0, none⟩ Tryz.underlying165 Tryz.underlying123 hi hsh (by kernel_rfl)]
  simp only [Result.andThen]
  rw [Oper.upon_value]
  go_wp2
  go_end0
  exact ⟨rfl, rfl⟩
set_option maxHeartbeats 1000000 in
set_option maxRecDepth 100000 in
theorem wr_copy (B b : Nat) (bs : List Value) (w : World) (h : Lib.IsBuilderF 127 5 B b bs w) :
    Calls Tryz.prog 72 #[.pointer (some ⟨b, 0, none⟩)] w fun e w' => e = .returned (.tuple #[]) ∧ (Lib.BuilderAtF 127 5 B b (.pointer (some ⟨b, 0, none⟩)) bs w' ∧ Below B w w' ∧ Lib.OthersKept 5 (some b) w w') := by
  rcases h with h | h
  · refine (wr_fresh b w h.cell0 h.shape h.frozen0).mono ?_
    rintro e w' ⟨rfl, rfl⟩
    exact ⟨rfl, h.used _, (Below.refl B w).setCell (p := ⟨b, 0, none⟩) h.1 _, (Lib.OthersKept.refl _ _ w).setCell ⟨b, 0, none⟩ rfl _⟩
  · refine (Any.Builder_copyCheck_used { Tryz.lays166 with } Tryz.Builder_Extra_166.toX72 b w h.cell0).mono ?_
    rintro e w' ⟨rfl, rfl⟩
    exact ⟨rfl, h, Below.refl B _, Lib.OthersKept.refl _ _ _⟩
set_option maxHeartbeats 2000000 in
set_option maxRecDepth 100000 in
theorem wr_write (B b : Nat) (l : List UInt8) (s : ByteArray) (w : World) (h : Lib.IsBuilderF 127 5 B b (Lib.byteCells l) w) (hlen : l.length + s.size ≤ 140737488355328) (hBw : B ≤ w.heap.size) :
    Calls Tryz.prog 56 #[.pointer (some ⟨b, 0, none⟩), .string s] w fun e w' => e = .returned (.tuple #[.int .i64 s.size, .nilIface]) ∧ Lib.IsBuilderF 127 5 B b (Lib.byteCells (l ++ by_ s)) w' ∧ Below B w w' ∧ Lib.OthersKept 5 (some b) w w' := by
  obtain ⟨i0, hi, hz0, hz1, hz2⟩ := info_parts (show (Tryz.prog.info? 5).map (fun i => (i.zero, i.size, i.bytes)) = some (some (.int .u8 0), 1, 1) by kernel_rfl)
  have hlen' : (Lib.byteCells l).length + s.size ≤ 140737488355328 := by rw [Lib.byteCells_length]; exact hlen
  go_enter Tryz.func56, Tryz.ntmps56
  go_wp2_with (first | (go_at_call 72; refine (wr_copy B b (Lib.byteCells l) _ h).mono ?_))
  rintro e w1 ⟨rfl, h1, hb1, hk1⟩
  obtain ⟨hB, v, hbk, hown, hne⟩ := h1
  have c0 : w1.cell? ⟨b, 0, none⟩ = some (.pointer (some ⟨b, 0, none⟩)) := by rw [Lib.cell_of_heap hbk]; rfl
  have c1 : w1.cell? ⟨b, 1, none⟩ = some v := by rw [Lib.cell_of_heap hbk]; rfl
  go_wp2_with (at_builtin; refine Lib.wpList_append_own_stringF _ rfl _ _ 80 9 rfl B 5 i0 Tryz.underlying80 Tryz.underlying9 hi hz0 hz1 hz2 _ _ _ rfl hown s rfl ?c3 ?c4 ?c5 ?_)
  case c3 => unfold maxLen; omega
  case c4 => omega
  case c5 => have := hb1.size; omega
  intro v' w2 hown' hgrow _
  have hlt : b < w1.heap.size := by
    rcases Nat.lt_or_ge b w1.heap.size with h' | h'
    · exact h'
    · simp [Array.getElem?_eq_none h'] at hbk
  have hb2 : w2.heap[b]? = some (.cells #[.pointer (some ⟨b, 0, none⟩), v] 127 (0, 0)) := by
    rw [hgrow.block b hlt (fun e => hne e.symm)]
    exact hbk
  have d0 : w2.cell? ⟨b, 0, none⟩ = some (.pointer (some ⟨b, 0, none⟩)) := by rw [Lib.cell_of_heap hb2]; rfl
  have d1 : w2.cell? ⟨b, 1, none⟩ = some v := by rw [Lib.cell_of_heap hb2]; rfl
  have f1 : w2.frozen? ⟨b, 1, none⟩ = false := Lib.frozen_of_heap hb2 1
  obtain ⟨ao, n', cap, rfl⟩ : ∃ ao n' cap, v' = .slice ao n' cap := by
    rcases hown'.2 with ⟨hv, _⟩ | ⟨g, cap, cur, fz, hv, _⟩
    · exact ⟨_, _, _, hv⟩
    · exact ⟨_, _, _, hv⟩
  go_wp2
  go_ret2
  refine ⟨rfl, .inr ?_, ?_, (hk1.grown hgrow (Lib.ownsRowF_kind hown)).setCell ⟨b, 1, none⟩ rfl _⟩
  · have hs : Lib.byteCells (l ++ by_ s) = Lib.byteCells l ++ Lib.strCells s := Lib.byteCells_append _ _
    rw [hs]
    exact Lib.BuilderAtF.put (T := 127) (e := 5) hB hb2 (bs' := Lib.byteCells l ++ Lib.strCells s) (by simpa [Lib.strCells_length] using hown') (by decide)
  · exact (hb1.grown hgrow (by have := hb1.size; omega) (fun k hk => (hown.lt k hk).1)).setCell (p := ⟨b, 1, none⟩) hB _
set_option maxHeartbeats 1000000 in
set_option maxRecDepth 100000 in
theorem wr_len (B b : Nat) (l : List UInt8) (w : World) (h : Lib.IsBuilderF 127 5 B b (Lib.byteCells l) w) :
    Calls Tryz.prog 60 #[.pointer (some ⟨b, 0, none⟩)] w fun e w' => e = .returned (.int .i64 l.length) ∧ w' = w := by
  obtain ⟨p, hB, v, hbk, hown, hne⟩ : ∃ p, Lib.BuilderAtF 127 5 B b p (Lib.byteCells l) w := by
    rcases h with h | h
    · exact ⟨_, h⟩
    · exact ⟨_, h⟩
  rw [Lib.byteCells_length] at hown
  obtain ⟨ao, cap, rfl⟩ : ∃ ao cap, v = .slice ao l.length cap := by
    rcases hown.2 with ⟨hv, h0⟩ | ⟨g, cap, cur, fz, hv, _⟩
    · exact ⟨none, 0, by rw [hv, h0]⟩
    · exact ⟨_, _, hv⟩
  have c1 : w.cell? ⟨b, 1, none⟩ = some (.slice ao l.length cap) := by rw [Lib.cell_of_heap hbk]; rfl
  go_enter Tryz.func60, Tryz.ntmps60
  go_wp2
  go_ret
  exact ⟨rfl, rfl⟩
set_option maxHeartbeats 1000000 in
set_option maxRecDepth 100000 in
/-- The text of a writer that has at least one byte. -/
theorem wr_text (B b : Nat) (l : List UInt8) (w : World) (h : Lib.IsBuilderF 127 5 B b (Lib.byteCells l) w) (h0 : l ≠ []) :
    Calls Tryz.prog 61 #[.pointer (some ⟨b, 0, none⟩)] w fun e w' => e = .returned (.string (txt l)) ∧ Below B w w' := by
  obtain ⟨p, hB, v, hbk, hown, hne⟩ : ∃ p, Lib.BuilderAtF 127 5 B b p (Lib.byteCells l) w := by
    rcases h with h | h
    · exact ⟨_, h⟩
    · exact ⟨_, h⟩
  have hl0 : l.length ≠ 0 := by simpa using h0
  rw [Lib.byteCells_length] at hown
  obtain ⟨g, cap, cur, fz, rfl, hbg, hg, hfz, hnc, hcm, hcs, htake⟩ : ∃ g cap cur fz, v = .slice (some ⟨g, 0, none⟩) l.length cap ∧ B ≤ g ∧ w.heap[g]? = some (.cells cur 5 fz) ∧ fz.2 ≤ l.length * 1 ∧ l.length ≤ cap ∧ cap ≤ maxLen ∧ cur.size = cap * 1 ∧ cur.toList.take (l.length * 1) = Lib.byteCells l := by
    rcases hown.2 with ⟨_, hz⟩ | ⟨g, cap, cur, fz, hv, r⟩
    · exact absurd hz hl0
    · exact ⟨g, cap, cur, fz, hv, r⟩
  have c1 : w.drew.cell? ⟨b, 1, none⟩ = some (.slice (some ⟨g, 0, none⟩) l.length cap) := by
    have : w.drew.heap[b]? = some (.cells #[p, .slice (some ⟨g, 0, none⟩) l.length cap] 127 (0, 0)) := hbk
    rw [Lib.cell_of_heap this]; rfl
  have hSD : (Builtin.unsafeSliceData_ #[80] 150 #[.slice (some ⟨g, 0, none⟩) l.length cap]).run Tryz.prog w.drew = .ok (.pointer (some ⟨g, 0, none⟩)) w.drew :=
    Lib.run_unsafeSliceData_row _ _ _ _ _ _ (by omega)
  have hUS : (Builtin.unsafeString_ #[150, 3] 9 #[.pointer (some ⟨g, 0, none⟩), .int .i64 l.length]).run Tryz.prog w.drew = .ok (.string ⟨l.toArray⟩) (w.drew.freeze ⟨g, 0, none⟩ l.length) := by
    refine Lib.run_unsafeString_row w.drew 150 3 9 5 Tryz.underlying150 (by kernel_rfl) g cur.size (by have hg' : w.drew.heap[g]? = some (.cells cur 5 fz) := hg; simp [World.shape?, hg']) l h0 (by omega) (by unfold maxLen at hcm; omega) ?_
    intro j x hx
    exact hown.cells (g := g) rfl j (.int .u8 x.toNat) (by simp [Lib.byteCells, hx])
  have mx : Tryz.prog.follows .mixedOrders = true := mixed
  go_enter Tryz.func61, Tryz.ntmps61
  go_wp2
  go_region_o
  all_goals (go_wp2; go_ret; exact ⟨rfl, Lib.below_freeze (Below.drew (Below.refl B w)) (p := ⟨g, 0, none⟩) hbg _⟩)
end Go.Proofs.YtlfeobdfgmlmpaaGreatDoor
/- Lines of numbers, written. No conditions. -/
namespace Go.Proofs.YtlfeobdfgmlmpaaGreatDoor
open Go.Ev Go.RowKit Go.Lib
set_option linter.all false
/-- Numbers, each with a space in front. -/
def nuL (x : Nat → Int) : Nat → List UInt8
  | 0 => []
  | n + 1 => nuL x n ++ (32 :: itoa (x n))
theorem nuL_len {x : Nat → Int} (h : ∀ j, iR (x j) = true) : ∀ n, (nuL x n).length ≤ n * 22
  | 0 => Nat.zero_le _
  | n + 1 => by
    have h1 := nuL_len h n
    have h2 := itoa_len (h n)
    show (nuL x n ++ (32 :: itoa (x n))).length ≤ _
    rw [List.length_append, List.length_cons]
    omega
theorem grow_others {w : World} (k : Nat) (os : Array Obj) (b : Option Nat) : Lib.OthersKept 5 b w (Go.Sort.grow (w.drewN k) os) := fun g o h _ _ => by
  show (w.heap ++ os)[g]? = _
  have hlt : g < w.heap.size := by
    rcases Nat.lt_or_ge g w.heap.size with h' | h'
    · exact h'
    · rw [Array.getElem?_eq_none h'] at h; cases h
  rw [Array.getElem?_append_left hlt]
  exact h
theorem itoa_k (b : Nat) (n : Int) (h : iR n = true) : ∃ s : ByteArray, by_ s = itoa n ∧ s.size ≤ 21 ∧ ∀ w, Wd w → Calls Tryz.prog 74 #[.int .i64 n] w fun e w' => e = .returned (.string s) ∧ Below w.heap.size w w' ∧ Lib.OthersKept 5 (some b) w w' := by
  obtain ⟨h1, h2⟩ := iR_iff.1 h
  refine ⟨txt (itoa n), by_txt _, by rw [txt_size]; exact itoa_len h, fun w hw => (Tryz.strconv_Itoa n h1 h2 w hw.pow).mono ?_⟩
  rintro e w' ⟨he, k, os, rfl⟩
  exact ⟨he, grow_below w k os, grow_others k os _⟩
/-- Hidden from what the walk simplifies. -/
def Hid (p : Prop) : Prop := p
theorem iat (l : List UInt8) : by_ (⟨#[32]⟩ ++ txt l) = 32 :: l := by rw [by_app, by_txt]; rfl
set_option maxHeartbeats 4000000 in
set_option maxRecDepth 1000000 in
theorem ints_walk (B b : Nat) (L : List UInt8) (word : ByteArray) (a : Option Addr) (g off n cap : Nat) (x : Nat → Int) (w : World) (hW : ∀ w', Below B w w' → Wd w') (hI : Lib.IsBuilderF 127 5 B b (Lib.byteCells L) w) (hB : B ≤ w.heap.size)
    (ha : 0 < n → a = some ⟨g, off, none⟩) (hx : ∀ j, iR (x j) = true) (hl : ∀ w', Below B w w' → Lib.OthersKept 5 (some b) w w' → ∀ j, j < n → w'.cell? ⟨g, off + j, none⟩ = some (.int .i64 (x j)))
    (hlen : L.length + word.size + n * 22 ≤ 1000000000000) :
    Calls Tryz.prog 59 #[.pointer (some ⟨b, 0, none⟩), .string word, .slice a n cap] w fun e w' => e = .returned (.tuple #[]) ∧ Lib.IsBuilderF 127 5 B b (Lib.byteCells (L ++ by_ word ++ nuL x n ++ [10])) w' ∧ Below B w w' ∧ Lib.OthersKept 5 (some b) w w' := by
  have mx : Tryz.prog.follows .mixedOrders = true := mixed
  go_enter Tryz.func59, Tryz.ntmps59
  go_wp2_with (first | (go_at_call 56; refine (wr_write B b L word _ hI ?_ hB).mono ?_))
  · omega
  rintro e w1 ⟨rfl, hI1, hb1, hk1⟩
  go_wp2
  go_loopw [15] (fun i wr => ∃ k : Nat, i = .int .i64 k ∧ k ≤ n ∧ Lib.IsBuilderF 127 5 B b (Lib.byteCells (L ++ by_ word ++ nuL x k)) wr ∧ Below B w wr ∧ Lib.OthersKept 5 (some b) w wr) (fun i _ => n - (RowKit.intOf i).toNat)
  case atStart =>
    exact ⟨0, rfl, Nat.zero_le _, by simpa [nuL] using hI1, hb1, hk1⟩
  case round =>
    obtain ⟨k, rfl, hk, hI2, hb2, hk2⟩ := hrel
    by_cases hp : k < n
    · have ha' := ha (by omega)
      subst ha'
      have hc := hl _ hb2 hk2 k hp
      obtain ⟨i0, i1⟩ := iR_iff.1 (hx k)
      go_wp2
      have hle : (L ++ by_ word ++ nuL x k).length ≤ 2000000000000 := by
        have h1 := nuL_len hx k
        have h3 : k * 22 ≤ n * 22 := Nat.mul_le_mul_right _ hk
        have h4 : (by_ word).length = word.size := (size_by word).symm
        rw [List.length_append, List.length_append]
        omega
      have hId : Lib.IsBuilderF 127 5 B b (Lib.byteCells (L ++ by_ word ++ nuL x k)) wr.drew := hI2
      obtain ⟨s, hs1, hs2, hs3⟩ := itoa_k b (x k) (hx k)
      obtain ⟨Cq, hq1, hq2⟩ : ∃ Cq : World → Prop, (∀ v, Cq v → Below B w v ∧ Lib.OthersKept 5 (some b) w v ∧ Lib.IsBuilderF 127 5 B b (Lib.byteCells (L ++ by_ word ++ nuL x k)) v) ∧ (∀ v, Below B w v → Lib.OthersKept 5 (some b) w v → Lib.IsBuilderF 127 5 B b (Lib.byteCells (L ++ by_ word ++ nuL x k)) v → Cq v) := ⟨fun v => Below B w v ∧ Lib.OthersKept 5 (some b) w v ∧ Lib.IsBuilderF 127 5 B b (Lib.byteCells (L ++ by_ word ++ nuL x k)) v, fun _ h => h, fun _ h1 h2 h3 => ⟨h1, h2, h3⟩⟩
      refine wp_region_quiet_tail (C := Cq) 6 mx (by kernel_rfl) (hq2 wr.drew (Below.drew hb2) hk2.drew hId) ?_
      have hcall : ∀ v, Cq v → Calls Tryz.prog 74 #[.int .i64 (x k)] v fun e w' => e = .returned (.string s) ∧ Cq w' := fun v hv => by
        obtain ⟨g1, g2, g3⟩ := hq1 v hv
        refine (hs3 v (hW v g1)).mono ?_
        rintro e w' ⟨he, hb3, hk3⟩
        exact ⟨he, hq2 _ (g1.trans (hb3.mono (Nat.le_trans hB g1.size))) (g2.trans hk3) (g3.below hb3)⟩
      dsimp only [List.take, List.drop]
      have hq : Hid (∀ v, Cq v → Below B w v ∧ Lib.OthersKept 5 (some b) w v ∧ Lib.IsBuilderF 127 5 B b (Lib.byteCells (L ++ by_ word ++ nuL x k)) v) := hq1
      have hcl : Hid (∀ v, Cq v → Calls Tryz.prog 74 #[.int .i64 (x k)] v fun e w' => e = .returned (.string s) ∧ Cq w') := hcall
      clear hq1 hq2 hcall
      refine wpQuiet_step (fun K hK => ?_)
      go_simp
      refine ⟨_, fun v hv => rfl, hK _ ?_⟩
      clear hK K
      refine wpQuiet_step (fun K hK => ?_)
      go_simp
      refine ⟨_, fun v hv => rfl, hK _ ?_⟩
      clear hK K
      refine wpQuiet_step (fun K hK => ?_)
      go_simp
      refine ⟨_, fun v hv => rfl, hK _ ?_⟩
      clear hK K
      refine wpQuiet_step (fun K hK => ?_)
      go_simp
      refine ⟨_, fun v hv => rfl, hK _ ?_⟩
      clear hK K
      refine wpQuiet_step (fun K hK => ?_)
      go_simp
      refine ⟨.string s, fun v hv => (show ∀ v, Cq v → Calls Tryz.prog 74 #[.int .i64 (x k)] v fun e w' => e = .returned (.string s) ∧ Cq w' from hcl) v hv, hK _ ?_⟩
      clear hK K
      refine wpQuiet_step (fun K hK => ?_)
      go_simp
      refine ⟨.string (ByteArray.mk #[32] ++ s), fun v hv => ?_, hK _ ?_⟩
      · rw [if_neg (show ¬ 9223372036854775807 < 1 + s.size by omega)]
        exact ⟨rfl, rfl⟩
      clear hK K
      refine wpQuiet_nil ?_
      intro w5 h5
      obtain ⟨g1, g2, g3⟩ := (show ∀ v, Cq v → Below B w v ∧ Lib.OthersKept 5 (some b) w v ∧ Lib.IsBuilderF 127 5 B b (Lib.byteCells (L ++ by_ word ++ nuL x k)) v from hq) w5 h5
      have hB5 : B ≤ w5.heap.size := Nat.le_trans hB g1.size
      have hlen5 : (L ++ by_ word ++ nuL x k).length + (ByteArray.mk #[32] ++ s).size ≤ 140737488355328 := by
        rw [ByteArray.size_append]; show _ + (1 + _) ≤ _; omega
      clear hq hcl h5
      go_wp2_with (first | (go_at_call 56; refine (wr_write B b (L ++ by_ word ++ nuL x k) _ w5 g3 ?_ hB5).mono ?_))
      · exact hlen5
      rintro e w6 ⟨rfl, h6, b6, k6⟩
      go_wp2
      go_roundw
      case rel =>
        refine ⟨k + 1, by go_num, by omega, ?_, g1.trans (b6), g2.trans k6⟩
        have e1 : by_ (ByteArray.mk #[32] ++ s) = 32 :: itoa (x k) := by rw [by_app, hs1]; rfl
        rw [e1] at h6
        rw [show nuL x (k + 1) = nuL x k ++ (32 :: itoa (x k)) from rfl, ← List.append_assoc]
        exact h6
      case measure =>
        simp [RowKit.intOf]
        omega
    · have hkn : k = n := by omega
      subst hkn
      have hle : (L ++ by_ word ++ nuL x k).length ≤ 2000000000000 := by
        have h1 := nuL_len hx k
        have h4 : (by_ word).length = word.size := (size_by word).symm
        rw [List.length_append, List.length_append]
        omega
      have hB5 : B ≤ wr.heap.size := Nat.le_trans hB hb2.size
      have hlen5 : (L ++ by_ word ++ nuL x k).length + (ByteArray.mk #[10]).size ≤ 140737488355328 := by
        show _ + 1 ≤ _; omega
      clear hl
      go_wp2_with (first | (go_at_call 56; refine (wr_write B b (L ++ by_ word ++ nuL x k) _ wr hI2 ?_ hB5).mono ?_))
      · exact hlen5
      rintro e w6 ⟨rfl, h6, b6, k6⟩
      go_wp2
      go_end0
      exact ⟨rfl, h6, hb2.trans b6, hk2.trans k6⟩
end Go.Proofs.YtlfeobdfgmlmpaaGreatDoor
/- The writer's steps in one form; the names of the kinds. No conditions. -/
namespace Go.Proofs.YtlfeobdfgmlmpaaGreatDoor
open Go.Ev Go.RowKit Go.Lib
set_option linter.all false
/-- What stands while a text is written: w2 is the world in which the writer was made, as block b. -/
structure WrI (w2 : World) (b : Nat) (L : List UInt8) (w : World) : Prop where
  bel : Below b w2 w
  oth : Lib.OthersKept 5 (some b) w2 w
  bld : Lib.IsBuilderF 127 5 b b (Lib.byteCells L) w
theorem WrI.alloc {w2 : World} {b : Nat} {L : List UInt8} {w : World} (h : WrI w2 b L w) (hb : b ≤ w2.heap.size) (o : Obj) : WrI w2 b L (w.alloc o) :=
  ⟨h.bel.alloc (Nat.le_trans hb h.bel.size) o, h.oth.alloc o, h.bld.alloc o⟩
theorem WrI.drew {w2 : World} {b : Nat} {L : List UInt8} {w : World} (h : WrI w2 b L w) : WrI w2 b L w.drew := ⟨Below.drew h.bel, h.oth.drew, h.bld⟩
theorem ints_old {w2 : World} {b : Nat} {L : List UInt8} {w : World} (h : WrI w2 b L w) (hW : ∀ w', Below b w2 w' → Wd w') (hb : b ≤ w2.heap.size) (word : ByteArray) (a : Option Addr) (g off n cap : Nat) (x : Nat → Int)
    (ha : 0 < n → a = some ⟨g, off, none⟩) (hx : ∀ j, iR (x j) = true) (hg : 0 < n → g < b) (hc : ∀ j, j < n → w2.cell? ⟨g, off + j, none⟩ = some (.int .i64 (x j))) (hlen : L.length + word.size + n * 22 ≤ 1000000000000) :
    Calls Tryz.prog 59 #[.pointer (some ⟨b, 0, none⟩), .string word, .slice a n cap] w fun e w' => e = .returned (.tuple #[]) ∧ WrI w2 b (L ++ by_ word ++ nuL x n ++ [10]) w' :=
  (ints_walk b b L word a g off n cap x w (fun w' h' => hW w' (h.bel.trans h')) h.bld (Nat.le_trans hb h.bel.size) ha hx (fun w' h1 _ j hj => by
    rw [(h.bel.trans h1).cell (p := ⟨g, off + j, none⟩) (hg (by omega))]
    exact hc j hj) hlen).mono fun e w' ⟨he, h1, h2, h3⟩ => ⟨he, h.bel.trans h2, h.oth.trans h3, h1⟩
theorem ints_new {w2 : World} {b : Nat} {L : List UInt8} {w : World} (h : WrI w2 b L w) (hW : ∀ w', Below b w2 w' → Wd w') (hb : b ≤ w2.heap.size) (word : ByteArray) (g n cap : Nat) (x : Nat → Int) (cs : Array Value) (fr : Nat × Nat)
    (hx : ∀ j, iR (x j) = true) (hg : g ≠ b) (ho : w.heap[g]? = some (.cells cs 3 fr)) (hc : ∀ j, j < n → cs[j]? = some (.int .i64 (x j))) (hlen : L.length + word.size + n * 22 ≤ 1000000000000) :
    Calls Tryz.prog 59 #[.pointer (some ⟨b, 0, none⟩), .string word, .slice (some ⟨g, 0, none⟩) n cap] w fun e w' => e = .returned (.tuple #[]) ∧ WrI w2 b (L ++ by_ word ++ nuL x n ++ [10]) w' :=
  (ints_walk b b L word _ g 0 n cap x w (fun w' h' => hW w' (h.bel.trans h')) h.bld (Nat.le_trans hb h.bel.size) (fun _ => rfl) hx (fun w' _ h2 j hj => by
    have := h2 g _ ho (fun e => hg (by simpa using e)) (fun c fz e => by cases e)
    show (match w'.heap[g]? with | _ => _) = _
    rw [Nat.zero_add]
    rw [Lib.cell_of_heap this]
    exact hc j hj) hlen).mono fun e w' ⟨he, h1, h2, h3⟩ => ⟨he, h.bel.trans h2, h.oth.trans h3, h1⟩
theorem write_I {w2 : World} {b : Nat} {L : List UInt8} {w : World} (h : WrI w2 b L w) (hb : b ≤ w2.heap.size) (s : ByteArray) (hlen : L.length + s.size ≤ 140737488355328) :
    Calls Tryz.prog 56 #[.pointer (some ⟨b, 0, none⟩), .string s] w fun e w' => e = .returned (.tuple #[.int .i64 s.size, .nilIface]) ∧ WrI w2 b (L ++ by_ s) w' :=
  (wr_write b b L s w h.bld hlen (Nat.le_trans hb h.bel.size)).mono fun e w' ⟨he, h1, h2, h3⟩ => ⟨he, h.bel.trans h2, h.oth.trans h3, h1⟩
def sCake : ByteArray := ⟨⟨[99, 97, 107, 101]⟩⟩
def sGoods : ByteArray := ⟨⟨[103, 111, 111, 100, 115]⟩⟩
def sRent : ByteArray := ⟨⟨[114, 101, 110, 116]⟩⟩
def sSettle : ByteArray := ⟨⟨[115, 101, 116, 116, 108, 101]⟩⟩
theorem others_below {w w' : World} (h : Below w.heap.size w w') (b : Option Nat) : Lib.OthersKept 5 b w w' := fun k o hk _ _ => by
  have hlt : k < w.heap.size := by
    rcases Nat.lt_or_ge k w.heap.size with h' | h'
    · exact h'
    · rw [Array.getElem?_eq_none h'] at hk; cases hk
  rw [h.block k hlt]
  exact hk
theorem WrI.step {w2 : World} {b : Nat} {L : List UInt8} {w w' : World} (h : WrI w2 b L w) (hb : b ≤ w2.heap.size) (h' : Below w.heap.size w w') : WrI w2 b L w' :=
  ⟨h.bel.trans (h'.mono (Nat.le_trans hb h.bel.size)), h.oth.trans (others_below h' _), h.bld.below h'⟩
noncomputable def CK0 : Cx := mkCx Tryz.prog fns [] []
theorem CK0_ok : CxOk CK0 := mkCx_ok enter mixed (fun p h => by cases h) (fun l h => by cases h)
def Fkin : List D → Option (Bool × List D)
  | [] => some (true, [.agg [.v (.string sCake), .v (.string sGoods), .v (.string sRent), .v (.string sSettle)]])
  | _ => none
theorem u57 : evF CK0 6 57 [] = some [.agg [.v (.string sCake), .v (.string sGoods), .v (.string sRent), .v (.string sSettle)]] := by kernel_rfl
theorem den_kin : Den Tryz.prog 57 Fkin := evF_den CK0_ok fun ds rs h => by
  unfold Fkin at h
  split at h
  · cases h; exact u57
  · cases h
theorem mem_nil (B : Nat) (w : World) : MemR [] (fun _ => none) B w := ⟨fun id b h => by simp at h, fun _ _ => rfl, fun i j b h => by obtain ⟨_, _, h1, _⟩ := h; cases h1⟩
theorem V_str {ρ : Ev.Map} {N : Nat} {s : ByteArray} {y : Value} (h : V ρ N (.string s) y) : y = .string s := by cases h; rfl
theorem kinds_I {w2 : World} {b : Nat} {L : List UInt8} {w : World} (h : WrI w2 b L w) (hb : b ≤ w2.heap.size) : Calls Tryz.prog 57 #[] w fun e w' => e = .returned (.agg #[.string sCake, .string sGoods, .string sRent, .string sSettle]) ∧ WrI w2 b L w' := by
  refine (den_kin w [] _ rfl w (Below.refl _ _) [] [] [] (fun _ => none) rfl (mem_nil _ _) rfl (fun i x c hx => by simp at hx)).mono fun e w' ⟨cv, he, hb', us, mem', ρ', hf, _, hcv⟩ => ?_
  have e2 : us = [.agg ⟨[.string sCake, .string sGoods, .string sRent, .string sSettle]⟩] := by
    have : fromDs true [D.agg [.v (.string sCake), .v (.string sGoods), .v (.string sRent), .v (.string sSettle)]] [] = some ([.agg ⟨[.string sCake, .string sGoods, .string sRent, .string sSettle]⟩], []) := rfl
    rw [this] at hf
    simp only [Option.some.injEq, Prod.mk.injEq] at hf
    exact hf.1.symm
  subst e2
  have hcv : V ρ' mem'.length (.agg ⟨[.string sCake, .string sGoods, .string sRent, .string sSettle]⟩) cv := hcv
  refine ⟨?_, h.step hb hb'⟩
  rw [he]
  cases hcv with
  | @agg _ cs hs hc =>
    have hcs : cs = #[.string sCake, .string sGoods, .string sRent, .string sSettle] := by
      have hs' : cs.size = 4 := hs.symm
      apply Array.ext (by rw [hs']; rfl)
      intro i h1 h2
      have hi : i < 4 := by omega
      have h3 : cs[i]? = some cs[i] := Array.getElem?_eq_getElem h1
      match i, hi with
      | 0, _ => exact V_str (hc 0 _ _ rfl h3)
      | 1, _ => exact V_str (hc 1 _ _ rfl h3)
      | 2, _ => exact V_str (hc 2 _ _ rfl h3)
      | 3, _ => exact V_str (hc 3 _ _ rfl h3)
    rw [hcs]
end Go.Proofs.YtlfeobdfgmlmpaaGreatDoor
/- The text of a document of goods, walked. No conditions. -/
namespace Go.Proofs.YtlfeobdfgmlmpaaGreatDoor
open Go.Ev Go.RowKit Go.Lib
set_option linter.all false
def sDocument : ByteArray := ⟨⟨[100, 111, 99, 117, 109, 101, 110, 116, 32]⟩⟩
def sValues : ByteArray := ⟨⟨[118, 97, 108, 117, 101, 115]⟩⟩
def sGive : ByteArray := ⟨⟨[103, 105, 118, 101]⟩⟩
def sClaims : ByteArray := ⟨⟨[99, 108, 97, 105, 109, 115]⟩⟩
def sBalances : ByteArray := ⟨⟨[98, 97, 108, 97, 110, 99, 101, 115]⟩⟩
def sPay : ByteArray := ⟨⟨[112, 97, 121]⟩⟩
/-- The first line. -/
def hdL (s : ByteArray) : List UInt8 := by_ sDocument ++ by_ s ++ [10]
/-- Lines of a word and numbers. -/
def lnL (word : ByteArray) (x : Nat → Nat → Int) (n : Nat → Nat) : Nat → List UInt8
  | 0 => []
  | k + 1 => lnL word x n k ++ (by_ word ++ nuL (x k) (n k) ++ [10])
def clL (n : Int) : List UInt8 := by_ sClaims ++ nuL (fun _ => n) 1 ++ [10]
/-- What Text returns: of an error, and a text. -/
def txS (ec : Int) (t : List UInt8) : ByteArray := bif ec != 0 then .empty else bif decide (60000 < t.length) then .empty else txt t
def txE (ec : Int) (t : List UInt8) : Int := bif ec != 0 then ec else bif decide (60000 < t.length) then 4 else 0
def goT (X : Nat → Nat → Int) (rn : Nat → Nat) (gn : Nat) (A : Nat → Int) (an : Nat) (c : Int) : List UInt8 := hdL sGoods ++ lnL sValues X rn gn ++ (by_ sGive ++ nuL A an ++ [10]) ++ clL c
theorem lnL_len {word : ByteArray} {x : Nat → Nat → Int} {n : Nat → Nat} (hw : word.size ≤ 100) (hx : ∀ e j, iR (x e j) = true) : ∀ k, (∀ e, e < k → n e ≤ 1000) → (lnL word x n k).length ≤ k * 30000
  | 0, _ => Nat.zero_le _
  | k + 1, h => by
    have h1 := lnL_len hw hx k (fun e he => h e (by omega))
    have h2 := nuL_len (hx k) (n k)
    have h3 := h k (by omega)
    have h4 : (by_ word).length = word.size := (size_by word).symm
    show (lnL word x n k ++ (by_ word ++ nuL (x k) (n k) ++ [10])).length ≤ _
    rw [List.length_append, List.length_append, List.length_append, List.length_singleton]
    omega
theorem idx_goods (v : World) : (Instr.index 132 (.agg #[.string sCake, .string sGoods, .string sRent, .string sSettle]) (.int .u8 (IntKind.u8.wrap 1))).run Tryz.prog v = .ok (.string sGoods) v := by kernel_rfl
theorem idx_settle (v : World) : (Instr.index 132 (.agg #[.string sCake, .string sGoods, .string sRent, .string sSettle]) (.int .u8 (IntKind.u8.wrap 3))).run Tryz.prog v = .ok (.string sSettle) v := by kernel_rfl
theorem alloc_new (w : World) (o : Obj) : (w.alloc o).heap[w.heap.size]? = some o := by
  show (w.heap.push o)[w.heap.size]? = _
  simp
theorem alloc_lt (w : World) (o : Obj) : w.heap.size < (w.alloc o).heap.size := by
  show _ < (w.heap.push o).size
  simp
set_option maxHeartbeats 4000000 in
set_option maxRecDepth 1000000 in
theorem goods_walk (w : World) (c1 c2 c4 c7 c9 c10 c12 c13 : Value) (pc rr ld cl : Int) (ga aa : Option Addr) (gn gc an ac gb goff ab ao : Nat) (ra : Nat → Option Addr) (rb ro rn rcp : Nat → Nat) (X : Nat → Nat → Int) (A : Nat → Int) (ec : Int)
    (hchk : ∀ w', Below w.heap.size w w' → Calls Tryz.prog 13 #[.agg #[.int .u8 2, c1, c2, .int .u8 pc, c4, .slice ga gn gc, .slice aa an ac, c7, .int .i64 rr, c9, c10, .int .i64 ld, c12, c13, .int .u8 cl]] w' fun e w'' => e = .returned (.int .i64 ec) ∧ Below w'.heap.size w' w'')
    (hWd : ∀ w', Below w.heap.size w w' → Wd w')
    (hga : 0 < gn → ga = some ⟨gb, goff, none⟩) (hgb : 0 < gn → gb < w.heap.size) (hg : ∀ e, e < gn → w.cell? ⟨gb, goff + e, none⟩ = some (.slice (ra e) (rn e) (rcp e)))
    (hra : ∀ e, e < gn → 0 < rn e → ra e = some ⟨rb e, ro e, none⟩ ∧ rb e < w.heap.size) (hr : ∀ e, e < gn → ∀ j, j < rn e → w.cell? ⟨rb e, ro e + j, none⟩ = some (.int .i64 (X e j)))
    (haa : 0 < an → aa = some ⟨ab, ao, none⟩ ∧ ab < w.heap.size) (ha : ∀ j, j < an → w.cell? ⟨ab, ao + j, none⟩ = some (.int .i64 (A j)))
    (hX : ∀ e j, iR (X e j) = true) (hA : ∀ j, iR (A j) = true) (hl : ec = 0 → gn ≤ 1000 ∧ (∀ e, e < gn → rn e ≤ 1000) ∧ an ≤ 1000) (hc : ec = 0 → 0 ≤ pc ∧ pc ≤ 255 ∧ 0 ≤ cl ∧ cl ≤ 255) :
    Calls Tryz.prog 38 #[.agg #[.int .u8 2, c1, c2, .int .u8 pc, c4, .slice ga gn gc, .slice aa an ac, c7, .int .i64 rr, c9, c10, .int .i64 ld, c12, c13, .int .u8 cl]] w fun e w' => e = .returned (.tuple #[.string (txS ec (goT X rn gn A an (cl + pc))), .int .i64 (txE ec (goT X rn gn A an (cl + pc)))]) ∧ Below w.heap.size w w' := by
  have mx : Tryz.prog.follows .mixedOrders = true := mixed
  go_enter Tryz.func38, Tryz.ntmps38
  go_wp2_with (first | (go_at_call 13; refine (hchk _ ?_).mono ?_))
  · exact (Below.refl _ w).alloc (Nat.le_refl _) _
  rintro e w1 ⟨rfl, hb1⟩
  by_cases hec : ec = 0
  rotate_left
  · have hec2 : (ec != 0) = true := by simpa using hec
    go_wp2
    go_ret2
    unfold txS txE
    rw [hec2]
    exact ⟨rfl, ((Below.refl _ w).alloc (Nat.le_refl _) _).trans (hb1.mono (by simp))⟩
  · obtain ⟨hl1, hl2, hl3⟩ := hl hec
    obtain ⟨p0, p1, q0, q1⟩ := hc hec
    subst hec
    clear hl hc
    go_wp2
    have hb0 : Below w.heap.size w w1 := ((Below.refl _ w).alloc (Nat.le_refl _) _).trans (hb1.mono (Nat.le_of_lt (alloc_lt w _)))
    have hN : w.heap.size < w1.heap.size := Nat.lt_of_lt_of_le (alloc_lt w _) hb1.size
    have hbox : w1.heap[w.heap.size]? = some (.cells #[.int .u8 2, c1, c2, .int .u8 pc, c4, .slice ga gn gc, .slice aa an ac, c7, .int .i64 rr, c9, c10, .int .i64 ld, c12, c13, .int .u8 cl] 41 (0, 0)) := by
      rw [hb1.block w.heap.size (alloc_lt w _)]
      exact alloc_new w _
    obtain ⟨w2, hw2⟩ : ∃ w2, w2 = w1.alloc (.cells #[.pointer none, .slice none 0 0] 127) := ⟨_, rfl⟩
    have hI0 : WrI w2 w1.heap.size [] w2 := ⟨Below.refl _ _, Lib.OthersKept.refl _ _ _, by rw [hw2]; exact Lib.IsBuilderF.of (Lib.fresh_isBuilder 127 5 w1)⟩
    have hb3 : w1.heap.size < w2.heap.size := by rw [hw2]; exact alloc_lt w1 _
    have hb2 : w1.heap.size ≤ w2.heap.size := by rw [hw2]; exact Nat.le_of_lt (alloc_lt w1 _)
    have hbel2 : ∀ k, k < w1.heap.size → w2.heap[k]? = w1.heap[k]? := fun k hk => by rw [hw2]; exact Below.heap_alloc w1 _ k hk
    have hbox2 : ∀ v, Below w1.heap.size w2 v → v.heap[w.heap.size]? = some (.cells #[.int .u8 2, c1, c2, .int .u8 pc, c4, .slice ga gn gc, .slice aa an ac, c7, .int .i64 rr, c9, c10, .int .i64 ld, c12, c13, .int .u8 cl] 41 (0, 0)) := fun v hv => by
      rw [hv.block _ hN, hbel2 _ hN]; exact hbox
    have hbv : ∀ v, Below w1.heap.size w2 v → Below w.heap.size w v := fun v hv => hb0.trans (((Below.refl _ w1).alloc (Nat.le_refl _) _).trans (hw2 ▸ hv) |>.mono (by omega))
    have hW2 : ∀ v, Below w1.heap.size w2 v → Wd v := fun v hv => hWd v (hbv v hv)
    rw [← hw2]
    clear hw2 hbel2
    generalize hbb : w1.heap.size = b at *
    obtain ⟨Cq, hq1, hq2⟩ : ∃ Cq : World → Prop, (∀ v, Cq v → WrI w2 b [] v) ∧ ∀ v, WrI w2 b [] v → Cq v := ⟨fun v => WrI w2 b [] v, fun _ h => h, fun _ h => h⟩
    refine wp_region_quiet_tail (C := Cq) 10 mx (by kernel_rfl) (hq2 w2.drew hI0.drew) ?_
    have hq : Hid (∀ v, Cq v → WrI w2 b [] v) := hq1
    have hcall : ∀ v, Cq v → Calls Tryz.prog 57 #[] v fun e w' => e = .returned (.agg #[.string sCake, .string sGoods, .string sRent, .string sSettle]) ∧ Cq w' := fun v hv => (kinds_I (hq1 v hv) hb2).mono fun e w' ⟨he, h⟩ => ⟨he, hq2 _ h⟩
    have hcl : Hid (∀ v, Cq v → Calls Tryz.prog 57 #[] v fun e w' => e = .returned (.agg #[.string sCake, .string sGoods, .string sRent, .string sSettle]) ∧ Cq w') := hcall
    have hld : Hid (∀ v, Cq v → v.cell? ⟨w.heap.size, 0, none⟩ = some (.int .u8 2)) := fun v hv => by rw [Lib.cell_of_heap (hbox2 v (hq1 v hv).bel)]; rfl
    have hhg : Hid (∀ e, e < gn → w.cell? ⟨gb, goff + e, none⟩ = some (.slice (ra e) (rn e) (rcp e))) := hg
    have hhr : Hid (∀ e, e < gn → ∀ j, j < rn e → w.cell? ⟨rb e, ro e + j, none⟩ = some (.int .i64 (X e j))) := hr
    have hha : Hid (∀ j, j < an → w.cell? ⟨ab, ao + j, none⟩ = some (.int .i64 (A j))) := ha
    have hhra : Hid (∀ e, e < gn → 0 < rn e → ra e = some ⟨rb e, ro e, none⟩ ∧ rb e < w.heap.size) := hra
    clear hq1 hq2 hcall hg hr ha hra hchk
    dsimp only [List.take, List.drop]
    refine wpQuiet_step (fun K hK => ?_)
    go_simp
    refine ⟨_, fun v hv => rfl, hK _ ?_⟩
    clear hK K
    refine wpQuiet_step (fun K hK => ?_)
    go_simp
    refine ⟨_, fun v hv => rfl, hK _ ?_⟩
    clear hK K
    refine wpQuiet_step (fun K hK => ?_)
    go_simp
    refine ⟨_, fun v hv => rfl, hK _ ?_⟩
    clear hK K
    refine wpQuiet_step (fun K hK => ?_)
    go_simp
    refine ⟨.agg #[.string sCake, .string sGoods, .string sRent, .string sSettle], fun v hv => (show ∀ v, Cq v → Calls Tryz.prog 57 #[] v fun e w' => e = .returned (.agg #[.string sCake, .string sGoods, .string sRent, .string sSettle]) ∧ Cq w' from hcl) v hv, hK _ ?_⟩
    clear hK K
    refine wpQuiet_step (fun K hK => ?_)
    go_simp
    refine ⟨_, fun v hv => rfl, hK _ ?_⟩
    clear hK K
    refine wpQuiet_step (fun K hK => ?_)
    go_simp
    refine ⟨.int .u8 2, fun v hv => ?_, hK _ ?_⟩
    · rw [(show ∀ v, Cq v → v.cell? ⟨w.heap.size, 0, none⟩ = some (.int .u8 2) from hld) v hv]
      exact ⟨rfl, rfl⟩
    clear hK K
    refine wpQuiet_step (fun K hK => ?_)
    go_simp
    refine ⟨_, fun v hv => rfl, hK _ ?_⟩
    clear hK K
    refine wpQuiet_step (fun K hK => ?_)
    go_simp
    refine ⟨.string sGoods, fun v hv => ?_, hK _ ?_⟩
    · rw [idx_goods v]
      exact ⟨rfl, rfl⟩
    clear hK K
    refine wpQuiet_step (fun K hK => ?_)
    go_simp
    refine ⟨.string (sDocument ++ sGoods), fun v hv => ?_, hK _ ?_⟩
    · rw [if_neg (show ¬ 9223372036854775807 < 9 + sGoods.size by have : sGoods.size = 5 := rfl; omega)]
      exact ⟨rfl, rfl⟩
    clear hK K
    refine wpQuiet_step (fun K hK => ?_)
    go_simp
    refine ⟨.string (sDocument ++ sGoods ++ ⟨#[10]⟩), fun v hv => ?_, hK _ ?_⟩
    · rw [if_neg (show ¬ 9223372036854775807 < sDocument.size + sGoods.size + 1 by have : sGoods.size = 5 := rfl; have : sDocument.size = 9 := rfl; omega)]
      exact ⟨rfl, rfl⟩
    clear hK K
    refine wpQuiet_nil ?_
    intro w3 h3
    have h3' : WrI w2 b [] w3 := (show ∀ v, Cq v → WrI w2 b [] v from hq) w3 h3
    have hsz : ([] : List UInt8).length + (sDocument ++ sGoods ++ ⟨#[10]⟩).size ≤ 140737488355328 := by decide
    have hS : [] ++ by_ (sDocument ++ sGoods ++ ⟨#[10]⟩) = hdL sGoods := by rw [by_app, by_app]; rfl
    generalize sDocument ++ sGoods ++ ⟨#[10]⟩ = S at *
    clear hq hcl hld h3
    go_wp2_with (first | (go_at_call 56; refine (write_I h3' hb2 S hsz).mono ?_))
    rintro e w4 ⟨rfl, h4⟩
    rw [hS] at h4
    clear hS hsz h3'
    have f0 : w4.cell? ⟨w.heap.size, 0, none⟩ = some (.int .u8 2) := by rw [Lib.cell_of_heap (hbox2 w4 h4.bel)]; rfl
    have f5 : w4.cell? ⟨w.heap.size, 5, none⟩ = some (.slice ga gn gc) := by rw [Lib.cell_of_heap (hbox2 w4 h4.bel)]; rfl
    go_wp2
    have hL : ∀ k, k ≤ gn → (hdL sGoods ++ lnL sValues X rn k).length ≤ 40000000 := fun k hk => by
      have h1 := lnL_len (word := sValues) (by decide) hX k (fun e he => hl2 e (by omega))
      have h2 : (hdL sGoods).length = 15 := rfl
      have h3 : k * 30000 ≤ 1000 * 30000 := Nat.mul_le_mul_right _ (by omega)
      rw [List.length_append]
      omega
    have hold : ∀ v, Below b w2 v → ∀ p : Addr, p.block < w.heap.size → v.cell? p = w.cell? p := fun v hv p hp => (hbv v hv).cell hp
    have hh1 : Hid (∀ v, Below b w2 v → ∀ p : Addr, p.block < w.heap.size → v.cell? p = w.cell? p) := hold
    have hh2 : Hid (∀ v, Below b w2 v → v.heap[w.heap.size]? = some (.cells #[.int .u8 2, c1, c2, .int .u8 pc, c4, .slice ga gn gc, .slice aa an ac, c7, .int .i64 rr, c9, c10, .int .i64 ld, c12, c13, .int .u8 cl] 41 (0, 0))) := hbox2
    clear hold hbox2 f0 f5
    go_loopw [43] (fun i wr => ∃ k : Nat, i = .int .i64 k ∧ k ≤ gn ∧ WrI w2 b (hdL sGoods ++ lnL sValues X rn k) wr) (fun i _ => gn - (RowKit.intOf i).toNat)
    case atStart =>
      exact ⟨0, rfl, Nat.zero_le _, by simpa [lnL] using h4⟩
    case round =>
      obtain ⟨k, rfl, hk, h5⟩ := hrel
      by_cases hp : k < gn
      · have ha' := hga (by omega)
        have hgb' := hgb (by omega)
        subst ha'
        have d0 : wr.cell? ⟨gb, goff + k, none⟩ = some (.slice (ra k) (rn k) (rcp k)) := by
          rw [(show ∀ v, Below b w2 v → ∀ p : Addr, p.block < w.heap.size → v.cell? p = w.cell? p from hh1) wr h5.bel ⟨gb, goff + k, none⟩ hgb']
          exact (show ∀ e, e < gn → w.cell? ⟨gb, goff + e, none⟩ = some (.slice (ra e) (rn e) (rcp e)) from hhg) k hp
        have e1 : 0 < rn k → ra k = some ⟨rb k, ro k, none⟩ := fun h => ((show ∀ e, e < gn → 0 < rn e → ra e = some ⟨rb e, ro e, none⟩ ∧ rb e < w.heap.size from hhra) k hp h).1
        have e2 : 0 < rn k → rb k < b := fun h => Nat.lt_trans ((show ∀ e, e < gn → 0 < rn e → ra e = some ⟨rb e, ro e, none⟩ ∧ rb e < w.heap.size from hhra) k hp h).2 (by omega)
        have e3 : Hid (∀ j, j < rn k → w2.cell? ⟨rb k, ro k + j, none⟩ = some (.int .i64 (X k j))) := fun j hj => by
          rw [(show ∀ v, Below b w2 v → ∀ p : Addr, p.block < w.heap.size → v.cell? p = w.cell? p from hh1) w2 (Below.refl _ _) ⟨rb k, ro k + j, none⟩ ((show ∀ e, e < gn → 0 < rn e → ra e = some ⟨rb e, ro e, none⟩ ∧ rb e < w.heap.size from hhra) k hp (by omega)).2]
          exact (show ∀ e, e < gn → ∀ j, j < rn e → w.cell? ⟨rb e, ro e + j, none⟩ = some (.int .i64 (X e j)) from hhr) k hp j hj
        have e4 : (hdL sGoods ++ lnL sValues X rn k).length + sValues.size + rn k * 22 ≤ 1000000000000 := by
          have h1 := hL k (by omega)
          have h2 := hl2 k hp
          have h3 : sValues.size = 6 := rfl
          omega
        go_wp2_with (first | (go_at_call 59; refine (ints_old h5 hW2 hb2 sValues (ra k) (rb k) (ro k) (rn k) (rcp k) (X k) e1 (hX k) e2 e3 e4).mono ?_; rintro e w6 ⟨rfl, h6⟩))
        go_wp2
        go_roundw
        case rel =>
          refine ⟨k + 1, by go_num, by omega, ?_⟩
          rw [show lnL sValues X rn (k + 1) = lnL sValues X rn k ++ (by_ sValues ++ nuL (X k) (rn k) ++ [10]) from rfl]
          rw [show hdL sGoods ++ (lnL sValues X rn k ++ (by_ sValues ++ nuL (X k) (rn k) ++ [10])) = hdL sGoods ++ lnL sValues X rn k ++ by_ sValues ++ nuL (X k) (rn k) ++ [10] by simp only [List.append_assoc]]
          exact h6
        case measure =>
          simp [RowKit.intOf]
          omega
      · have hkn : k = gn := by omega
        subst hkn
        have f6 : wr.cell? ⟨w.heap.size, 6, none⟩ = some (.slice aa an ac) := by
          rw [Lib.cell_of_heap ((show ∀ v, Below b w2 v → v.heap[w.heap.size]? = some (.cells #[.int .u8 2, c1, c2, .int .u8 pc, c4, .slice ga k gc, .slice aa an ac, c7, .int .i64 rr, c9, c10, .int .i64 ld, c12, c13, .int .u8 cl] 41 (0, 0)) from hh2) wr h5.bel)]; rfl
        have e1 : 0 < an → aa = some ⟨ab, ao, none⟩ := fun h => (haa h).1
        have e2 : 0 < an → ab < b := fun h => Nat.lt_trans (haa h).2 (by omega)
        have e3 : Hid (∀ j, j < an → w2.cell? ⟨ab, ao + j, none⟩ = some (.int .i64 (A j))) := fun j hj => by
          rw [(show ∀ v, Below b w2 v → ∀ p : Addr, p.block < w.heap.size → v.cell? p = w.cell? p from hh1) w2 (Below.refl _ _) ⟨ab, ao + j, none⟩ (haa (by omega)).2]
          exact (show ∀ j, j < an → w.cell? ⟨ab, ao + j, none⟩ = some (.int .i64 (A j)) from hha) j hj
        have e4 : (hdL sGoods ++ lnL sValues X rn k).length + sGive.size + an * 22 ≤ 1000000000000 := by
          have h1 := hL k (by omega)
          have h3 : sGive.size = 4 := rfl
          omega
        have hbx : Hid (∀ v L, WrI w2 b L v → v.cell? ⟨w.heap.size, 14, none⟩ = some (.int .u8 cl) ∧ v.cell? ⟨w.heap.size, 3, none⟩ = some (.int .u8 pc)) := fun v L hv => by
          rw [Lib.cell_of_heap ((show ∀ v, Below b w2 v → v.heap[w.heap.size]? = some (.cells #[.int .u8 2, c1, c2, .int .u8 pc, c4, .slice ga k gc, .slice aa an ac, c7, .int .i64 rr, c9, c10, .int .i64 ld, c12, c13, .int .u8 cl] 41 (0, 0)) from hh2) v hv.bel), Lib.cell_of_heap ((show ∀ v, Below b w2 v → v.heap[w.heap.size]? = some (.cells #[.int .u8 2, c1, c2, .int .u8 pc, c4, .slice ga k gc, .slice aa an ac, c7, .int .i64 rr, c9, c10, .int .i64 ld, c12, c13, .int .u8 cl] 41 (0, 0)) from hh2) v hv.bel)]
          exact ⟨rfl, rfl⟩
        have i1 : ∀ j : Nat, iR ((fun _ : Nat => cl + pc) j) = true := fun j => iR_iff.2 ⟨by dsimp only; omega, by dsimp only; omega⟩
        have i2 : Hid (∀ j, j < 1 → (#[Value.int .i64 (cl + pc)] : Array Value)[j]? = some (.int .i64 ((fun _ : Nat => cl + pc) j))) := fun j hj => by
          have : j = 0 := by omega
          subst this; rfl
        have i3 : (hdL sGoods ++ lnL sValues X rn k ++ by_ sGive ++ nuL A an ++ [10]).length + sClaims.size + 1 * 22 ≤ 1000000000000 := by
          have h1 := nuL_len hA an
          have h2 := hL k (by omega)
          have h3 : sClaims.size = 6 := rfl
          have h4 : (by_ sGive).length = 4 := rfl
          rw [List.length_append, List.length_append, List.length_append, List.length_singleton]
          omega
        clear hL
        have f0 : Hid (b < w2.heap.size) := hb3
        clear hb3
        go_wp2_with (first | (go_at_call 59; refine (ints_old h5 hW2 hb2 sGive aa ab ao an ac A e1 hA e2 e3 e4).mono ?_))
        rintro e w6 rfl h6
        clear e1 e2 e3 e4
        obtain ⟨L6, hL6⟩ : ∃ L6, L6 = hdL sGoods ++ (lnL sValues X rn k ++ (by_ sGive ++ (nuL A an ++ [10]))) := ⟨_, rfl⟩
        rw [← hL6] at h6
        have hT2 : Hid (L6 ++ by_ sClaims ++ nuL (fun _ => cl + pc) 1 ++ [10] = goT X rn k A an (cl + pc)) := by
          show _ = _
          rw [hL6]; simp only [goT, clL, List.append_assoc]
        have i3' : L6.length + sClaims.size + 1 * 22 ≤ 1000000000000 := by
          rw [hL6]; simp only [List.append_assoc] at i3; exact i3
        clear i3 hL6
        obtain ⟨f14, f3⟩ := (show ∀ v L, WrI w2 b L v → v.cell? ⟨w.heap.size, 14, none⟩ = some (.int .u8 cl) ∧ v.cell? ⟨w.heap.size, 3, none⟩ = some (.int .u8 pc) from hbx) w6 _ h6
        have i4 : w6.heap.size ≠ b := by have := h6.bel.size; have h : b < w2.heap.size := f0; omega
        have h6a := h6.alloc hb2 (.cells #[.int .i64 (cl + pc)] 3)
        have h6n : Hid ((w6.alloc (.cells #[.int .i64 (cl + pc)] 3)).heap[w6.heap.size]? = some (.cells #[.int .i64 (cl + pc)] 3 (0, 0))) := alloc_new w6 _
        go_wp2_with (first | (go_at_call 59; refine (ints_new h6a hW2 hb2 sClaims w6.heap.size 1 1 (fun _ => cl + pc) #[.int .i64 (cl + pc)] (0, 0) i1 i4 h6n i2 i3').mono ?_))
        rintro e w7 ⟨rfl, h7⟩
        obtain ⟨T, hT⟩ : ∃ T, T = L6 ++ by_ sClaims ++ nuL (fun _ => cl + pc) 1 ++ [10] := ⟨_, rfl⟩
        rw [← hT] at h7
        have hT3 : Hid (goT X rn k A an (cl + pc) = T) := by
          show _ = _
          rw [hT]; exact (show L6 ++ by_ sClaims ++ nuL (fun _ => cl + pc) 1 ++ [10] = goT X rn k A an (cl + pc) from hT2).symm
        have hne : T ≠ [] := by rw [hT]; simp
        have hbz : Below w.heap.size w w7 := hbv w7 h7.bel
        clear hT hT2 f14 f3 h6 h6a h6n i1 i2 i3' i4 hbx
        go_wp2_with (first | (go_at_call 60; refine (wr_len b b T _ h7.bld).mono ?_))
        rintro e w8 ⟨rfl, rfl⟩
        have hfin : Hid (∀ v, Below b w8 v → Below w.heap.size w v) := fun v hv => hbz.trans (hv.mono (by omega))
        by_cases hbig : 60000 < T.length
        · have hdb : decide (60000 < T.length) = true := decide_eq_true hbig
          have hd2 : Hid (decide (60000 < T.length) = true) := hdb
          clear hdb
          go_wp2
          go_ret2
          rw [show goT X rn k A an (cl + pc) = T from hT3]
          unfold txS txE
          rw [show decide (60000 < T.length) = true from hd2]
          exact ⟨rfl, hbz⟩
        · have hd2 : Hid (decide (60000 < T.length) = false) := decide_eq_false hbig
          go_wp2_with (first | (go_at_call 61; refine (wr_text b b T _ h7.bld hne).mono ?_))
          rintro e w9 ⟨rfl, h9⟩
          go_wp2
          go_ret2
          rw [show goT X rn k A an (cl + pc) = T from hT3]
          unfold txS txE
          rw [show decide (60000 < T.length) = false from hd2]
          exact ⟨rfl, (show ∀ v, Below b w8 v → Below w.heap.size w v from hfin) w9 h9⟩
end Go.Proofs.YtlfeobdfgmlmpaaGreatDoor
/- The text of a settlement, walked. No conditions. -/
namespace Go.Proofs.YtlfeobdfgmlmpaaGreatDoor
open Go.Ev Go.RowKit Go.Lib
set_option linter.all false
/-- The text of a settlement. -/
def seT (A : Nat → Int) (an : Nat) (P : Nat → Nat → Int) (pn : Nat) (c : Int) : List UInt8 := hdL sSettle ++ (by_ sBalances ++ nuL A an ++ [10]) ++ lnL sPay P (fun _ => 3) pn ++ clL c
set_option maxHeartbeats 4000000 in
set_option maxRecDepth 1000000 in
theorem settle_walk (w : World) (c1 c2 c4 c5 c6 c7 c9 c10 : Value) (pc rr ld cl : Int) (ga aa : Option Addr) (gn gc an ac gb goff ab ao : Nat) (P : Nat → Nat → Int) (A : Nat → Int) (ec : Int)
    (hchk : ∀ w', Below w.heap.size w w' → Calls Tryz.prog 13 #[.agg #[.int .u8 4, c1, c2, .int .u8 pc, c4, c5, c6, c7, .int .i64 rr, c9, c10, .int .i64 ld, .slice aa an ac, .slice ga gn gc, .int .u8 cl]] w' fun e w'' => e = .returned (.int .i64 ec) ∧ Below w'.heap.size w' w'')
    (hWd : ∀ w', Below w.heap.size w w' → Wd w')
    (hga : 0 < gn → ga = some ⟨gb, goff, none⟩) (hgb : 0 < gn → gb < w.heap.size) (hg : ∀ e, e < gn → ∀ i, i < 3 → w.cell? ⟨gb, goff + e * 3 + i, none⟩ = some (.int .i64 (P e i)))
    (haa : 0 < an → aa = some ⟨ab, ao, none⟩ ∧ ab < w.heap.size) (ha : ∀ j, j < an → w.cell? ⟨ab, ao + j, none⟩ = some (.int .i64 (A j)))
    (hX : ∀ e j, iR (P e j) = true) (hA : ∀ j, iR (A j) = true) (hl : ec = 0 → gn ≤ 1000 ∧ an ≤ 1000) (hc : ec = 0 → 0 ≤ pc ∧ pc ≤ 255 ∧ 0 ≤ cl ∧ cl ≤ 255) :
    Calls Tryz.prog 38 #[.agg #[.int .u8 4, c1, c2, .int .u8 pc, c4, c5, c6, c7, .int .i64 rr, c9, c10, .int .i64 ld, .slice aa an ac, .slice ga gn gc, .int .u8 cl]] w fun e w' => e = .returned (.tuple #[.string (txS ec (seT A an P gn (cl + pc))), .int .i64 (txE ec (seT A an P gn (cl + pc)))]) ∧ Below w.heap.size w w' := by
  have mx : Tryz.prog.follows .mixedOrders = true := mixed
  go_enter Tryz.func38, Tryz.ntmps38
  go_wp2_with (first | (go_at_call 13; refine (hchk _ ?_).mono ?_))
  · exact (Below.refl _ w).alloc (Nat.le_refl _) _
  rintro e w1 ⟨rfl, hb1⟩
  by_cases hec : ec = 0
  rotate_left
  · have hec2 : (ec != 0) = true := by simpa using hec
    go_wp2
    go_ret2
    unfold txS txE
    rw [hec2]
    exact ⟨rfl, ((Below.refl _ w).alloc (Nat.le_refl _) _).trans (hb1.mono (by simp))⟩
  · obtain ⟨hl1, hl3⟩ := hl hec
    obtain ⟨p0, p1, q0, q1⟩ := hc hec
    subst hec
    clear hl hc
    go_wp2
    have hb0 : Below w.heap.size w w1 := ((Below.refl _ w).alloc (Nat.le_refl _) _).trans (hb1.mono (Nat.le_of_lt (alloc_lt w _)))
    have hN : w.heap.size < w1.heap.size := Nat.lt_of_lt_of_le (alloc_lt w _) hb1.size
    have hbox : w1.heap[w.heap.size]? = some (.cells #[.int .u8 4, c1, c2, .int .u8 pc, c4, c5, c6, c7, .int .i64 rr, c9, c10, .int .i64 ld, .slice aa an ac, .slice ga gn gc, .int .u8 cl] 41 (0, 0)) := by
      rw [hb1.block w.heap.size (alloc_lt w _)]
      exact alloc_new w _
    obtain ⟨w2, hw2⟩ : ∃ w2, w2 = w1.alloc (.cells #[.pointer none, .slice none 0 0] 127) := ⟨_, rfl⟩
    have hI0 : WrI w2 w1.heap.size [] w2 := ⟨Below.refl _ _, Lib.OthersKept.refl _ _ _, by rw [hw2]; exact Lib.IsBuilderF.of (Lib.fresh_isBuilder 127 5 w1)⟩
    have hb3 : w1.heap.size < w2.heap.size := by rw [hw2]; exact alloc_lt w1 _
    have hb2 : w1.heap.size ≤ w2.heap.size := by rw [hw2]; exact Nat.le_of_lt (alloc_lt w1 _)
    have hbel2 : ∀ k, k < w1.heap.size → w2.heap[k]? = w1.heap[k]? := fun k hk => by rw [hw2]; exact Below.heap_alloc w1 _ k hk
    have hbox2 : ∀ v, Below w1.heap.size w2 v → v.heap[w.heap.size]? = some (.cells #[.int .u8 4, c1, c2, .int .u8 pc, c4, c5, c6, c7, .int .i64 rr, c9, c10, .int .i64 ld, .slice aa an ac, .slice ga gn gc, .int .u8 cl] 41 (0, 0)) := fun v hv => by
      rw [hv.block _ hN, hbel2 _ hN]; exact hbox
    have hbv : ∀ v, Below w1.heap.size w2 v → Below w.heap.size w v := fun v hv => hb0.trans (((Below.refl _ w1).alloc (Nat.le_refl _) _).trans (hw2 ▸ hv) |>.mono (by omega))
    have hW2 : ∀ v, Below w1.heap.size w2 v → Wd v := fun v hv => hWd v (hbv v hv)
    rw [← hw2]
    clear hw2 hbel2
    generalize hbb : w1.heap.size = b at *
    obtain ⟨Cq, hq1, hq2⟩ : ∃ Cq : World → Prop, (∀ v, Cq v → WrI w2 b [] v) ∧ ∀ v, WrI w2 b [] v → Cq v := ⟨fun v => WrI w2 b [] v, fun _ h => h, fun _ h => h⟩
    refine wp_region_quiet_tail (C := Cq) 10 mx (by kernel_rfl) (hq2 w2.drew hI0.drew) ?_
    have hq : Hid (∀ v, Cq v → WrI w2 b [] v) := hq1
    have hcall : ∀ v, Cq v → Calls Tryz.prog 57 #[] v fun e w' => e = .returned (.agg #[.string sCake, .string sGoods, .string sRent, .string sSettle]) ∧ Cq w' := fun v hv => (kinds_I (hq1 v hv) hb2).mono fun e w' ⟨he, h⟩ => ⟨he, hq2 _ h⟩
    have hcl : Hid (∀ v, Cq v → Calls Tryz.prog 57 #[] v fun e w' => e = .returned (.agg #[.string sCake, .string sGoods, .string sRent, .string sSettle]) ∧ Cq w') := hcall
    have hld : Hid (∀ v, Cq v → v.cell? ⟨w.heap.size, 0, none⟩ = some (.int .u8 4)) := fun v hv => by rw [Lib.cell_of_heap (hbox2 v (hq1 v hv).bel)]; rfl
    have hhg : Hid (∀ e, e < gn → ∀ i, i < 3 → w.cell? ⟨gb, goff + e * 3 + i, none⟩ = some (.int .i64 (P e i))) := hg
    have hha : Hid (∀ j, j < an → w.cell? ⟨ab, ao + j, none⟩ = some (.int .i64 (A j))) := ha
    clear hq1 hq2 hcall hg ha hchk
    dsimp only [List.take, List.drop]
    refine wpQuiet_step (fun K hK => ?_)
    go_simp
    refine ⟨_, fun v hv => rfl, hK _ ?_⟩
    clear hK K
    refine wpQuiet_step (fun K hK => ?_)
    go_simp
    refine ⟨_, fun v hv => rfl, hK _ ?_⟩
    clear hK K
    refine wpQuiet_step (fun K hK => ?_)
    go_simp
    refine ⟨_, fun v hv => rfl, hK _ ?_⟩
    clear hK K
    refine wpQuiet_step (fun K hK => ?_)
    go_simp
    refine ⟨.agg #[.string sCake, .string sGoods, .string sRent, .string sSettle], fun v hv => (show ∀ v, Cq v → Calls Tryz.prog 57 #[] v fun e w' => e = .returned (.agg #[.string sCake, .string sGoods, .string sRent, .string sSettle]) ∧ Cq w' from hcl) v hv, hK _ ?_⟩
    clear hK K
    refine wpQuiet_step (fun K hK => ?_)
    go_simp
    refine ⟨_, fun v hv => rfl, hK _ ?_⟩
    clear hK K
    refine wpQuiet_step (fun K hK => ?_)
    go_simp
    refine ⟨.int .u8 4, fun v hv => ?_, hK _ ?_⟩
    · rw [(show ∀ v, Cq v → v.cell? ⟨w.heap.size, 0, none⟩ = some (.int .u8 4) from hld) v hv]
      exact ⟨rfl, rfl⟩
    clear hK K
    refine wpQuiet_step (fun K hK => ?_)
    go_simp
    refine ⟨_, fun v hv => rfl, hK _ ?_⟩
    clear hK K
    refine wpQuiet_step (fun K hK => ?_)
    go_simp
    refine ⟨.string sSettle, fun v hv => ?_, hK _ ?_⟩
    · rw [idx_settle v]
      exact ⟨rfl, rfl⟩
    clear hK K
    refine wpQuiet_step (fun K hK => ?_)
    go_simp
    refine ⟨.string (sDocument ++ sSettle), fun v hv => ?_, hK _ ?_⟩
    · rw [if_neg (show ¬ 9223372036854775807 < 9 + sSettle.size by have : sSettle.size = 6 := rfl; omega)]
      exact ⟨rfl, rfl⟩
    clear hK K
    refine wpQuiet_step (fun K hK => ?_)
    go_simp
    refine ⟨.string (sDocument ++ sSettle ++ ⟨#[10]⟩), fun v hv => ?_, hK _ ?_⟩
    · rw [if_neg (show ¬ 9223372036854775807 < sDocument.size + sSettle.size + 1 by have : sSettle.size = 6 := rfl; have : sDocument.size = 9 := rfl; omega)]
      exact ⟨rfl, rfl⟩
    clear hK K
    refine wpQuiet_nil ?_
    intro w3 h3
    have h3' : WrI w2 b [] w3 := (show ∀ v, Cq v → WrI w2 b [] v from hq) w3 h3
    have hsz : ([] : List UInt8).length + (sDocument ++ sSettle ++ ⟨#[10]⟩).size ≤ 140737488355328 := by decide
    have hS : [] ++ by_ (sDocument ++ sSettle ++ ⟨#[10]⟩) = hdL sSettle := by rw [by_app, by_app]; rfl
    generalize sDocument ++ sSettle ++ ⟨#[10]⟩ = S at *
    clear hq hcl hld h3
    go_wp2_with (first | (go_at_call 56; refine (write_I h3' hb2 S hsz).mono ?_))
    rintro e w4 ⟨rfl, h4⟩
    rw [hS] at h4
    clear hS hsz h3'
    have f0 : w4.cell? ⟨w.heap.size, 0, none⟩ = some (.int .u8 4) := by rw [Lib.cell_of_heap (hbox2 w4 h4.bel)]; rfl
    have f12 : w4.cell? ⟨w.heap.size, 12, none⟩ = some (.slice aa an ac) := by rw [Lib.cell_of_heap (hbox2 w4 h4.bel)]; rfl
    have e1 : 0 < an → aa = some ⟨ab, ao, none⟩ := fun h => (haa h).1
    have e2 : 0 < an → ab < b := fun h => Nat.lt_trans (haa h).2 (by omega)
    have hold : ∀ v, Below b w2 v → ∀ p : Addr, p.block < w.heap.size → v.cell? p = w.cell? p := fun v hv p hp => (hbv v hv).cell hp
    have hh1 : Hid (∀ v, Below b w2 v → ∀ p : Addr, p.block < w.heap.size → v.cell? p = w.cell? p) := hold
    have hh2 : Hid (∀ v, Below b w2 v → v.heap[w.heap.size]? = some (.cells #[.int .u8 4, c1, c2, .int .u8 pc, c4, c5, c6, c7, .int .i64 rr, c9, c10, .int .i64 ld, .slice aa an ac, .slice ga gn gc, .int .u8 cl] 41 (0, 0))) := hbox2
    have e3 : Hid (∀ j, j < an → w2.cell? ⟨ab, ao + j, none⟩ = some (.int .i64 (A j))) := fun j hj => by
      rw [(show ∀ v, Below b w2 v → ∀ p : Addr, p.block < w.heap.size → v.cell? p = w.cell? p from hh1) w2 (Below.refl _ _) ⟨ab, ao + j, none⟩ (haa (by omega)).2]
      exact (show ∀ j, j < an → w.cell? ⟨ab, ao + j, none⟩ = some (.int .i64 (A j)) from hha) j hj
    have e4 : (hdL sSettle).length + sBalances.size + an * 22 ≤ 1000000000000 := by
      have h2 : (hdL sSettle).length = 16 := rfl
      have h3 : sBalances.size = 8 := rfl
      omega
    clear hold hbox2
    go_wp2_with (first | (go_at_call 59; refine (ints_old h4 hW2 hb2 sBalances aa ab ao an ac A e1 hA e2 e3 e4).mono ?_))
    rintro e w5 ⟨rfl, h5⟩
    clear e1 e2 e3 e4 f12 f0
    have f13 : w5.cell? ⟨w.heap.size, 13, none⟩ = some (.slice ga gn gc) := by rw [Lib.cell_of_heap ((show ∀ v, Below b w2 v → v.heap[w.heap.size]? = some (.cells #[.int .u8 4, c1, c2, .int .u8 pc, c4, c5, c6, c7, .int .i64 rr, c9, c10, .int .i64 ld, .slice aa an ac, .slice ga gn gc, .int .u8 cl] 41 (0, 0)) from hh2) w5 h5.bel)]; rfl
    obtain ⟨L5, hL5⟩ : ∃ L5, L5 = hdL sSettle ++ by_ sBalances ++ nuL A an ++ [10] := ⟨_, rfl⟩
    rw [← hL5] at h5
    have hLl : L5.length ≤ 1000000 := by
      have h1 := nuL_len hA an
      have h2 : (hdL sSettle).length = 16 := rfl
      have h3 : (by_ sBalances).length = 8 := rfl
      rw [hL5, List.length_append, List.length_append, List.length_append, List.length_singleton]
      omega
    have hL5' : Hid (L5 = hdL sSettle ++ by_ sBalances ++ nuL A an ++ [10]) := hL5
    clear hL5
    go_wp2
    clear f13
    go_loopw [99] (fun i wr => ∃ k : Nat, i = .int .i64 k ∧ k ≤ gn ∧ WrI w2 b (L5 ++ lnL sPay P (fun _ => 3) k) wr) (fun i _ => gn - (RowKit.intOf i).toNat)
    case atStart =>
      exact ⟨0, rfl, Nat.zero_le _, by simpa [lnL] using h5⟩
    case round =>
      obtain ⟨k, rfl, hk, h6⟩ := hrel
      by_cases hp : k < gn
      · have ha' := hga (by omega)
        have hgb' := hgb (by omega)
        subst ha'
        have hd : Hid (∀ i, i < 3 → wr.cell? ⟨gb, goff + k * 3 + i, none⟩ = some (.int .i64 (P k i))) := fun i hi => by
          rw [(show ∀ v, Below b w2 v → ∀ p : Addr, p.block < w.heap.size → v.cell? p = w.cell? p from hh1) wr h6.bel ⟨gb, goff + k * 3 + i, none⟩ hgb']
          exact (show ∀ e, e < gn → ∀ i, i < 3 → w.cell? ⟨gb, goff + e * 3 + i, none⟩ = some (.int .i64 (P e i)) from hhg) k hp i hi
        have d0 : wr.cell? ⟨gb, goff + k * 3, none⟩ = some (.int .i64 (P k 0)) := (show ∀ i, i < 3 → wr.cell? ⟨gb, goff + k * 3 + i, none⟩ = some (.int .i64 (P k i)) from hd) 0 (by omega)
        have d1 : wr.cell? ⟨gb, goff + k * 3 + 1, none⟩ = some (.int .i64 (P k 1)) := (show ∀ i, i < 3 → wr.cell? ⟨gb, goff + k * 3 + i, none⟩ = some (.int .i64 (P k i)) from hd) 1 (by omega)
        have d2 : wr.cell? ⟨gb, goff + k * 3 + 2, none⟩ = some (.int .i64 (P k 2)) := (show ∀ i, i < 3 → wr.cell? ⟨gb, goff + k * 3 + i, none⟩ = some (.int .i64 (P k i)) from hd) 2 (by omega)
        have h6a := (h6.alloc hb2 (.cells #[.int .i64 (P k 0), .int .i64 (P k 1), .int .i64 (P k 2)] 120)).alloc hb2 (.cells #[.int .i64 (P k 0), .int .i64 (P k 1), .int .i64 (P k 2)] 3)
        have hs1 : (wr.alloc (.cells #[.int .i64 (P k 0), .int .i64 (P k 1), .int .i64 (P k 2)] 120)).heap.size = wr.heap.size + 1 := by
          show (wr.heap.push _).size = _
          simp
        have h6n : Hid (((wr.alloc (.cells #[.int .i64 (P k 0), .int .i64 (P k 1), .int .i64 (P k 2)] 120)).alloc (.cells #[.int .i64 (P k 0), .int .i64 (P k 1), .int .i64 (P k 2)] 3)).heap[wr.heap.size + 1]? = some (.cells #[.int .i64 (P k 0), .int .i64 (P k 1), .int .i64 (P k 2)] 3 (0, 0))) := by
          have := alloc_new (wr.alloc (.cells #[.int .i64 (P k 0), .int .i64 (P k 1), .int .i64 (P k 2)] 120)) (.cells #[.int .i64 (P k 0), .int .i64 (P k 1), .int .i64 (P k 2)] 3)
          rw [hs1] at this
          exact this
        have i4 : wr.heap.size + 1 ≠ b := by have := h6.bel.size; omega
        have i2 : Hid (∀ j, j < 3 → (#[Value.int .i64 (P k 0), Value.int .i64 (P k 1), Value.int .i64 (P k 2)] : Array Value)[j]? = some (.int .i64 (P k j))) := fun j hj => by
          match j, hj with
          | 0, _ => rfl
          | 1, _ => rfl
          | 2, _ => rfl
        have i3 : (L5 ++ lnL sPay P (fun _ => 3) k).length + sPay.size + 3 * 22 ≤ 1000000000000 := by
          have h1 := lnL_len (word := sPay) (by decide) hX k (n := fun _ => 3) (fun e he => (by show (3 : Nat) ≤ 1000; omega))
          have h2 : k * 30000 ≤ 1000 * 30000 := Nat.mul_le_mul_right _ (by omega)
          have h3 : sPay.size = 3 := rfl
          rw [List.length_append]
          omega
        clear hs1
        go_wp2_with (first | (go_at_call 59; refine (ints_new h6a hW2 hb2 sPay (wr.heap.size + 1) 3 3 (P k) #[.int .i64 (P k 0), .int .i64 (P k 1), .int .i64 (P k 2)] (0, 0) (hX k) i4 h6n i2 i3).mono ?_))
        rintro e w7 rfl h7
        clear h6n h6a i4 i2 i3
        go_wp2
        go_roundw
        case rel =>
          refine ⟨k + 1, by go_num, by omega, ?_⟩
          rw [show lnL sPay P (fun _ => 3) (k + 1) = lnL sPay P (fun _ => 3) k ++ (by_ sPay ++ nuL (P k) 3 ++ [10]) from rfl]
          simpa only [List.append_assoc] using h7
        case measure =>
          simp [RowKit.intOf]
          omega
      · have hkn : k = gn := by omega
        subst hkn
        have hbx : Hid (∀ v L, WrI w2 b L v → v.cell? ⟨w.heap.size, 14, none⟩ = some (.int .u8 cl) ∧ v.cell? ⟨w.heap.size, 3, none⟩ = some (.int .u8 pc)) := fun v L hv => by
          rw [Lib.cell_of_heap ((show ∀ v, Below b w2 v → v.heap[w.heap.size]? = some (.cells #[.int .u8 4, c1, c2, .int .u8 pc, c4, c5, c6, c7, .int .i64 rr, c9, c10, .int .i64 ld, .slice aa an ac, .slice ga k gc, .int .u8 cl] 41 (0, 0)) from hh2) v hv.bel), Lib.cell_of_heap ((show ∀ v, Below b w2 v → v.heap[w.heap.size]? = some (.cells #[.int .u8 4, c1, c2, .int .u8 pc, c4, c5, c6, c7, .int .i64 rr, c9, c10, .int .i64 ld, .slice aa an ac, .slice ga k gc, .int .u8 cl] 41 (0, 0)) from hh2) v hv.bel)]
          exact ⟨rfl, rfl⟩
        have i1 : ∀ j : Nat, iR ((fun _ : Nat => cl + pc) j) = true := fun j => iR_iff.2 ⟨by dsimp only; omega, by dsimp only; omega⟩
        have i2 : Hid (∀ j, j < 1 → (#[Value.int .i64 (cl + pc)] : Array Value)[j]? = some (.int .i64 ((fun _ : Nat => cl + pc) j))) := fun j hj => by
          have : j = 0 := by omega
          subst this; rfl
        obtain ⟨L6, hL6⟩ : ∃ L6, L6 = L5 ++ lnL sPay P (fun _ => 3) k := ⟨_, rfl⟩
        rw [← hL6] at h6
        have hT2 : Hid (L6 ++ by_ sClaims ++ nuL (fun _ => cl + pc) 1 ++ [10] = seT A an P k (cl + pc)) := by
          show _ = _
          rw [hL6, show L5 = hdL sSettle ++ by_ sBalances ++ nuL A an ++ [10] from hL5']; simp only [seT, clL, List.append_assoc]
        have i3' : L6.length + sClaims.size + 1 * 22 ≤ 1000000000000 := by
          have h1 := lnL_len (word := sPay) (by decide) hX k (n := fun _ => 3) (fun e he => (by show (3 : Nat) ≤ 1000; omega))
          have h2 : k * 30000 ≤ 1000 * 30000 := Nat.mul_le_mul_right _ (by omega)
          have h3 : sClaims.size = 6 := rfl
          rw [hL6, List.length_append]
          omega
        have f0 : Hid (b < w2.heap.size) := hb3
        clear hb3 hL6
        obtain ⟨f14, f3⟩ := (show ∀ v L, WrI w2 b L v → v.cell? ⟨w.heap.size, 14, none⟩ = some (.int .u8 cl) ∧ v.cell? ⟨w.heap.size, 3, none⟩ = some (.int .u8 pc) from hbx) wr _ h6
        have i4 : wr.heap.size ≠ b := by have := h6.bel.size; have h : b < w2.heap.size := f0; omega
        have h6a := h6.alloc hb2 (.cells #[.int .i64 (cl + pc)] 3)
        have h6n : Hid ((wr.alloc (.cells #[.int .i64 (cl + pc)] 3)).heap[wr.heap.size]? = some (.cells #[.int .i64 (cl + pc)] 3 (0, 0))) := alloc_new wr _
        go_wp2_with (first | (go_at_call 59; refine (ints_new h6a hW2 hb2 sClaims wr.heap.size 1 1 (fun _ => cl + pc) #[.int .i64 (cl + pc)] (0, 0) i1 i4 h6n i2 i3').mono ?_))
        rintro e w7 rfl h7
        replace h7 : WrI w2 b (L6 ++ by_ sClaims ++ nuL (fun _ => cl + pc) 1 ++ [10]) w7 := by simpa only [List.append_assoc] using h7
        obtain ⟨T, hT⟩ : ∃ T, T = L6 ++ by_ sClaims ++ nuL (fun _ => cl + pc) 1 ++ [10] := ⟨_, rfl⟩
        rw [← hT] at h7
        have hT3 : Hid (seT A an P k (cl + pc) = T) := by
          show _ = _
          rw [hT]; exact (show L6 ++ by_ sClaims ++ nuL (fun _ => cl + pc) 1 ++ [10] = seT A an P k (cl + pc) from hT2).symm
        have hne : T ≠ [] := by rw [hT]; simp
        have hbz : Below w.heap.size w w7 := hbv w7 h7.bel
        clear hT hT2 f14 f3 h6 h6a h6n i1 i2 i3' i4 hbx
        go_wp2_with (first | (go_at_call 60; refine (wr_len b b T _ h7.bld).mono ?_))
        rintro e w8 ⟨rfl, rfl⟩
        have hfin : Hid (∀ v, Below b w8 v → Below w.heap.size w v) := fun v hv => hbz.trans (hv.mono (by omega))
        by_cases hbig : 60000 < T.length
        · have hdb : decide (60000 < T.length) = true := decide_eq_true hbig
          have hd2 : Hid (decide (60000 < T.length) = true) := hdb
          clear hdb
          go_wp2
          go_ret2
          rw [show seT A an P k (cl + pc) = T from hT3]
          unfold txS txE
          rw [show decide (60000 < T.length) = true from hd2]
          exact ⟨rfl, hbz⟩
        · have hd2 : Hid (decide (60000 < T.length) = false) := decide_eq_false hbig
          go_wp2_with (first | (go_at_call 61; refine (wr_text b b T _ h7.bld hne).mono ?_))
          rintro e w9 ⟨rfl, h9⟩
          go_wp2
          go_ret2
          rw [show seT A an P k (cl + pc) = T from hT3]
          unfold txS txE
          rw [show decide (60000 < T.length) = false from hd2]
          exact ⟨rfl, (show ∀ v, Below b w8 v → Below w.heap.size w v from hfin) w9 h9⟩
end Go.Proofs.YtlfeobdfgmlmpaaGreatDoor

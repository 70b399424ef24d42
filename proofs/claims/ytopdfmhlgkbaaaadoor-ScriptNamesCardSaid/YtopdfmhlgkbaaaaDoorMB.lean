/- Texts T10 T11 T12 T13 T14 in one. No conditions. -/
import Derived.Shelf.LaysM
import Derived.Shelf.LaysC
import Derived.Shelf.Strconv.Itoa4
import Derived.Shelf.Strconv.ErrVarAll
import Derived.Shelf.Strings.Cut
import Derived.Shelf.Strings.Split
import Derived.Shelf.Strings.OnBuilder
import Derived.Shelf.Strings.BuilderK
import Derived.Lib.ItoaMem
import Derived.Lib.IndexMore
import Derived.Lib.AtoiAll
import Derived.Lib.CountLaws
import Derived.Test.YtopdfmhlgkbaaaaDoorMA
/- Functions of the library by their contracts: Itoa, Atoi, Cut, Split, Join, Builder. No conditions. -/
namespace Go.Proofs
open Go.Shelf
def Tryd.lays170_ren : Go.Shelf.Ren := ⟨fun | 170 => 26 | n => n, fun | 70 => 55 | 3 => 3 | 0 => 0 | 72 => 58 | 37 => 56 | 5 => 5 | n => n, fun | n => n⟩
theorem Tryd.lays170 : Go.Proofs.Lays.n170 Tryd.prog Tryd.lays170_ren := {
  mixed := by kernel_rfl
  f170 := Tryd.func26.trans (congrArg some (by kernel_rfl))
  t0 := Tryd.underlying0
  a0 := Tryd.isAgg0
  z0 := Tryd.sizeOf0
  v0 := Tryd.zeroValue0
  t3 := Tryd.underlying3
  a3 := Tryd.isAgg3
  z3 := Tryd.sizeOf3
  v3 := Tryd.zeroValue3
  t37 := Tryd.underlying56
  a37 := Tryd.isAgg56
  z37 := Tryd.sizeOf56
  v37 := Tryd.zeroValue56
  t70 := Tryd.underlying55
  a70 := Tryd.isAgg55
  z70 := Tryd.sizeOf55
  v70 := Tryd.zeroValue55
  t72 := Tryd.underlying58
  a72 := Tryd.isAgg58
  z72 := Tryd.sizeOf58
  v72 := Tryd.zeroValue58 }
def Tryd.lays169_ren : Go.Shelf.Ren := ⟨fun | 169 => 27 | n => n, fun | 70 => 55 | 9 => 9 | 0 => 0 | 72 => 58 | 37 => 56 | 127 => 80 | 3 => 3 | 5 => 5 | n => n, fun | n => n⟩
theorem Tryd.lays169 : Go.Proofs.Lays.n169 Tryd.prog Tryd.lays169_ren := {
  mixed := by kernel_rfl
  f169 := Tryd.func27.trans (congrArg some (by kernel_rfl))
  t0 := Tryd.underlying0
  a0 := Tryd.isAgg0
  z0 := Tryd.sizeOf0
  v0 := Tryd.zeroValue0
  t3 := Tryd.underlying3
  a3 := Tryd.isAgg3
  z3 := Tryd.sizeOf3
  v3 := Tryd.zeroValue3
  t9 := Tryd.underlying9
  a9 := Tryd.isAgg9
  z9 := Tryd.sizeOf9
  v9 := Tryd.zeroValue9
  t37 := Tryd.underlying56
  a37 := Tryd.isAgg56
  z37 := Tryd.sizeOf56
  v37 := Tryd.zeroValue56
  t70 := Tryd.underlying55
  a70 := Tryd.isAgg55
  z70 := Tryd.sizeOf55
  v70 := Tryd.zeroValue55
  t72 := Tryd.underlying58
  a72 := Tryd.isAgg58
  z72 := Tryd.sizeOf58
  v72 := Tryd.zeroValue58
  t127 := Tryd.underlying80
  a127 := Tryd.isAgg80
  z127 := Tryd.sizeOf80
  v127 := Tryd.zeroValue80 }
theorem Tryd.Builder_Extra_169 : Builder.Extra Tryd.prog Tryd.lays169_ren := {
  sizeBuilder := by kernel_rfl
  liesBuilder := by kernel_rfl
  t5 := Tryd.underlying5
  a5 := Tryd.isAgg5
  z5 := Tryd.sizeOf5
  v5 := Tryd.zeroValue5
  infoByte := by kernel_rfl
  cellsByte := by kernel_rfl
  sizeByte := by kernel_rfl
  neB5 := by decide }
def Tryd.lays156_ren : Go.Shelf.Ren := ⟨fun | 156 => 39 | 165 => 51 | 166 => 24 | 169 => 27 | 240 => 36 | 241 => 63 | 276 => 49 | 277 => 80 | n => n, fun | 31 => 42 | 9 => 9 | 3 => 3 | 4 => 4 | 0 => 0 | 20 => 20 | 72 => 58 | 76 => 61 | 70 => 55 | 37 => 56 | 75 => 60 | 127 => 80 | 164 => 89 | 5 => 5 | 80 => 65 | n => n, fun | n => n⟩
theorem Tryd.lays156 : Go.Proofs.Lays.n156 Tryd.prog Tryd.lays156_ren := {
  mixed := by kernel_rfl
  f156 := Tryd.func39.trans (congrArg some (by kernel_rfl))
  f165 := Tryd.func51.trans (congrArg some (by kernel_rfl))
  f166 := Tryd.func24.trans (congrArg some (by kernel_rfl))
  f169 := Tryd.func27.trans (congrArg some (by kernel_rfl))
  f240 := Tryd.func36.trans (congrArg some (by kernel_rfl))
  f241 := Tryd.func63.trans (congrArg some (by kernel_rfl))
  f276 := Tryd.func49.trans (congrArg some (by kernel_rfl))
  f277 := Tryd.func80.trans (congrArg some (by kernel_rfl))
  t0 := Tryd.underlying0
  a0 := Tryd.isAgg0
  z0 := Tryd.sizeOf0
  v0 := Tryd.zeroValue0
  t3 := Tryd.underlying3
  a3 := Tryd.isAgg3
  z3 := Tryd.sizeOf3
  v3 := Tryd.zeroValue3
  t4 := Tryd.underlying4
  a4 := Tryd.isAgg4
  z4 := Tryd.sizeOf4
  v4 := Tryd.zeroValue4
  t9 := Tryd.underlying9
  a9 := Tryd.isAgg9
  z9 := Tryd.sizeOf9
  v9 := Tryd.zeroValue9
  t20 := Tryd.underlying20
  a20 := Tryd.isAgg20
  z20 := Tryd.sizeOf20
  v20 := Tryd.zeroValue20
  t31 := Tryd.underlying42
  a31 := Tryd.isAgg42
  z31 := Tryd.sizeOf42
  v31 := Tryd.zeroValue42
  t37 := Tryd.underlying56
  a37 := Tryd.isAgg56
  z37 := Tryd.sizeOf56
  v37 := Tryd.zeroValue56
  t70 := Tryd.underlying55
  a70 := Tryd.isAgg55
  z70 := Tryd.sizeOf55
  v70 := Tryd.zeroValue55
  t72 := Tryd.underlying58
  a72 := Tryd.isAgg58
  z72 := Tryd.sizeOf58
  v72 := Tryd.zeroValue58
  t75 := Tryd.underlying60
  a75 := Tryd.isAgg60
  z75 := Tryd.sizeOf60
  v75 := Tryd.zeroValue60
  t76 := Tryd.underlying61
  a76 := Tryd.isAgg61
  z76 := Tryd.sizeOf61
  v76 := Tryd.zeroValue61
  t127 := Tryd.underlying80
  a127 := Tryd.isAgg80
  z127 := Tryd.sizeOf80
  v127 := Tryd.zeroValue80
  t164 := Tryd.underlying89
  a164 := Tryd.isAgg89
  z164 := Tryd.sizeOf89
  v164 := Tryd.zeroValue89 }
theorem Tryd.Builder_Extra_156 : Builder.Extra Tryd.prog Tryd.lays156_ren := {
  sizeBuilder := by kernel_rfl
  liesBuilder := by kernel_rfl
  t5 := Tryd.underlying5
  a5 := Tryd.isAgg5
  z5 := Tryd.sizeOf5
  v5 := Tryd.zeroValue5
  infoByte := by kernel_rfl
  cellsByte := by kernel_rfl
  sizeByte := by kernel_rfl
  neB5 := by decide }
open Go.RowKit in
/-- No element: the empty string; the world is as it was. (Whatever the slice's address and capacity: a nil slice too.) (LAID: no walk: one application.) -/
theorem Tryd.strings_Join_none (a : Option Addr) (c : Nat) (sep : ByteArray) (w : World) :
    Calls Tryd.prog 39 #[.slice a 0 c, .string sep] w fun e w' => e = .returned (.string ⟨#[]⟩) ∧ w' = w := Any.strings_Join_none Tryd.lays156 Tryd.Builder_Extra_156 a c sep w
open Go.RowKit in
/-- strings.Join: "Join concatenates the elements of its first argument to create a single string. The separator string sep is placed between elements in the resulting string.": HOWEVER MANY ELEMENTS. Below the heap's end the world is as it was. (LAID: no walk: one application.) -/
theorem Tryd.strings_Join (bk o c : Nat) (xs : List ByteArray) (sep : ByteArray) (w : World) (hcells : ∀ (j : Nat) x, xs[j]? = some x → w.cell? ⟨bk, o + j, none⟩ = some (.string x)) (hbk : bk < w.heap.size) (hN : xs.length ≤ 140737488355328) (hcap : xs.length ≤ c) (hlen : (Lib.join (xs.map (·.data.toList)) sep.data.toList).length ≤ 140737488355328) :
    Calls Tryd.prog 39 #[.slice (some ⟨bk, o, none⟩) xs.length c, .string sep] w fun e w' => e = .returned (.string ⟨(Lib.join (xs.map (·.data.toList)) sep.data.toList).toArray⟩) ∧ Below w.heap.size w w' := Any.strings_Join Tryd.lays156 Tryd.Builder_Extra_156 bk o c xs sep w hcells hbk hN hcap hlen
open Go.RowKit in
/-- (*strings.Builder).Len: "Len returns the number of accumulated bytes; b.Len() == len(b.String()).": the world is as it was. (THE FORM '_f': 'Lib.IsBuilderF'.) (LAID: no walk: one application.) -/
theorem Tryd.Builder_Len_f (B b : Nat) (bs : List Value) (w : World) (h : Lib.IsBuilderF 58 5 B b bs w) :
    Calls Tryd.prog 26 #[.pointer (some ⟨b, 0, none⟩)] w fun e w' => e = .returned (.int .i64 bs.length) ∧ w' = w := Any.Builder_Len_f Tryd.lays170 B b bs w h
open Go.RowKit in
/-- (*strings.Builder).String: "String returns the accumulated string.": WHATEVER THE BUILDER HOLDS; THE FORM '_k': OVER 'Lib.IsBuilderF' (a builder that 'String()' may have read), AND WITH THE FRAME THAT REACHES ABOVE THE BUILDER: 'Lib.OthersKept': every block that is not b and is no row of uint8's stands as it stood: the iterator of a range among them. (LAID: no walk: one application.) -/
theorem Tryd.Builder_String_any_k (B b : Nat) (l : List UInt8) (w : World) (h : Lib.IsBuilderF 58 5 B b (Lib.byteCells l) w) (hBw : B ≤ w.heap.size) :
    Calls Tryd.prog 27 #[.pointer (some ⟨b, 0, none⟩)] w fun e w' => e = .returned (.string ⟨l.toArray⟩) ∧ (Lib.IsBuilderF 58 5 B b (Lib.byteCells l) w' ∧ Below B w w' ∧ Lib.OthersKept 5 (some b) w w') := Any.Builder_String_any_k Tryd.lays169 Tryd.Builder_Extra_169 B b l w h hBw
def Tryd.laysM171_ren : Go.Shelf.Ren := ⟨fun | 171 => 38 | 243 => 50 | 246 => 62 | 283 => 76 | 284 => 77 | 285 => 78 | 286 => 79 | 129 => 90 | 317 => 89 | 318 => 91 | 319 => 92 | 320 => 93 | 337 => 97 | 338 => 98 | n => n, fun | 3 => 3 | 9 => 9 | 2 => 2 | 4 => 4 | 171 => 113 | 0 => 0 | 53 => 114 | 37 => 56 | 5 => 5 | 173 => 117 | 212 => 133 | 51 => 120 | 20 => 20 | 213 => 134 | 46 => 104 | 232 => 145 | 233 => 146 | n => n, fun | 17 => 3 | 18 => 6 | 19 => 7 | n => n⟩
theorem Tryd.laysM171 : Go.Proofs.LaysM.n171 Tryd.prog Tryd.laysM171_ren := {
  mixed := by kernel_rfl
  f129 := Tryd.func90.trans (congrArg some (by kernel_rfl))
  f171 := Tryd.func38.trans (congrArg some (by kernel_rfl))
  f243 := Tryd.func50.trans (congrArg some (by kernel_rfl))
  f246 := Tryd.func62.trans (congrArg some (by kernel_rfl))
  f283 := Tryd.func76.trans (congrArg some (by kernel_rfl))
  f284 := Tryd.func77.trans (congrArg some (by kernel_rfl))
  f285 := Tryd.func78.trans (congrArg some (by kernel_rfl))
  f286 := Tryd.func79.trans (congrArg some (by kernel_rfl))
  f317 := Tryd.func89.trans (congrArg some (by kernel_rfl))
  f318 := Tryd.func91.trans (congrArg some (by kernel_rfl))
  f319 := Tryd.func92.trans (congrArg some (by kernel_rfl))
  f320 := Tryd.func93.trans (congrArg some (by kernel_rfl))
  f337 := Tryd.func97.trans (congrArg some (by kernel_rfl))
  f338 := Tryd.func98.trans (congrArg some (by kernel_rfl))
  t0 := Tryd.underlying0
  a0 := Tryd.isAgg0
  z0 := Tryd.sizeOf0
  v0 := Tryd.zeroValue0
  t2 := Tryd.underlying2
  a2 := Tryd.isAgg2
  z2 := Tryd.sizeOf2
  v2 := Tryd.zeroValue2
  t3 := Tryd.underlying3
  a3 := Tryd.isAgg3
  z3 := Tryd.sizeOf3
  v3 := Tryd.zeroValue3
  t4 := Tryd.underlying4
  a4 := Tryd.isAgg4
  z4 := Tryd.sizeOf4
  v4 := Tryd.zeroValue4
  t5 := Tryd.underlying5
  a5 := Tryd.isAgg5
  z5 := Tryd.sizeOf5
  v5 := Tryd.zeroValue5
  t9 := Tryd.underlying9
  a9 := Tryd.isAgg9
  z9 := Tryd.sizeOf9
  v9 := Tryd.zeroValue9
  t20 := Tryd.underlying20
  a20 := Tryd.isAgg20
  z20 := Tryd.sizeOf20
  v20 := Tryd.zeroValue20
  t37 := Tryd.underlying56
  a37 := Tryd.isAgg56
  z37 := Tryd.sizeOf56
  v37 := Tryd.zeroValue56
  t46 := Tryd.underlying104
  a46 := Tryd.isAgg104
  z46 := Tryd.sizeOf104
  v46 := Tryd.zeroValue104
  t51 := Tryd.underlying120
  a51 := Tryd.isAgg120
  z51 := Tryd.sizeOf120
  v51 := Tryd.zeroValue120
  t53 := Tryd.underlying114
  a53 := Tryd.isAgg114
  z53 := Tryd.sizeOf114
  v53 := Tryd.zeroValue114
  t171 := Tryd.underlying113
  a171 := Tryd.isAgg113
  z171 := Tryd.sizeOf113
  v171 := Tryd.zeroValue113
  t173 := Tryd.underlying117
  a173 := Tryd.isAgg117
  z173 := Tryd.sizeOf117
  v173 := Tryd.zeroValue117
  t212 := Tryd.underlying133
  a212 := Tryd.isAgg133
  z212 := Tryd.sizeOf133
  v212 := Tryd.zeroValue133
  t213 := Tryd.underlying134
  a213 := Tryd.isAgg134
  z213 := Tryd.sizeOf134
  t232 := Tryd.underlying145
  a232 := Tryd.isAgg145
  z232 := Tryd.sizeOf145
  v232 := Tryd.zeroValue145
  t233 := Tryd.underlying146
  a233 := Tryd.isAgg146
  z233 := Tryd.sizeOf146
  v233 := Tryd.zeroValue146
  g17 := by kernel_rfl
  g18 := by kernel_rfl
  g19 := by kernel_rfl
  i0 := by kernel_rfl
  i2 := by kernel_rfl
  i3 := by kernel_rfl
  i4 := by kernel_rfl
  i5 := by kernel_rfl
  i9 := by kernel_rfl
  i20 := by kernel_rfl
  i37 := by kernel_rfl
  i46 := by kernel_rfl
  i51 := by kernel_rfl
  i53 := by kernel_rfl
  i171 := by kernel_rfl
  i173 := by kernel_rfl
  i212 := by kernel_rfl
  i232 := by kernel_rfl
  i233 := by kernel_rfl
  m17 := by kernel_rfl
  m18 := by kernel_rfl
  m19 := by kernel_rfl }
open Go.RowKit Go.Sort Go.Lib in
/-- strconv.Itoa: "Itoa is equivalent to FormatInt(int64(i), 10).": i's DECIMAL NUMERAL ('Lib.itoa': a '-' where i is negative, then the digits), FOR EVERY int. The world behind the call: the world before it, new blocks behind the heap (the library's 'var a [24]byte'), draws. (LAID: no walk: one application.) -/
theorem Tryd.strconv_Itoa (n : Int) (h0 : -9223372036854775808 ≤ n) (h1 : n ≤ 9223372036854775807) (w : World) (htab : Lib.TabIs Tryd.prog w "internal/strconv.uint64pow10" .u64 Lib.pow10Tab) :
    Calls Tryd.prog 38 #[.int .i64 n] w fun e w' => e = .returned (.string ⟨(Lib.itoa n).toArray⟩) ∧ ∃ k os, w' = grow (w.drewN k) os := Any.strconv_Itoa Tryd.laysM171 n h0 h1 w htab
def Tryd.laysC172_ren : Go.Shelf.Ren := ⟨fun | 172 => 45 | 244 => 55 | 245 => 56 | 247 => 71 | 279 => 72 | 280 => 73 | 281 => 74 | 282 => 75 | 287 => 86 | 316 => 87 | 171 => 38 | 205 => 88 | 321 => 95 | 322 => 96 | 243 => 50 | 246 => 62 | 283 => 76 | 284 => 77 | 285 => 78 | 286 => 79 | 129 => 90 | 317 => 89 | 318 => 91 | 319 => 92 | 320 => 93 | 337 => 97 | 338 => 98 | n => n, fun | 9 => 9 | 3 => 3 | 75 => 60 | 76 => 61 | 4 => 4 | 5 => 5 | 167 => 106 | 37 => 56 | 0 => 0 | 85 => 107 | 2 => 2 | 168 => 109 | 53 => 114 | 175 => 126 | 46 => 104 | 210 => 130 | 127 => 80 | 145 => 139 | 143 => 137 | 21 => 21 | 171 => 113 | 173 => 117 | 212 => 133 | 51 => 120 | 20 => 20 | 213 => 134 | 232 => 145 | 233 => 146 | 80 => 65 | n => n, fun | 15 => 1 | 16 => 2 | 17 => 3 | 18 => 6 | 19 => 7 | n => n⟩
theorem Tryd.laysC172 : Go.Proofs.LaysC.n172 Tryd.prog Tryd.laysC172_ren := {
  mixed := by kernel_rfl
  f129 := Tryd.func90.trans (congrArg some (by kernel_rfl))
  f171 := Tryd.func38.trans (congrArg some (by kernel_rfl))
  f172 := Tryd.func45.trans (congrArg some (by kernel_rfl))
  f205 := Tryd.func88.trans (congrArg some (by kernel_rfl))
  f243 := Tryd.func50.trans (congrArg some (by kernel_rfl))
  f244 := Tryd.func55.trans (congrArg some (by kernel_rfl))
  f245 := Tryd.func56.trans (congrArg some (by kernel_rfl))
  f246 := Tryd.func62.trans (congrArg some (by kernel_rfl))
  f247 := Tryd.func71.trans (congrArg some (by kernel_rfl))
  f279 := Tryd.func72.trans (congrArg some (by kernel_rfl))
  f280 := Tryd.func73.trans (congrArg some (by kernel_rfl))
  f281 := Tryd.func74.trans (congrArg some (by kernel_rfl))
  f282 := Tryd.func75.trans (congrArg some (by kernel_rfl))
  f283 := Tryd.func76.trans (congrArg some (by kernel_rfl))
  f284 := Tryd.func77.trans (congrArg some (by kernel_rfl))
  f285 := Tryd.func78.trans (congrArg some (by kernel_rfl))
  f286 := Tryd.func79.trans (congrArg some (by kernel_rfl))
  f287 := Tryd.func86.trans (congrArg some (by kernel_rfl))
  f316 := Tryd.func87.trans (congrArg some (by kernel_rfl))
  f317 := Tryd.func89.trans (congrArg some (by kernel_rfl))
  f318 := Tryd.func91.trans (congrArg some (by kernel_rfl))
  f319 := Tryd.func92.trans (congrArg some (by kernel_rfl))
  f320 := Tryd.func93.trans (congrArg some (by kernel_rfl))
  f321 := Tryd.func95.trans (congrArg some (by kernel_rfl))
  f322 := Tryd.func96.trans (congrArg some (by kernel_rfl))
  f337 := Tryd.func97.trans (congrArg some (by kernel_rfl))
  f338 := Tryd.func98.trans (congrArg some (by kernel_rfl))
  t0 := Tryd.underlying0
  a0 := Tryd.isAgg0
  z0 := Tryd.sizeOf0
  v0 := Tryd.zeroValue0
  t2 := Tryd.underlying2
  a2 := Tryd.isAgg2
  z2 := Tryd.sizeOf2
  v2 := Tryd.zeroValue2
  t3 := Tryd.underlying3
  a3 := Tryd.isAgg3
  z3 := Tryd.sizeOf3
  v3 := Tryd.zeroValue3
  t4 := Tryd.underlying4
  a4 := Tryd.isAgg4
  z4 := Tryd.sizeOf4
  v4 := Tryd.zeroValue4
  t5 := Tryd.underlying5
  a5 := Tryd.isAgg5
  z5 := Tryd.sizeOf5
  v5 := Tryd.zeroValue5
  t9 := Tryd.underlying9
  a9 := Tryd.isAgg9
  z9 := Tryd.sizeOf9
  v9 := Tryd.zeroValue9
  t20 := Tryd.underlying20
  a20 := Tryd.isAgg20
  z20 := Tryd.sizeOf20
  v20 := Tryd.zeroValue20
  t21 := Tryd.underlying21
  a21 := Tryd.isAgg21
  z21 := Tryd.sizeOf21
  v21 := Tryd.zeroValue21
  t37 := Tryd.underlying56
  a37 := Tryd.isAgg56
  z37 := Tryd.sizeOf56
  v37 := Tryd.zeroValue56
  t46 := Tryd.underlying104
  a46 := Tryd.isAgg104
  z46 := Tryd.sizeOf104
  v46 := Tryd.zeroValue104
  t51 := Tryd.underlying120
  a51 := Tryd.isAgg120
  z51 := Tryd.sizeOf120
  v51 := Tryd.zeroValue120
  t53 := Tryd.underlying114
  a53 := Tryd.isAgg114
  z53 := Tryd.sizeOf114
  v53 := Tryd.zeroValue114
  t75 := Tryd.underlying60
  a75 := Tryd.isAgg60
  z75 := Tryd.sizeOf60
  v75 := Tryd.zeroValue60
  t76 := Tryd.underlying61
  a76 := Tryd.isAgg61
  z76 := Tryd.sizeOf61
  v76 := Tryd.zeroValue61
  t85 := Tryd.underlying107
  a85 := Tryd.isAgg107
  z85 := Tryd.sizeOf107
  v85 := Tryd.zeroValue107
  t127 := Tryd.underlying80
  a127 := Tryd.isAgg80
  z127 := Tryd.sizeOf80
  v127 := Tryd.zeroValue80
  t143 := Tryd.underlying137
  a143 := Tryd.isAgg137
  z143 := Tryd.sizeOf137
  v143 := Tryd.zeroValue137
  t145 := Tryd.underlying139
  a145 := Tryd.isAgg139
  z145 := Tryd.sizeOf139
  v145 := Tryd.zeroValue139
  t167 := Tryd.underlying106
  a167 := Tryd.isAgg106
  z167 := Tryd.sizeOf106
  v167 := Tryd.zeroValue106
  t168 := Tryd.underlying109
  a168 := Tryd.isAgg109
  z168 := Tryd.sizeOf109
  v168 := Tryd.zeroValue109
  t171 := Tryd.underlying113
  a171 := Tryd.isAgg113
  z171 := Tryd.sizeOf113
  v171 := Tryd.zeroValue113
  t173 := Tryd.underlying117
  a173 := Tryd.isAgg117
  z173 := Tryd.sizeOf117
  v173 := Tryd.zeroValue117
  t175 := Tryd.underlying126
  a175 := Tryd.isAgg126
  z175 := Tryd.sizeOf126
  v175 := Tryd.zeroValue126
  t210 := Tryd.underlying130
  a210 := Tryd.isAgg130
  z210 := Tryd.sizeOf130
  v210 := Tryd.zeroValue130
  t212 := Tryd.underlying133
  a212 := Tryd.isAgg133
  z212 := Tryd.sizeOf133
  v212 := Tryd.zeroValue133
  t213 := Tryd.underlying134
  a213 := Tryd.isAgg134
  z213 := Tryd.sizeOf134
  t232 := Tryd.underlying145
  a232 := Tryd.isAgg145
  z232 := Tryd.sizeOf145
  v232 := Tryd.zeroValue145
  t233 := Tryd.underlying146
  a233 := Tryd.isAgg146
  z233 := Tryd.sizeOf146
  v233 := Tryd.zeroValue146
  g15 := by kernel_rfl
  g16 := by kernel_rfl
  g17 := by kernel_rfl
  g18 := by kernel_rfl
  g19 := by kernel_rfl
  t80 := Tryd.underlying65
  a80 := Tryd.isAgg65
  z80 := Tryd.sizeOf65
  v80 := Tryd.zeroValue65
  i0 := by kernel_rfl
  i2 := by kernel_rfl
  i3 := by kernel_rfl
  i4 := by kernel_rfl
  i5 := by kernel_rfl
  i9 := by kernel_rfl
  i20 := by kernel_rfl
  i21 := by kernel_rfl
  i37 := by kernel_rfl
  i46 := by kernel_rfl
  i51 := by kernel_rfl
  i53 := by kernel_rfl
  i75 := by kernel_rfl
  i76 := by kernel_rfl
  i80 := by kernel_rfl
  i85 := by kernel_rfl
  i127 := by kernel_rfl
  i143 := by kernel_rfl
  i145 := by kernel_rfl
  i167 := by kernel_rfl
  i168 := by kernel_rfl
  i171 := by kernel_rfl
  i173 := by kernel_rfl
  i175 := by kernel_rfl
  i210 := by kernel_rfl
  i212 := by kernel_rfl
  i232 := by kernel_rfl
  i233 := by kernel_rfl
  m15 := by kernel_rfl
  m16 := by kernel_rfl
  m17 := by kernel_rfl
  m18 := by kernel_rfl
  m19 := by kernel_rfl
  c0 := by kernel_rfl
  c2 := by kernel_rfl
  c3 := by kernel_rfl
  c4 := by kernel_rfl
  c5 := by kernel_rfl
  c9 := by kernel_rfl
  c20 := by kernel_rfl
  c21 := by kernel_rfl
  c37 := by kernel_rfl
  c46 := by kernel_rfl
  c51 := by kernel_rfl
  c53 := by kernel_rfl
  c75 := by kernel_rfl
  c76 := by kernel_rfl
  c80 := by kernel_rfl
  c85 := by kernel_rfl
  c127 := by kernel_rfl
  c143 := by kernel_rfl
  c145 := by kernel_rfl
  c167 := by kernel_rfl
  c168 := by kernel_rfl
  c171 := by kernel_rfl
  c173 := by kernel_rfl
  c175 := by kernel_rfl
  c210 := by kernel_rfl
  c212 := by kernel_rfl
  c213 := by kernel_rfl
  c232 := by kernel_rfl
  c233 := by kernel_rfl }
open Go.RowKit in
/-- strconv.Atoi, AT EVERY STRING THAT SPELLS AN int ('Lib.atoiAll .. = .ok v'; of whatever length: leading zeros count): v, AND NO ERROR. The world: as it was, or with the one new row that '[]byte(..)' lays. (LAID: no walk: one application.) -/
theorem Tryd.strconv_Atoi_ok (s : ByteArray) (hmax : s.size ≤ 9223372036854775806) (v : Int) (h : Lib.atoiAll s.data.toList = .ok v) (w : World) :
    Calls Tryd.prog 45 #[.string s] w fun e w' => e = .returned (.tuple #[.int .i64 v, .nilIface]) ∧ (w' = w ∨ ∃ t, w' = Lib.bytesWorld w 5 t) := Any.strconv_Atoi_ok Tryd.laysC172 s hmax v h w
open Go.RowKit in
/-- strconv.Atoi, AT EVERY STRING THAT IS NO DECIMAL NUMERAL ('.syntax'): 0, AND AN ERROR THAT IS NOT nil: a *NumError in a new block N: {Func: "Atoi", Num: s's bytes, Err: what the variable ErrSyntax holds}. Of what was there nothing has turned. (LAID: no walk: one application.) -/
theorem Tryd.strconv_Atoi_syntax (s : ByteArray) (hlim : s.size ≤ 281474976710656) (h : Lib.atoiAll s.data.toList = Go.Lib.NumEnd.syntax) (ev : Value) (w : World) (hv : w.cell? ⟨1, 0, none⟩ = some ev) (hev : ev = .nilIface ∨ ∃ te pe, ev = .iface te pe) :
    Calls Tryd.prog 45 #[.string s] w fun e w' => ∃ N, e = .returned (.tuple #[.int .i64 (0), .iface 109 (.pointer (some ⟨N, 0, none⟩))]) ∧ w.heap.size ≤ N ∧ w'.heap[N]? = some (.cells #[.string ⟨#[65, 116, 111, 105]⟩, .string s, ev] 130 (0, 0)) ∧ Below w.heap.size w w' := Any.strconv_Atoi_syntax Tryd.laysC172 s hlim h ev w hv hev
open Go.RowKit in
/-- strconv.Atoi, AT EVERY NUMERAL THAT NO int HOLDS ('.range'): THE GREATEST OR THE LEAST int, BY THE SIGN ('Lib.atoiSat'), AND AN ERROR THAT IS NOT nil: a *NumError in a new block N: {Func: "Atoi", Num: s's bytes, Err: what the variable ErrRange holds}. Of what was there nothing has turned. (LAID: no walk: one application.) -/
theorem Tryd.strconv_Atoi_range (s : ByteArray) (hlim : s.size ≤ 281474976710656) (h : Lib.atoiAll s.data.toList = .range) (ev : Value) (w : World) (hv : w.cell? ⟨2, 0, none⟩ = some ev) (hev : ev = .nilIface ∨ ∃ te pe, ev = .iface te pe) :
    Calls Tryd.prog 45 #[.string s] w fun e w' => ∃ N, e = .returned (.tuple #[.int .i64 (Lib.atoiSat s.data.toList), .iface 109 (.pointer (some ⟨N, 0, none⟩))]) ∧ w.heap.size ≤ N ∧ w'.heap[N]? = some (.cells #[.string ⟨#[65, 116, 111, 105]⟩, .string s, ev] 130 (0, 0)) ∧ Below w.heap.size w w' := Any.strconv_Atoi_range Tryd.laysC172 s hlim h ev w hv hev
def Tryd.lays145_ren : Go.Shelf.Ren := ⟨fun | 145 => 30 | 220 => 43 | 219 => 53 | 217 => 64 | 225 => 65 | 224 => 66 | 267 => 67 | 266 => 81 | 314 => 82 | n => n, fun | 9 => 9 | 4 => 4 | 59 => 67 | 3 => 3 | 5 => 5 | 46 => 104 | 146 => 121 | 51 => 120 | n => n, fun | 1 => 0 | n => n⟩
theorem Tryd.lays145 : Go.Proofs.Lays.n145 Tryd.prog Tryd.lays145_ren := {
  mixed := by kernel_rfl
  f145 := Tryd.func30.trans (congrArg some (by kernel_rfl))
  f217 := Tryd.func64.trans (congrArg some (by kernel_rfl))
  f219 := Tryd.func53.trans (congrArg some (by kernel_rfl))
  f220 := Tryd.func43.trans (congrArg some (by kernel_rfl))
  f224 := Tryd.func66.trans (congrArg some (by kernel_rfl))
  f225 := Tryd.func65.trans (congrArg some (by kernel_rfl))
  f266 := Tryd.func81.trans (congrArg some (by kernel_rfl))
  f267 := Tryd.func67.trans (congrArg some (by kernel_rfl))
  f314 := Tryd.func82.trans (congrArg some (by kernel_rfl))
  t3 := Tryd.underlying3
  a3 := Tryd.isAgg3
  z3 := Tryd.sizeOf3
  v3 := Tryd.zeroValue3
  t4 := Tryd.underlying4
  a4 := Tryd.isAgg4
  z4 := Tryd.sizeOf4
  v4 := Tryd.zeroValue4
  t5 := Tryd.underlying5
  a5 := Tryd.isAgg5
  z5 := Tryd.sizeOf5
  v5 := Tryd.zeroValue5
  t9 := Tryd.underlying9
  a9 := Tryd.isAgg9
  z9 := Tryd.sizeOf9
  v9 := Tryd.zeroValue9
  t46 := Tryd.underlying104
  a46 := Tryd.isAgg104
  z46 := Tryd.sizeOf104
  v46 := Tryd.zeroValue104
  t51 := Tryd.underlying120
  a51 := Tryd.isAgg120
  z51 := Tryd.sizeOf120
  v51 := Tryd.zeroValue120
  t59 := Tryd.underlying67
  a59 := Tryd.isAgg67
  z59 := Tryd.sizeOf67
  v59 := Tryd.zeroValue67
  t146 := Tryd.underlying121
  a146 := Tryd.isAgg121
  z146 := Tryd.sizeOf121
  v146 := Tryd.zeroValue121
  g1 := by kernel_rfl }
open Go.RowKit Go.Lib in
/-- strings.Cut: "Cut slices s around the first instance of sep, returning the text before and after sep. The found result reports whether sep appears in s. If sep does not appear in s, cut returns s, "", false.": IT RETURNS 'Lib.cut s sep'; the world is as it was but for the count of draws. (LAID: no walk: one application.) -/
theorem Tryd.strings_Cut (s sep : ByteArray) (m : Int) (w : World) (hs : s.size < 4294967281) (hm : w.cell? ⟨0, 0, none⟩ = some (.int .i64 m)) :
    Calls Tryd.prog 30 #[.string s, .string sep] w fun e w' => e = .returned (.tuple #[.string ⟨(Lib.cut s.data.toList sep.data.toList).1.toArray⟩, .string ⟨(Lib.cut s.data.toList sep.data.toList).2.1.toArray⟩, .bool (Lib.cut s.data.toList sep.data.toList).2.2]) ∧ ∃ n, w' = w.drewN n := Any.strings_Cut Tryd.lays145 s sep m w hs hm
def Tryd.lays146_ren : Go.Shelf.Ren := ⟨fun | 146 => 44 | 221 => 54 | 268 => 68 | 138 => 69 | 143 => 70 | 195 => 83 | 197 => 84 | 218 => 85 | 219 => 53 | 260 => 94 | 217 => 64 | 225 => 65 | 224 => 66 | 267 => 67 | 266 => 81 | 314 => 82 | n => n, fun | 9 => 9 | 31 => 42 | 3 => 3 | 4 => 4 | 0 => 0 | 105 => 124 | 21 => 21 | 5 => 5 | 46 => 104 | 119 => 141 | 139 => 144 | 138 => 143 | 146 => 121 | 51 => 120 | n => n, fun | 1 => 0 | 3 => 4 | 4 => 5 | n => n⟩
theorem Tryd.lays146 : Go.Proofs.Lays.n146 Tryd.prog Tryd.lays146_ren := {
  mixed := by kernel_rfl
  f138 := Tryd.func69.trans (congrArg some (by kernel_rfl))
  f143 := Tryd.func70.trans (congrArg some (by kernel_rfl))
  f146 := Tryd.func44.trans (congrArg some (by kernel_rfl))
  f195 := Tryd.func83.trans (congrArg some (by kernel_rfl))
  f197 := Tryd.func84.trans (congrArg some (by kernel_rfl))
  f217 := Tryd.func64.trans (congrArg some (by kernel_rfl))
  f218 := Tryd.func85.trans (congrArg some (by kernel_rfl))
  f219 := Tryd.func53.trans (congrArg some (by kernel_rfl))
  f221 := Tryd.func54.trans (congrArg some (by kernel_rfl))
  f224 := Tryd.func66.trans (congrArg some (by kernel_rfl))
  f225 := Tryd.func65.trans (congrArg some (by kernel_rfl))
  f260 := Tryd.func94.trans (congrArg some (by kernel_rfl))
  f266 := Tryd.func81.trans (congrArg some (by kernel_rfl))
  f267 := Tryd.func67.trans (congrArg some (by kernel_rfl))
  f268 := Tryd.func68.trans (congrArg some (by kernel_rfl))
  f314 := Tryd.func82.trans (congrArg some (by kernel_rfl))
  t0 := Tryd.underlying0
  a0 := Tryd.isAgg0
  z0 := Tryd.sizeOf0
  v0 := Tryd.zeroValue0
  t3 := Tryd.underlying3
  a3 := Tryd.isAgg3
  z3 := Tryd.sizeOf3
  v3 := Tryd.zeroValue3
  t4 := Tryd.underlying4
  a4 := Tryd.isAgg4
  z4 := Tryd.sizeOf4
  v4 := Tryd.zeroValue4
  t5 := Tryd.underlying5
  a5 := Tryd.isAgg5
  z5 := Tryd.sizeOf5
  v5 := Tryd.zeroValue5
  t9 := Tryd.underlying9
  a9 := Tryd.isAgg9
  z9 := Tryd.sizeOf9
  v9 := Tryd.zeroValue9
  t21 := Tryd.underlying21
  a21 := Tryd.isAgg21
  z21 := Tryd.sizeOf21
  v21 := Tryd.zeroValue21
  t31 := Tryd.underlying42
  a31 := Tryd.isAgg42
  z31 := Tryd.sizeOf42
  v31 := Tryd.zeroValue42
  t46 := Tryd.underlying104
  a46 := Tryd.isAgg104
  z46 := Tryd.sizeOf104
  v46 := Tryd.zeroValue104
  t51 := Tryd.underlying120
  a51 := Tryd.isAgg120
  z51 := Tryd.sizeOf120
  v51 := Tryd.zeroValue120
  t105 := Tryd.underlying124
  a105 := Tryd.isAgg124
  z105 := Tryd.sizeOf124
  v105 := Tryd.zeroValue124
  t119 := Tryd.underlying141
  a119 := Tryd.isAgg141
  z119 := Tryd.sizeOf141
  t138 := Tryd.underlying143
  a138 := Tryd.isAgg143
  z138 := Tryd.sizeOf143
  v138 := Tryd.zeroValue143
  t139 := Tryd.underlying144
  a139 := Tryd.isAgg144
  z139 := Tryd.sizeOf144
  v139 := Tryd.zeroValue144
  t146 := Tryd.underlying121
  a146 := Tryd.isAgg121
  z146 := Tryd.sizeOf121
  v146 := Tryd.zeroValue121
  g1 := by kernel_rfl
  g3 := by kernel_rfl
  g4 := by kernel_rfl }
open Go.RowKit Go.Lib in
/-- strings.Split. (LAID: no walk: one application.) -/
theorem Tryd.strings_Split (s sep : ByteArray) (m : Int) (w : World) (hs : s.size < 4294967281) (hm : w.cell? ⟨0, 0, none⟩ = some (.int .i64 m)) (h1 : 1 ≤ sep.size) :
    Calls Tryd.prog 44 #[.string s, .string sep] w fun e w' =>
      e = .returned (.slice (some ⟨w.heap.size, 0, none⟩) (Lib.countB s sep + 1) (Lib.countB s sep + 1)) ∧ w' = w.alloc (.cells ((Lib.splitB sep 0 (Lib.countB s sep) s).map Value.string).toArray 9) := Any.strings_Split Tryd.lays146 (by kernel_rfl) s sep m w hs hm h1
open Go.RowKit in
theorem Tryd.Builder_WriteString_k (B b : Nat) (bs : List Value) (s : ByteArray) (w : World) (h : Lib.IsBuilderF 58 5 B b bs w) (hlen : bs.length + s.size ≤ 140737488355328) (hBw : B ≤ w.heap.size) :
    Calls Tryd.prog 24 #[.pointer (some ⟨b, 0, none⟩), .string s] w fun e w' => e = .returned (.tuple #[.int .i64 s.size, .nilIface]) ∧ (Lib.BuilderAtF 58 5 B b (.pointer (some ⟨b, 0, none⟩)) (bs ++ Lib.strCells s) w' ∧ Below B w w' ∧ Lib.OthersKept 5 (some b) w w') := Any.Builder_WriteString_k { Tryd.lays156 with } Tryd.Builder_Extra_156 B b bs s w h hlen hBw
end Go.Proofs
namespace Go.Proofs.YtopdfmhlgkbaaaaDoor
open Go.Ev Go.RowKit
set_option linter.all false
/-- The tables and variables of the library lie as their text lays them. -/
structure Wd (w : World) : Prop where
  pow : Lib.TabIs Tryd.prog w "internal/strconv.uint64pow10" .u64 Lib.pow10Tab
  len : ∃ m, w.cell? ⟨0, 0, none⟩ = some (.int .i64 m)
  syn : ∃ te pe, w.cell? ⟨1, 0, none⟩ = some (.iface te pe)
  rng : ∃ te pe, w.cell? ⟨2, 0, none⟩ = some (.iface te pe)
theorem cell_later {w w' : World} {b j : Nat} {v : Value} (h : w.cell? ⟨b, j, none⟩ = some v) (hb : Below w.heap.size w w') : w'.cell? ⟨b, j, none⟩ = some v := by
  rw [hb.cell (p := ⟨b, j, none⟩) (Lib.lt_of_cell h)]
  exact h
theorem pow_block {w w' : World} (h : Lib.TabIs Tryd.prog w "internal/strconv.uint64pow10" .u64 Lib.pow10Tab) (hb : Below w.heap.size w w') : Lib.TabIs Tryd.prog w' "internal/strconv.uint64pow10" .u64 Lib.pow10Tab := by
  have h0 := h.cell (g := 3) (by kernel_rfl) 0 (by decide)
  have hlt : 3 < w.heap.size := Lib.lt_of_cell h0
  unfold Lib.TabIs World.var? at h ⊢
  rw [show Tryd.prog.globalNamed "internal/strconv.uint64pow10" = some 3 by kernel_rfl] at h ⊢
  have hbk := hb.block 3 hlt
  show (match w'.heap[3]? with | some (.cells cs _ _) => some cs | _ => none) = _
  rw [hbk]
  exact h
theorem Wd.later {w w' : World} (h : Wd w) (hb : Below w.heap.size w w') : Wd w' :=
  ⟨pow_block h.pow hb, by obtain ⟨m, hm⟩ := h.len; exact ⟨m, cell_later hm hb⟩, by obtain ⟨a, b, hm⟩ := h.syn; exact ⟨a, b, cell_later hm hb⟩, by obtain ⟨a, b, hm⟩ := h.rng; exact ⟨a, b, cell_later hm hb⟩⟩
/-- Results out of a walk: plain values and values of interface types; what was there stays. -/
inductive ResE : List D → List Value → List Value → Prop
  | nil : ResE [] [] []
  | v {x : Value} {ds : List D} {us cs : List Value} : atom1 x = true → ResE ds us cs → ResE (.v x :: ds) (x :: us) (x :: cs)
  | err {b : Bool} {c : Value} {ds : List D} {us cs : List Value} : (b = true → ∃ t x, c = .iface t x) → (b = false → c = .nilIface) → ResE ds us cs → ResE (.err b :: ds) (errV b :: us) (c :: cs)
theorem ResE.from {ds : List D} {us cs : List Value} (h : ResE ds us cs) (m : List (Option Blk)) : fromDs true ds m = some (us, m) := by
  induction h with
  | nil => rfl
  | v ha _ ih => simp only [fromDs, fromD, fromD1, ha, ih]
  | err _ _ _ ih => simp only [fromDs, fromD, fromD1, ih]
theorem ResE.vs {ρ : Map} {N : Nat} {ds : List D} {us cs : List Value} (h : ResE ds us cs) : Vs ρ N us cs := by
  induction h with
  | nil => exact .nil
  | v ha _ ih => exact .cons (V.refl1 ha) ih
  | err h1 h2 _ ih => exact .cons (.iface h1 h2) ih
theorem denW_of_below {P : Program} {W : World → Prop} (hst : ∀ w w', W w → Below w.heap.size w w' → W w') {f : FuncId} {F : List D → Option (Bool × List D)}
    (h : ∀ ds rs, F ds = some (true, rs) → ∃ xs : List Value, ds = xs.map D.v ∧ (∀ x ∈ xs, atom1 x = true) ∧ ∀ w, W w → Calls P f ⟨xs⟩ w fun e w' => ∃ us cs, e = .returned (tupV cs) ∧ ResE rs us cs ∧ Below w.heap.size w w') : DenW P W f F := by
  intro wb hwb ds rs hF w hbw args vs' mem ρ hfrom _ hl hv
  obtain ⟨xs, rfl, hx, hc⟩ := h ds rs hF
  rw [fromDs_plain false xs [] hx] at hfrom
  simp only [Option.some.injEq, Prod.mk.injEq] at hfrom
  obtain ⟨e1, e2⟩ := hfrom
  subst e1
  subst e2
  have hargs : args = xs := by
    apply List.ext_getElem?
    intro i
    by_cases hi : i < xs.length
    · have h1 : xs[i]? = some xs[i] := List.getElem?_eq_getElem hi
      have h2 : args[i]? = some args[i] := List.getElem?_eq_getElem (by omega)
      rw [h1, h2, (hv i _ _ h1 h2).atom1_eq (hx _ (List.getElem_mem hi))]
    · rw [List.getElem?_eq_none (by omega), List.getElem?_eq_none (by omega)]
  subst hargs
  refine (hc w (hst wb w hwb hbw)).mono fun e w' ⟨us, cs, he, hr, hb⟩ => ?_
  exact ⟨tupV cs, he, hb, us, [], fun _ => none, hr.from [], ⟨fun id b h => by simp at h, fun _ _ => rfl, fun i j b h => by obtain ⟨_, _, _, h2, _⟩ := h; simp at h2⟩, hr.vs.tupV⟩
def txt (l : List UInt8) : ByteArray := ⟨l.toArray⟩
def str (l : List UInt8) : Value := .string (txt l)
def by_ (s : ByteArray) : List UInt8 := s.data.toList
theorem drew_below (w : World) (n : Nat) : Below w.heap.size w (w.drewN n) := ⟨rfl, rfl, rfl, Nat.le_refl _, fun _ _ => rfl⟩
theorem grow_below (w : World) (n : Nat) (os : Array Obj) : Below w.heap.size w (Go.Sort.grow (w.drewN n) os) := ⟨rfl, rfl, rfl, by show w.heap.size ≤ (w.heap ++ os).size; simp, fun k hk => by
  show (w.heap ++ os)[k]? = _
  rw [Array.getElem?_append_left hk]⟩
def iR (n : Int) : Bool := decide (-9223372036854775808 ≤ n ∧ n ≤ 9223372036854775807)
theorem iR_iff {n : Int} : iR n = true ↔ -9223372036854775808 ≤ n ∧ n ≤ 9223372036854775807 := by unfold iR; rw [decide_eq_true_eq]
def Fitoa : List D → Option (Bool × List D)
  | [.v (.int .i64 n)] => some (iR n, [.v (str (Lib.itoa n))])
  | _ => none
theorem den_itoa : DenW Tryd.prog Wd 38 Fitoa := denW_of_below (fun _ _ h hb => h.later hb) fun ds rs h => by
  unfold Fitoa at h
  split at h
  · rename_i n
    simp only [Option.some.injEq, Prod.mk.injEq] at h
    obtain ⟨h0, rfl⟩ := h
    obtain ⟨h1, h2⟩ := iR_iff.1 h0
    refine ⟨[.int .i64 n], rfl, fun y hy => ?_, fun w hw => ?_⟩
    · simp only [List.mem_cons, List.not_mem_nil, or_false] at hy
      rcases hy with rfl; rfl
    · refine (Tryd.strconv_Itoa n h1 h2 w hw.pow).mono fun e w' ⟨he, k, os, hw'⟩ => ?_
      subst hw'
      exact ⟨_, [str (Lib.itoa n)], he, .v rfl .nil, grow_below w k os⟩
  · cases h
def Fcut : List D → Option (Bool × List D)
  | [.v (.string s), .v (.string p)] => some (decide (s.size < 4294967281), [.v (str (Lib.cut (by_ s) (by_ p)).1), .v (str (Lib.cut (by_ s) (by_ p)).2.1), .v (.bool (Lib.cut (by_ s) (by_ p)).2.2)])
  | _ => none
theorem den_cut : DenW Tryd.prog Wd 30 Fcut := denW_of_below (fun _ _ h hb => h.later hb) fun ds rs h => by
  unfold Fcut at h
  split at h
  · rename_i s p
    simp only [Option.some.injEq, Prod.mk.injEq, decide_eq_true_eq] at h
    obtain ⟨h0, rfl⟩ := h
    refine ⟨[.string s, .string p], rfl, fun y hy => ?_, fun w hw => ?_⟩
    · simp only [List.mem_cons, List.not_mem_nil, or_false] at hy
      rcases hy with rfl | rfl <;> rfl
    · obtain ⟨m, hm⟩ := hw.len
      refine (Tryd.strings_Cut s p m w h0 hm).mono fun e w' ⟨he, n, hw'⟩ => ?_
      subst hw'
      exact ⟨_, [str (Lib.cut (by_ s) (by_ p)).1, str (Lib.cut (by_ s) (by_ p)).2.1, .bool (Lib.cut (by_ s) (by_ p)).2.2], he, .v rfl (.v rfl (.v rfl .nil)), drew_below w n⟩
  · cases h
/-- What Atoi gives: the number, and whether there is an error. -/
def aiN (l : List UInt8) : Int := match Lib.atoiAll l with
  | .ok v => v
  | Go.Lib.NumEnd.syntax => 0
  | .range => Lib.atoiSat l
def aiE (l : List UInt8) : Bool := match Lib.atoiAll l with
  | .ok _ => false
  | _ => true
def Fatoi : List D → Option (Bool × List D)
  | [.v (.string s)] => some (decide (s.size ≤ 4294967296), [.v (i64 (aiN (by_ s))), .err (aiE (by_ s))])
  | _ => none
theorem den_atoi : DenW Tryd.prog Wd 45 Fatoi := denW_of_below (fun _ _ h hb => h.later hb) fun ds rs h => by
  unfold Fatoi at h
  split at h
  · rename_i s
    simp only [Option.some.injEq, Prod.mk.injEq, decide_eq_true_eq] at h
    obtain ⟨h0, rfl⟩ := h
    refine ⟨[.string s], rfl, fun y hy => ?_, fun w hw => ?_⟩
    · simp only [List.mem_cons, List.not_mem_nil, or_false] at hy
      rcases hy with rfl; rfl
    · unfold aiN aiE by_
      rcases hp : Lib.atoiAll s.data.toList with v | _ | _
      · refine (Tryd.strconv_Atoi_ok s (by omega) v hp w).mono fun e w' ⟨he, hw'⟩ => ?_
        refine ⟨_, [i64 v, .nilIface], he, .v rfl (.err (fun h => by cases h) (fun _ => rfl) .nil), ?_⟩
        rcases hw' with rfl | ⟨t, rfl⟩
        · exact Below.refl _ _
        · exact Lib.bytesWorld_below _ _ _
      · obtain ⟨te, pe, hs⟩ := hw.syn
        refine (Tryd.strconv_Atoi_syntax s (by omega) hp _ w hs (.inr ⟨te, pe, rfl⟩)).mono fun e w' ⟨N, he, _, _, hb⟩ => ?_
        exact ⟨_, [i64 0, .iface 109 (.pointer (some ⟨N, 0, none⟩))], he, .v rfl (.err (fun _ => ⟨_, _, rfl⟩) (fun h => by cases h) .nil), hb⟩
      · obtain ⟨te, pe, hs⟩ := hw.rng
        refine (Tryd.strconv_Atoi_range s (by omega) hp _ w hs (.inr ⟨te, pe, rfl⟩)).mono fun e w' ⟨N, he, _, _, hb⟩ => ?_
        exact ⟨_, [i64 _, .iface 109 (.pointer (some ⟨N, 0, none⟩))], he, .v rfl (.err (fun _ => ⟨_, _, rfl⟩) (fun h => by cases h) .nil), hb⟩
  · cases h
/-- A list of strings, as a row; a row's strings. -/
def rowS (l : List ByteArray) : Row := .mk l.length (fun _ _ => 0) (fun _ _ => false) (fun e _ => l.getD e .empty) (fun _ _ => .nil)
def strs (r : Row) (n : Nat) : List ByteArray := (List.range n).map fun e => r.S e 0
def splS (s p : ByteArray) : List ByteArray := Lib.splitB p 0 (Lib.countB s p) s
def Fsplit : List D → Option (Bool × List D)
  | [.v (.string s), .v (.string p)] => some (decide (s.size < 4294967281) && decide (1 ≤ p.size), [.slice [.str] (rowS (splS s p))])
  | _ => none
theorem plainArgs {N : Nat} {ρ : Map} {args xs : List Value} (hl : xs.length = args.length) (hx : ∀ x ∈ xs, atom1 x = true) (hv : ∀ (i : Nat) (x c : Value), xs[i]? = some x → args[i]? = some c → V ρ N x c) : args = xs := by
  apply List.ext_getElem?
  intro i
  by_cases hi : i < xs.length
  · have h1 : xs[i]? = some xs[i] := List.getElem?_eq_getElem hi
    have h2 : args[i]? = some args[i] := List.getElem?_eq_getElem (by omega)
    rw [h1, h2, (hv i _ _ h1 h2).atom1_eq (hx _ (List.getElem_mem hi))]
  · rw [List.getElem?_eq_none (by omega), List.getElem?_eq_none (by omega)]
theorem den_split : DenW Tryd.prog Wd 44 Fsplit := by
  intro wb hwb ds rs hF w hbw args vs mem ρ hfrom _ hl hv
  unfold Fsplit at hF
  split at hF
  · rename_i s p
    simp only [Option.some.injEq, Prod.mk.injEq, Bool.and_eq_true, decide_eq_true_eq] at hF
    obtain ⟨⟨h0, h1⟩, rfl⟩ := hF
    have e1 : vs = [.string s, .string p] := by
      have : fromDs false [D.v (.string s), D.v (.string p)] [] = some ([.string s, .string p], []) := rfl
      rw [this] at hfrom
      simp only [Option.some.injEq, Prod.mk.injEq] at hfrom
      exact hfrom.1.symm
    subst e1
    have e2 := plainArgs hl (fun x hx => by simp only [List.mem_cons, List.not_mem_nil, or_false] at hx; rcases hx with rfl | rfl <;> rfl) hv
    subst e2
    have hw := hwb.later hbw
    obtain ⟨m, hm⟩ := hw.len
    have hlen : (splS s p).length = Lib.countB s p + 1 := Lib.splitB_all p h1 0 _ s rfl
    refine (Tryd.strings_Split s p m w h0 hm h1).mono fun e w' ⟨he, hw'⟩ => ?_
    subst hw'
    have hnew : (w.alloc (.cells ((splS s p).map Value.string).toArray 9)).heap[w.heap.size]? = some (.cells ((splS s p).map Value.string).toArray 9 (0, 0)) := by
      show (w.heap.push _)[w.heap.size]? = _
      simp
    refine ⟨_, he, (Below.refl _ w).alloc (Nat.le_refl _) _, [.slice (some ⟨0, 0, some 0⟩) (splS s p).length 0], [some (.row [.str] true (rowS (splS s p)))], fun i => if i = 0 then some ⟨w.heap.size, 0, 1, (splS s p).length, (splS s p).length, true, s0⟩ else none, rfl, ?_, ?_⟩
    · refine ⟨fun id b hb => ?_, fun id hid => ?_, fun i j b hi hj => ?_⟩
      · match id, hb with
        | 0, hb =>
          simp only [List.getElem?_cons_zero, Option.some.injEq] at hb
          subst hb
          refine ⟨_, if_pos rfl, rfl, rfl, fun _ => ⟨rfl, Nat.le_refl _, fun _ => ⟨Nat.le_refl _, _, _, hnew, ?_⟩⟩, fun hn => ⟨(fun h => by cases h), ?_⟩, rfl⟩
          · show 0 + (splS s p).length * 1 ≤ _
            simp
          · refine .mk (fun e _ => .string ((splS s p).getD e .empty)) (fun e j k he hk => ?_) (fun e j k he hk => ?_)
            · match j, hk with
              | 0, hk =>
                have he : e < (splS s p).length := he
                show (w.alloc (.cells ((splS s p).map Value.string).toArray 9)).cell? ⟨w.heap.size, 0 + e * 1 + 0, none⟩ = _
                rw [Lib.cell_of_heap hnew]
                show ((splS s p).map Value.string).toArray[0 + e * 1 + 0]? = _
                rw [show 0 + e * 1 + 0 = e by omega]
                simp [he, List.getD_eq_getElem?_getD]
            · match j, hk with
              | 0, hk =>
                cases hk
                exact .str
      · match id with
        | 0 => exact absurd rfl (hid _)
        | n + 1 => exact if_neg (by omega)
      · obtain ⟨L, blk, g1, g2, _⟩ := hi
        obtain ⟨L', blk', g1', g2', _⟩ := hj
        have a1 : i = 0 := by
          match i, g2 with
          | 0, _ => rfl
        have a2 : j = 0 := by
          match j, g2' with
          | 0, _ => rfl
        omega
    · show V _ 1 (.slice (some ⟨0, 0, some 0⟩) (splS s p).length 0) (.slice (some ⟨w.heap.size, 0, none⟩) (Lib.countB s p + 1) (Lib.countB s p + 1))
      rw [← hlen]
      exact .slice (L := ⟨w.heap.size, 0, 1, (splS s p).length, (splS s p).length, true, s0⟩) (by omega) (if_pos rfl) (by show 0 + _ ≤ (splS s p).length; omega) (Nat.le_refl _) (fun _ => by show _ = some (Loc.adr _ 0 0); rfl) (fun _ => ⟨by show 0 + _ ≤ (splS s p).length; omega, .inr rfl⟩)
  · cases hF
def joinL (r : Row) (n : Nat) (p : ByteArray) : List UInt8 := Lib.join ((strs r n).map by_) (by_ p)
def Fjoin : List D → Option (Bool × List D)
  | [.slice [.str] r, .v (.string p)] => some (decide (r.n ≤ 140737488355328) && decide ((joinL r r.n p).length ≤ 140737488355328), [.v (str (joinL r r.n p))])
  | _ => none
theorem den_join : DenW Tryd.prog Wd 39 Fjoin := by
  intro wb hwb ds rs hF w hbw args vs mem ρ hfrom hm hl hv
  unfold Fjoin at hF
  split at hF
  · rename_i r p
    simp only [Option.some.injEq, Prod.mk.injEq, Bool.and_eq_true, decide_eq_true_eq] at hF
    obtain ⟨⟨h0, h1⟩, rfl⟩ := hF
    have e1 : vs = [.slice (some ⟨0, 0, some 0⟩) r.n 0, .string p] ∧ mem = [some (.row [.str] false r)] := by
      have : fromDs false [D.slice [.str] r, D.v (.string p)] [] = some ([.slice (some ⟨0, 0, some 0⟩) r.n 0, .string p], [some (.row [.str] false r)]) := rfl
      rw [this] at hfrom
      simp only [Option.some.injEq, Prod.mk.injEq] at hfrom
      exact ⟨hfrom.1.symm, hfrom.2.symm⟩
    obtain ⟨rfl, rfl⟩ := e1
    match args, hl with
    | [a1, a2], _ =>
    have v1 := hv 0 _ _ rfl rfl
    have v2 := hv 1 _ _ rfl rfl
    have e2 : a2 = .string p := v2.atom1_eq rfl
    subst e2
    obtain ⟨L, hL, hr⟩ := hm.blk 0 _ rfl
    cases v1 with
    | sliceDead _ hd => rw [hL] at hd; cases hd
    | @slice _ _ _ L' a cap g1 g2 g3 g4 g5 g6 =>
      rw [hL] at g2
      cases g2
      have fin : ∀ w' : World, Below w.heap.size w w' → ∃ cv, Ending.returned (str (joinL r r.n p)) = Ending.returned cv ∧ Below w.heap.size w w' ∧ ∃ us mem' ρ', fromDs true [D.v (str (joinL r r.n p))] [] = some (us, mem') ∧ MemR mem' ρ' w.heap.size w' ∧ V ρ' mem'.length (tupV us) cv := fun w' hb =>
        ⟨_, rfl, hb, [str (joinL r r.n p)], [], fun _ => none, rfl, ⟨fun id b h => by simp at h, fun _ _ => rfl, fun i j b h => by obtain ⟨_, _, _, h2, _⟩ := h; simp at h2⟩, .str⟩
      by_cases hn : r.n = 0
      · have e0 : joinL r r.n p = [] := by unfold joinL strs; rw [hn]; rfl
        rw [hn]
        refine (Tryd.strings_Join_none a cap p w).mono fun e w' ⟨he, hw'⟩ => ?_
        subst hw'
        rw [he]
        have := fin w' (Below.refl _ _)
        rw [e0] at this
        rw [hn] at e0
        rw [e0]
        exact this
      · obtain ⟨r1, r2, r3, r4, r5⟩ := hr
        obtain ⟨r6, r7⟩ := r4 (by omega)
        have ea : a = some ⟨L.b, L.off, none⟩ := by
          rw [g5 (by omega)]
          show some (⟨L.b, L.off + 0 * L.sz + 0, none⟩ : Addr) = _
          rw [Nat.zero_mul, Nat.add_zero]
        have hlen : (strs r r.n).length = r.n := by unfold strs; simp
        have hc : Calls Tryd.prog 39 #[.slice (some ⟨L.b, L.off, none⟩) (strs r r.n).length cap, .string p] w fun e w' => e = .returned (.string ⟨(Lib.join ((strs r r.n).map (·.data.toList)) p.data.toList).toArray⟩) ∧ Below w.heap.size w w' := by
          refine Tryd.strings_Join L.b L.off cap (strs r r.n) p w (fun j x hx => ?_) (r6 rfl).1 (by omega) (by omega) h1
          unfold strs at hx
          rw [List.getElem?_map] at hx
          by_cases hj : j < r.n
          · rw [List.getElem?_range hj] at hx
            cases hx
            cases r7 with
            | mk v q1 q2 =>
              have a1 := q1 j 0 .str hj rfl
              have a2 := q2 j 0 .str hj rfl
              cases hv : v j 0 <;> rw [hv] at a2 <;> cases a2
              rw [hv] at a1
              rw [← a1]
              show w.cell? ⟨L.b, L.off + j, none⟩ = w.cell? ⟨L.b, L.off + j * 1 + 0, none⟩
              rw [Nat.mul_one, Nat.add_zero]
          · rw [List.getElem?_eq_none (by simpa using hj)] at hx
            cases hx
        rw [hlen] at hc
        rw [ea]
        refine hc.mono fun e w' ⟨he, hb⟩ => ?_
        rw [he]
        exact fin w' hb
  · cases hF
end Go.Proofs.YtopdfmhlgkbaaaaDoor
/- Plain laws on texts: digits, numerals, pieces. No conditions. -/
namespace Go.Dec
open Go.Lib
set_option linter.all false
/-- One digit more; none: it is no digit, or the number would be too great. -/
def dgS (c : UInt8) (n : Int) : Option Int := if c.toNat < 48 ∨ 57 < c.toNat ∨ 100000000000000000 < n then none else some (10 * n + ((c.toNat : Int) - 48))
def valL : List UInt8 → Int → Option Int
  | [], n => some n
  | c :: r, n => match dgS c n with
    | some m => valL r m
    | none => none
theorem valL_append : ∀ (l m : List UInt8) (n : Int), valL (l ++ m) n = (valL l n).bind (valL m)
  | [], m, n => rfl
  | c :: r, m, n => by
    simp only [List.cons_append, valL]
    cases dgS c n with
    | none => rfl
    | some x => exact valL_append r m x
theorem valL_one (c : UInt8) (n : Int) : valL [c] n = dgS c n := by
  unfold valL
  cases dgS c n <;> rfl
theorem dgS_some {c : UInt8} {n m : Int} (h : dgS c n = some m) : 48 ≤ c.toNat ∧ c.toNat ≤ 57 ∧ n ≤ 100000000000000000 ∧ m = 10 * n + ((c.toNat : Int) - 48) := by
  unfold dgS at h
  split at h
  · cases h
  · rename_i hc
    simp only [Option.some.injEq] at h
    omega
theorem ofNat_toNat (k : Nat) (h : k < 256) : (UInt8.ofNat k).toNat = k := by
  simp [UInt8.toNat_ofNat', Nat.mod_eq_of_lt h]
theorem toNat_ofNat (c : UInt8) : UInt8.ofNat c.toNat = c := by simp
theorem decDigits_ten {u : Nat} (h : ¬ u < 10) : decDigits u = decDigits (u / 10) ++ [UInt8.ofNat (48 + u % 10)] := by rw [decDigits, dif_neg h]
theorem valL_dec : ∀ (N u : Nat), u ≤ N → u ≤ 1000000000000000009 → valL (decDigits u) 0 = some (u : Int) := by
  intro N
  induction N with
  | zero =>
    intro u h _
    obtain rfl : u = 0 := by omega
    rw [decDigits_one (by omega), valL_one]
    rfl
  | succ N ih =>
    intro u h hu
    by_cases hs : u < 10
    · rw [decDigits_one hs, valL_one]
      unfold dgS
      rw [ofNat_toNat _ (by omega), if_neg (by omega)]
      congr 1
      omega
    · rw [decDigits_ten hs, valL_append, ih (u / 10) (by omega) (by omega)]
      show valL [UInt8.ofNat (48 + u % 10)] ((u / 10 : Nat) : Int) = _
      rw [valL_one]
      unfold dgS
      rw [ofNat_toNat _ (by omega), if_neg (by omega)]
      congr 1
      omega
theorem dec_ne (u : Nat) : decDigits u ≠ [] := by
  have := decDigits_length u
  have h2 := nDigits_pos u
  intro h
  rw [h] at this
  simp at this
  omega
/-- All are digits. -/
theorem dec_digit : ∀ (N u : Nat), u ≤ N → ∀ c ∈ decDigits u, 48 ≤ c.toNat ∧ c.toNat ≤ 57 := by
  intro N
  induction N with
  | zero =>
    intro u h c hc
    obtain rfl : u = 0 := by omega
    rw [decDigits_one (by omega)] at hc
    simp only [List.mem_singleton] at hc
    subst hc
    decide
  | succ N ih =>
    intro u h c hc
    by_cases hs : u < 10
    · rw [decDigits_one hs] at hc
      simp only [List.mem_singleton] at hc
      subst hc
      rw [ofNat_toNat _ (by omega)]
      omega
    · rw [decDigits_ten hs, List.mem_append] at hc
      rcases hc with hc | hc
      · exact ih (u / 10) (by omega) c hc
      · simp only [List.mem_singleton] at hc
        subst hc
        rw [ofNat_toNat _ (by omega)]
        omega
/-- No zero in front, but for 0. -/
theorem dec_head : ∀ (N u : Nat), u ≤ N → 1 ≤ u → ∃ c r, decDigits u = c :: r ∧ c.toNat ≠ 48 := by
  intro N
  induction N with
  | zero => intro u h h1; omega
  | succ N ih =>
    intro u h h1
    by_cases hs : u < 10
    · exact ⟨_, [], decDigits_one hs, by rw [ofNat_toNat _ (by omega)]; omega⟩
    · obtain ⟨c, r, h2, h3⟩ := ih (u / 10) (by omega) (by omega)
      exact ⟨c, r ++ [UInt8.ofNat (48 + u % 10)], by rw [decDigits_ten hs, h2]; rfl, h3⟩
/-- Without zeros in front a list of digits is the numeral of its number. -/
theorem dec_of_val : ∀ (N : Nat) (l : List UInt8) (n : Int), l.length ≤ N → l ≠ [] → (l.length = 1 ∨ ∃ c r, l = c :: r ∧ c.toNat ≠ 48) → valL l 0 = some n → 0 ≤ n ∧ decDigits n.toNat = l := by
  intro N
  induction N with
  | zero => intro l n hN h0; exact absurd (List.length_eq_zero_iff.1 (by omega)) h0
  | succ N ih =>
    intro l n hN h0 hz hv
    rcases List.eq_nil_or_concat l with h | ⟨l', c, h⟩
    · exact absurd h h0
    · rw [List.concat_eq_append] at h
      subst h
      rw [valL_append] at hv
      cases hl : valL l' 0 with
      | none => rw [hl] at hv; cases hv
      | some m =>
        rw [hl] at hv
        have hv : valL [c] m = some n := hv
        rw [valL_one] at hv
        obtain ⟨c1, c2, c3, rfl⟩ := dgS_some hv
        by_cases hl0 : l' = []
        · subst hl0
          cases hl
          refine ⟨by omega, ?_⟩
          rw [show (10 * (0 : Int) + ((c.toNat : Int) - 48)).toNat = c.toNat - 48 by omega, decDigits_one (by omega), show 48 + (c.toNat - 48) = c.toNat by omega, toNat_ofNat]
          rfl
        · have hlen : 2 ≤ (l' ++ [c]).length := by
            have : l'.length ≠ 0 := fun h => hl0 (List.length_eq_zero_iff.1 h)
            simp; omega
          obtain ⟨d, r, hd, hd0⟩ : ∃ d r, l' = d :: r ∧ d.toNat ≠ 48 := by
            rcases hz with hz | ⟨d, r, hz, hd⟩
            · omega
            · cases l' with
              | nil => exact absurd rfl hl0
              | cons e r' =>
                simp only [List.cons_append, List.cons.injEq] at hz
                exact ⟨e, r', rfl, by rw [hz.1]; exact hd⟩
          obtain ⟨i1, i2⟩ := ih l' m (by simp at hN; omega) hl0 (.inr ⟨d, r, hd, hd0⟩) hl
          have hm : 1 ≤ m.toNat := by
            by_cases h : m.toNat = 0
            · rw [h, decDigits_one (by omega), hd] at i2
              simp only [List.cons.injEq] at i2
              exact absurd (by rw [← i2.1]; rfl) hd0
            · omega
          refine ⟨by omega, ?_⟩
          rw [show (10 * m + ((c.toNat : Int) - 48)).toNat = 10 * m.toNat + (c.toNat - 48) by omega, decDigits_ten (by omega), show (10 * m.toNat + (c.toNat - 48)) / 10 = m.toNat by omega, i2,
            show 48 + (10 * m.toNat + (c.toNat - 48)) % 10 = c.toNat by omega, toNat_ofNat]
theorem nDigits_lt : ∀ (k u : Nat), u < 10 ^ (k + 1) → nDigits u ≤ k + 1
  | 0, u, h => by rw [nDigits_small (by simpa using h)]; exact Nat.le_refl _
  | k + 1, u, h => by
    by_cases hs : u < 10
    · rw [nDigits_small hs]; omega
    · rw [nDigits_big hs]
      have := nDigits_lt k (u / 10) (by rw [Nat.pow_succ] at h; omega)
      omega
/-- What the reference's digits gives. -/
def dgF (l : List UInt8) : Bool := decide (l.length = 0) || decide (19 < l.length) || (decide (1 < l.length) && decide ((l.headD 0).toNat = 48))
def dgN (l : List UInt8) : Int := if dgF l = true then 0 else match valL l 0 with
  | some n => n
  | none => 0
def dgB (l : List UInt8) : Bool := if dgF l = true then false else match valL l 0 with
  | some n => decide (n ≤ 1000000000000000000)
  | none => false
theorem dg_spec {l : List UInt8} (h : dgB l = true) : 0 ≤ dgN l ∧ dgN l ≤ 1000000000000000000 ∧ decDigits (dgN l).toNat = l := by
  unfold dgB at h
  unfold dgN
  split at h
  · cases h
  · rename_i hf
    rw [if_neg hf]
    cases hv : valL l 0 with
    | none => rw [hv] at h; cases h
    | some n =>
      rw [hv] at h
      have h : n ≤ 1000000000000000000 := by simpa using h
      unfold dgF at hf
      simp only [Bool.or_eq_true, Bool.and_eq_true, decide_eq_true_eq, not_or, not_and] at hf
      obtain ⟨⟨f1, f2⟩, f3⟩ := hf
      have hne : l ≠ [] := fun he => f1 (by rw [he]; rfl)
      obtain ⟨g1, g2⟩ := dec_of_val _ l n (Nat.le_refl _) hne (by
        by_cases hl : 1 < l.length
        · right
          have := f3 hl
          cases l with
          | nil => exact absurd rfl hne
          | cons c r => exact ⟨c, r, rfl, this⟩
        · left; omega) hv
      exact ⟨g1, h, g2⟩
theorem dg_dec (u : Nat) (hu : u ≤ 1000000000000000000) : dgB (decDigits u) = true ∧ dgN (decDigits u) = (u : Int) := by
  have hv := valL_dec u u (Nat.le_refl _) (by omega)
  have hl : (decDigits u).length ≤ 19 := by
    rw [decDigits_length]
    exact nDigits_lt 18 u (by omega)
  have hf : dgF (decDigits u) = false := by
    unfold dgF
    simp only [Bool.or_eq_false_iff, Bool.and_eq_false_iff, decide_eq_false_iff_not]
    refine ⟨⟨fun h => dec_ne u (List.length_eq_zero_iff.1 h), by omega⟩, ?_⟩
    by_cases h0 : u = 0
    · left
      rw [h0, decDigits_one (by omega)]
      decide
    · right
      obtain ⟨c, r, h1, h2⟩ := dec_head u u (Nat.le_refl _) (by omega)
      rw [h1]
      exact h2
  unfold dgB dgN
  rw [if_neg (by rw [hf]; decide), if_neg (by rw [hf]; decide), hv]
  exact ⟨decide_eq_true (by omega), rfl⟩
theorem parse10_append : ∀ (l m : List UInt8) (a : Nat), parseUint10 a (l ++ m) = match parseUint10 a l with
    | .ok b => parseUint10 b m
    | Go.Lib.NumEnd.syntax => Go.Lib.NumEnd.syntax
    | .range => .range
  | [], m, a => rfl
  | c :: r, m, a => by
    simp only [List.cons_append, parseUint10]
    split
    · split
      · rfl
      · split
        · rfl
        · exact parse10_append r m _
    · rfl
theorem parse10_dec : ∀ (N u : Nat), u ≤ N → u ≤ 18446744073709551615 → parseUint10 0 (decDigits u) = .ok u := by
  intro N
  induction N with
  | zero =>
    intro u h _
    obtain rfl : u = 0 := by omega
    rw [decDigits_one (by omega)]
    simp [parseUint10]
  | succ N ih =>
    intro u h hu
    by_cases hs : u < 10
    · rw [decDigits_one hs]
      simp only [parseUint10]
      rw [ofNat_toNat _ (by omega), if_pos (by omega), if_neg (by omega), if_neg (by omega)]
      congr 1
      omega
    · rw [decDigits_ten hs, parse10_append, ih (u / 10) (by omega) (by omega)]
      simp only [parseUint10]
      rw [ofNat_toNat _ (by omega), if_pos (by omega), if_neg (by omega), if_neg (by omega)]
      congr 1
      omega
theorem atoi_itoa (n : Int) (h0 : -9223372036854775808 ≤ n) (h1 : n ≤ 9223372036854775807) : atoiAll (itoa n) = .ok n := by
  by_cases hn : n < 0
  · obtain ⟨u, rfl⟩ : ∃ u : Nat, n = -(u : Int) := ⟨n.natAbs, by omega⟩
    rw [itoa_neg u (by omega)]
    have hU : parseMag (decDigits u) = .ok u := by
      unfold parseMag
      rw [if_neg (dec_ne u)]
      exact parse10_dec u u (Nat.le_refl _) (by omega)
    unfold atoiAll
    have h45 : (45 : UInt8).toNat = 45 := rfl
    simp only [h45]
    rw [if_pos (by simp), hU]
    simp only
    rw [if_neg (by simp), if_neg (by omega), if_pos trivial]
  · obtain ⟨u, rfl⟩ : ∃ u : Nat, n = (u : Int) := ⟨n.toNat, by omega⟩
    rw [itoa_nonneg u]
    have hU : parseMag (decDigits u) = .ok u := by
      unfold parseMag
      rw [if_neg (dec_ne u)]
      exact parse10_dec u u (Nat.le_refl _) (by omega)
    cases hd : decDigits u with
    | nil => exact absurd hd (dec_ne u)
    | cons c r =>
      have hc := dec_digit u u (Nat.le_refl _) c (by rw [hd]; simp)
      unfold atoiAll
      simp only
      rw [if_neg (by omega), ← hd, hU]
      simp only
      rw [if_neg (by omega), if_neg (by omega), if_neg (by omega)]
/-- What begins with a letter is no number. -/
theorem atoi_name {c : UInt8} {r : List UInt8} (h : 97 ≤ c.toNat) : atoiAll (c :: r) = Go.Lib.NumEnd.syntax := by
  unfold atoiAll
  simp only
  rw [if_neg (by omega)]
  unfold parseMag
  rw [if_neg (by simp)]
  unfold parseUint10
  rw [if_neg (by omega)]
end Go.Dec
namespace Go.Proofs.YtopdfmhlgkbaaaaDoor
open Go.Ev Go.Lib Go.Dec
set_option linter.all false
theorem by_txt (l : List UInt8) : by_ (txt l) = l := rfl
theorem txt_by (s : ByteArray) : txt (by_ s) = s := by cases s; rfl
theorem txt_size (l : List UInt8) : (txt l).size = l.length := by
  show l.toArray.size = _
  simp
theorem txt_app (a b : List UInt8) : txt a ++ txt b = txt (a ++ b) := ByteArray.mk_append_mk a b
theorem size_by (s : ByteArray) : s.size = (by_ s).length := by
  unfold by_
  rw [Array.length_toList]; rfl
theorem toList_by (s : ByteArray) : s.toList = by_ s := ByteArray.toList_eq s
theorem by_inj {a b : ByteArray} (h : by_ a = by_ b) : a = b := by rw [← txt_by a, ← txt_by b, h]
theorem by_app (a b : ByteArray) : by_ (a ++ b) = by_ a ++ by_ b := by
  conv => lhs; rw [← txt_by a, ← txt_by b, txt_app]
  exact by_txt _
theorem getD_by (s : ByteArray) (i : Nat) : s.data.getD i 0 = (by_ s).getD i 0 := by
  unfold by_
  rw [Array.getD_eq_getD_getElem?, List.getD_eq_getElem?_getD, Array.getElem?_toList]
/-- Before the first byte k, and behind it. -/
def sp (k : UInt8) : List UInt8 → List UInt8 × Option (List UInt8)
  | [] => ([], none)
  | c :: r => if c = k then ([], some r) else (c :: (sp k r).1, (sp k r).2)
theorem sp_spec (k : UInt8) : ∀ l : List UInt8, l = (sp k l).1 ++ (match (sp k l).2 with | none => [] | some r => k :: r)
  | [] => rfl
  | c :: r => by
    unfold sp
    by_cases h : c = k
    · rw [if_pos h, h]; rfl
    · rw [if_neg h]
      have := sp_spec k r
      show c :: r = c :: ((sp k r).1 ++ _)
      rw [← this]
theorem sp_app (k : UInt8) : ∀ (x y : List UInt8), (∀ c ∈ x, c ≠ k) → sp k (x ++ k :: y) = (x, some y)
  | [], y, _ => by simp [sp]
  | c :: x, y, h => by
    show sp k (c :: (x ++ k :: y)) = _
    unfold sp
    rw [if_neg (h c (by simp)), sp_app k x y fun d hd => h d (by simp [hd])]
theorem sp_none (k : UInt8) : ∀ (x : List UInt8), (∀ c ∈ x, c ≠ k) → sp k x = (x, none)
  | [], _ => rfl
  | c :: x, h => by
    unfold sp
    rw [if_neg (h c (by simp)), sp_none k x fun d hd => h d (by simp [hd])]
theorem index_sp (k : UInt8) : ∀ l : List UInt8, index l [k] = match (sp k l).2 with | none => -1 | some _ => ((sp k l).1.length : Int)
  | [] => rfl
  | c :: r => by
    unfold index sp
    by_cases h : c = k
    · subst h
      rw [if_pos (by simp [List.isPrefixOf])]
      rw [if_pos rfl]
      rfl
    · have hp : [(k : UInt8)].isPrefixOf (c :: r) = false := by
        simp only [List.isPrefixOf, Bool.and_eq_false_iff]
        left
        exact beq_eq_false_iff_ne.2 fun e => h e.symm
      rw [if_neg (by rw [hp]; decide), if_neg h, index_sp k r]
      show (if _ then _ else _) = match (sp k r).2 with | none => (-1 : Int) | some _ => ((c :: (sp k r).1).length : Int)
      cases (sp k r).2 with
      | none => rfl
      | some y =>
        simp only [List.length_cons]
        rw [if_neg (by simp)]
        omega
theorem sp_take (k : UInt8) : ∀ l : List UInt8, l.take (sp k l).1.length = (sp k l).1 ∧ ((sp k l).2 = none → (sp k l).1.length = l.length) ∧ ∀ r, (sp k l).2 = some r → (sp k l).1.length < l.length ∧ l.drop ((sp k l).1.length + 1) = r ∧ l[(sp k l).1.length]? = some k
  | [] => ⟨rfl, fun _ => rfl, fun r h => by cases h⟩
  | c :: r => by
    unfold sp
    by_cases h : c = k
    · rw [if_pos h]
      exact ⟨rfl, (fun h => by cases h), fun y hy => by cases hy; exact ⟨by simp, by simp, by simp [h]⟩⟩
    · rw [if_neg h]
      obtain ⟨h1, h2, h3⟩ := sp_take k r
      refine ⟨by simp [h1], fun hn => by simp [h2 hn], fun y hy => ?_⟩
      obtain ⟨a, b, d⟩ := h3 y hy
      exact ⟨by simp; omega, by simpa using b, by simpa using d⟩
theorem sp_ne (k : UInt8) : ∀ (l : List UInt8) (i : Nat), i < (sp k l).1.length → ∃ c, l[i]? = some c ∧ c ≠ k
  | [], i, h => by simp [sp] at h
  | c :: r, i, h => by
    unfold sp at h
    by_cases hc : c = k
    · rw [if_pos hc] at h; simp at h
    · rw [if_neg hc] at h
      cases i with
      | zero => exact ⟨c, rfl, hc⟩
      | succ i =>
        obtain ⟨d, h1, h2⟩ := sp_ne k r i (by simpa using h)
        exact ⟨d, by simpa using h1, h2⟩
theorem cut_sp (k : UInt8) (l : List UInt8) : cut l [k] = ((sp k l).1, (sp k l).2.getD [], (sp k l).2.isSome) := by
  unfold cut
  rw [index_sp k]
  obtain ⟨h1, h2, h3⟩ := sp_take k l
  cases hs : (sp k l).2 with
  | none =>
    simp only [hs]
    rw [if_neg (by omega)]
    have := sp_spec k l
    rw [hs] at this
    simp only [List.append_nil] at this
    rw [← this]
    rfl
  | some y =>
    obtain ⟨a, b, _⟩ := h3 y hs
    simp only [hs]
    rw [if_pos (by omega), Int.toNat_natCast, h1]
    simp only [List.length_cons, List.length_nil, Nat.zero_add, b]
    rfl
/-- The pieces of a text, cut at the bytes k. -/
def pieces (k : UInt8) : List UInt8 → List (List UInt8)
  | [] => [[]]
  | c :: r => if c = k then [] :: pieces k r else match pieces k r with
    | [] => [[c]]
    | p :: ps => (c :: p) :: ps
theorem pieces_ne (k : UInt8) : ∀ l : List UInt8, pieces k l ≠ []
  | [] => by simp [pieces]
  | c :: r => by
    unfold pieces
    split
    · simp
    · split <;> simp
theorem pieces_sp (k : UInt8) : ∀ l : List UInt8, pieces k l = (sp k l).1 :: (match (sp k l).2 with | none => [] | some r => pieces k r)
  | [] => rfl
  | c :: r => by
    have e : sp k (c :: r) = if c = k then ([], some r) else (c :: (sp k r).1, (sp k r).2) := rfl
    have e2 : pieces k (c :: r) = if c = k then [] :: pieces k r else match pieces k r with
      | [] => [[c]]
      | p :: ps => (c :: p) :: ps := rfl
    rw [e, e2]
    by_cases h : c = k
    · rw [if_pos h, if_pos h]
    · rw [if_neg h, if_neg h, pieces_sp k r]
theorem pieces_none (k : UInt8) (x : List UInt8) (h : ∀ c ∈ x, c ≠ k) : pieces k x = [x] := by rw [pieces_sp, sp_none k x h]
theorem pieces_app (k : UInt8) (x y : List UInt8) (h : ∀ c ∈ x, c ≠ k) : pieces k (x ++ k :: y) = x :: pieces k y := by rw [pieces_sp, sp_app k x y h]
/-- What is put together of pieces comes apart into them. -/
theorem pieces_join (k : UInt8) : ∀ (x : List UInt8) (r : List (List UInt8)), (∀ p ∈ x :: r, ∀ c ∈ p, c ≠ k) → pieces k (x ++ (r.map (k :: ·)).flatten) = x :: r
  | x, [], h => by rw [List.map_nil, List.flatten_nil, List.append_nil]; exact pieces_none k x (h x (by simp))
  | x, y :: r, h => by
    rw [List.map_cons, List.flatten_cons, List.cons_append, pieces_app k x _ (h x (by simp)), pieces_join k y r fun p hp => h p (by simp [hp])]
theorem by_extract0 (s : ByteArray) (i : Nat) : by_ (s.extract 0 i) = (by_ s).take i := by
  unfold by_
  simp [ByteArray.data_extract, List.extract]
theorem by_extract1 (s : ByteArray) (i : Nat) : by_ (s.extract i s.size) = (by_ s).drop i := by
  unfold by_
  rw [ByteArray.data_extract]
  show (s.data.extract i s.data.size).toList = _
  rw [Array.toList_extract, List.extract, List.take_of_length_le (by simp)]
theorem splS_pieces (k : UInt8) : ∀ (n : Nat) (s : ByteArray), s.size ≤ n → (splS s ⟨#[k]⟩).map by_ = pieces k (by_ s) := by
  intro n
  induction n with
  | zero =>
    intro s hs
    have e : by_ s = [] := List.eq_nil_of_length_eq_zero (by rw [← size_by]; omega)
    have hi : indexB s ⟨#[k]⟩ = -1 := by
      show index (by_ s) [k] = -1
      rw [e]; rfl
    unfold splS
    rw [countB_miss _ _ hi, splitB_zero, e]
    show [by_ s] = [[]]
    rw [e]
  | succ n ih =>
    intro s hs
    have hx := index_sp k (by_ s)
    rw [pieces_sp]
    cases h2 : (sp k (by_ s)).2 with
    | none =>
      rw [h2] at hx
      have hi : indexB s ⟨#[k]⟩ = -1 := hx
      unfold splS
      rw [countB_miss _ _ hi, splitB_zero]
      have := sp_spec k (by_ s)
      rw [h2] at this
      simp only [List.append_nil] at this
      show [by_ s] = [(sp k (by_ s)).1]
      rw [← this]
    | some r =>
      rw [h2] at hx
      have hi : indexB s ⟨#[k]⟩ = (((sp k (by_ s)).1.length : Nat) : Int) := hx
      obtain ⟨t1, _, t3⟩ := sp_take k (by_ s)
      obtain ⟨a, b, _⟩ := t3 r h2
      have hsz : (⟨#[k]⟩ : ByteArray).size = 1 := rfl
      unfold splS
      rw [countB_hit s ⟨#[k]⟩ _ (Nat.le_refl _) hi, Nat.add_comm, splitB_hit _ _ _ _ _ hi, List.map_cons, hsz, Nat.add_zero]
      have e1 : by_ (s.extract 0 (sp k (by_ s)).1.length) = (sp k (by_ s)).1 := by rw [by_extract0, t1]
      have e2 : by_ (s.extract ((sp k (by_ s)).1.length + 1) s.size) = r := by rw [by_extract1, b]
      have hle : (s.extract ((sp k (by_ s)).1.length + 1) s.size).size ≤ n := by
        rw [size_by, e2, ← b, List.length_drop, ← size_by]
        rw [← size_by] at a
        omega
      have := ih _ hle
      unfold splS at this
      rw [e1, this, e2]
end Go.Proofs.YtopdfmhlgkbaaaaDoor
/- The reference's Decimal, Number, Cut. No conditions. -/
namespace Go.Proofs.YtopdfmhlgkbaaaaDoor
open Go.Ev Go.RowKit Go.Lib Go.Dec
set_option linter.all false
def digB (n : Int) : ByteArray := rowBytes ((Row.zeros 1).setI 0 0 (IntKind.u8.wrap (IntKind.i64.wrap (48 + n.tmod 10)))) 0 1
def SD (n : Int) (s : ByteArray) : St := ⟨[i64 n] ++ us 2 ++ [.string s] ++ us 27, [[]], []⟩
def SDx (s : ByteArray) : St := ⟨us 3 ++ [.string s] ++ us 27, [[]], []⟩
def dcT (u : Nat) (s : ByteArray) : ByteArray := if u = 0 then s else txt (decDigits u) ++ s
def GDc (n : Int) (s : ByteArray) : Bool := decide (0 ≤ n ∧ n < 9223372036854775808 ∧ s.size ≤ 900)
def GD : List It → (X → St → Option (List D)) → Option (List D)
  | [.i n, .s s], k => br (GDc n s) (k (.exit 0) (SDx (dcT n.toNat s))) none
  | _, _ => none
def lD : LoopC where
  f := 42
  id := 5
  lv := [0, 3]
  lx := [2, 3]
  p := { τ := [.v (.int .i64)] ++ pu 2 ++ [.v .str] ++ pu 27, saved := [[]], mem := [] }
  G := GD
def FdcV (c : Int → Bool) (dd : Int → ByteArray) : List D → Option (Bool × List D)
  | [.v (.int .i64 n)] => some (c n, [.v (.string (dd n))])
  | _ => none
noncomputable def CDv (c : Int → Bool) (dd : Int → ByteArray) : Cx := mkCx Tryd.prog fns [(42, FdcV c dd)] [lD]
theorem roundD (c : Int → Bool) (dd : Int → ByteArray) (p : Nat) (R : St → Option (List D)) (K : X → St → Option (List D)) (n : Int) (s : ByteArray) : evCode (CDv c dd) 42 true (inl (CDv c dd) (p + 4)) (lbody (CDv c dd).P 42 5) (SD n s) (rnd [0, 3] (some [2, 3]) R K) =
    br (decide (n > 0)) (br (decide (((((digB n).size + s.size : Nat)) : Int) > IntKind.i64.max)) none (R (SD (IntKind.i64.wrap (n.tdiv 10)) (digB n ++ s)))) (K (.exit 0) (SDx s)) := by kernel_rfl
def mn : ByteArray := ⟨⟨[45]⟩⟩
theorem u42 (c : Int → Bool) (dd : Int → ByteArray) (n : Int) : evF (CDv c dd) 6 42 [.v (i64 n)] =
    br (decide (n < 0)) (br (c (IntKind.i64.wrap (0 - n))) (br (decide (((mn.size + (dd (IntKind.i64.wrap (0 - n))).size : Nat) : Int) > IntKind.i64.max)) none (some [.v (.string (mn ++ dd (IntKind.i64.wrap (0 - n))))])) none) (br (GDc (IntKind.i64.wrap (n.tdiv 10)) (digB n)) (some [.v (.string (dcT (IntKind.i64.wrap (n.tdiv 10)).toNat (digB n)))]) none) := by kernel_rfl
def nuF : Option (List D) := some [.v (i64 0), .v (.bool false)]
def by0 (x : ByteArray) : Int := (((x.data.getD 0 0).toNat : Nat) : Int)
def gd0 (x : ByteArray) : Bool := decide ((0 : Int) ≤ 0) && decide ((0 : Int) < (x.size : Int))
def stU (x : ByteArray) (i : Nat) (n : Int) : Bool := decide ((((x.data.getD i 0).toNat : Nat) : Int) < 48) || decide ((((x.data.getD i 0).toNat : Nat) : Int) > 57)
def nxU (x : ByteArray) (i : Nat) (n : Int) : Int := 10 * n + ((((x.data.getD i 0).toNat : Nat) : Int) - 48)
def p47 : PSt := { τ := [.v (.str)] ++ pu 3 ++ [.v (.bool), .v (.int .i64), .v (.int .i64)] ++ pu 65, saved := [[]], mem := [] }
def d47 (its : List It) : Option (ByteArray × Bool × Int × Int) := match its with | [.s x, .b g, .i n, .i i] => some (x, g, n, i) | _ => none
def c47 (x : ByteArray) (n i : Int) : Bool := decide (x.size ≤ 10 ∧ n = 0 ∧ i = 0)
theorem c47_iff {x : ByteArray} {n i : Int} : c47 x n i = true ↔ x.size ≤ 10 ∧ n = 0 ∧ i = 0 := by unfold c47; rw [decide_eq_true_eq]
def l47 : RunL (ByteArray × Bool × Int × Int) Int where
  f := 47
  id := 8
  lv := [0, 4, 5, 6]
  lx := [2, 3, 4, 5]
  p := p47
  dat := d47
  S := fun (x, g, n, i) j a => [.s x, .b g, .i a, .i j]
  len := fun (x, g, n, i) => x.size
  cnd := fun (x, g, n, i) => c47 x n i
  ini := fun (x, g, n, i) => n
  stop := fun (x, g, n, i) => stU x
  nx := fun (x, g, n, i) => nxU x
  Kb := fun (x, g, n, i) j a K => K .ret ⟨us 2 ++ [i64 0, .bool false, .bool g, i64 a] ++ us 66, [[]], []⟩
  Ke := fun (x, g, n, i) a K => K (.exit 0) ⟨us 4 ++ [.bool g, i64 a] ++ us 66, [[]], []⟩
noncomputable def C47 : Cx := mkCx Tryd.prog fns [] [l47.C]
theorem r47 (R : St → Option (List D)) (K : X → St → Option (List D)) (q : Nat) (x : ByteArray) (g : Bool) (n i : Int) : bodyOf C47 47 8 q (Go.Ev.bst p47 [.s x, .b g, .i n, .i i]) (rnd [0, 4, 5, 6] (some [2, 3, 4, 5]) R K) =
    br (decide (i < (↑x.size : Int))) (br (decide (0 ≤ i) && decide (i < (↑x.size : Int))) (br (decide ((↑(x.data.getD i.toNat 0).toNat : Int) < 48)) (K .ret ⟨us 2 ++ [i64 (0), .bool (false), .bool (g), i64 (n)] ++ us 66, [[]], []⟩) (br (decide (0 ≤ i) && decide (i < (↑x.size : Int))) (br (decide ((↑(x.data.getD i.toNat 0).toNat : Int) > 57)) (K .ret ⟨us 2 ++ [i64 (0), .bool (false), .bool (g), i64 (n)] ++ us 66, [[]], []⟩) (br (decide (0 ≤ i) && decide (i < (↑x.size : Int))) (R ⟨[.string (x)] ++ us 3 ++ [.bool (g), i64 (IntKind.i64.wrap (IntKind.i64.wrap (10 * n) + IntKind.i64.wrap (IntKind.u8.wrap ((↑(x.data.getD i.toNat 0).toNat : Int) - 48)))), i64 (IntKind.i64.wrap (i + 1))] ++ us 65, [[]], []⟩) (none))) (none))) (none)) (K (.exit 0) ⟨us 4 ++ [.bool (g), i64 (n)] ++ us 66, [[]], []⟩) := by kernel_rfl
/-- A place at a byte, or not. -/
def cuB (s : ByteArray) (c : Int) (i : Nat) : Bool := (i : Int) == (s.size : Int) || (((s.data.getD i 0).toNat : Nat) : Int) == c
def psC (o : Row) (x : ByteArray) : Row := (winOf o 0 o.n).app (winOf ((Row.zeros 1).setS 0 0 x) 0 1)
def nx32 (s : ByteArray) (c : Int) (i : Nat) (a : Row × Nat) : Row × Nat := bif cuB s c i then (psC a.1 (s.extract a.2 i), i + 1) else a
def p32 : PSt := { τ := [.v (.str), .v (.int .u8)] ++ pu 3 ++ [.v (.sl 0), .v (.int .i64), .v (.int .i64)] ++ pu 27, saved := [[]], mem := [.row [.str] true] }
def d32 (its : List It) : Option (ByteArray × Int × Nat × Int × Int × Row) := match its with | [.s s, .i c, .n n, .i f, .i i, .r o] => some (s, c, n, f, i, o) | _ => none
def c32 (s : ByteArray) (n : Nat) (f i : Int) (o : Row) : Bool := decide (s.size ≤ 1000000 ∧ n = o.n ∧ o.n = 0 ∧ f = 0 ∧ i = 0)
theorem c32_iff {s : ByteArray} {n : Nat} {f i : Int} {o : Row} : c32 s n f i o = true ↔ s.size ≤ 1000000 ∧ n = o.n ∧ o.n = 0 ∧ f = 0 ∧ i = 0 := by unfold c32; rw [decide_eq_true_eq]
def l32 : FoldL (ByteArray × Int × Nat × Int × Int × Row) (Row × Nat) where
  f := 32
  id := 4
  lv := [0, 1, 5, 6, 7, 100005]
  lx := [4, 5]
  p := p32
  dat := d32
  S := fun (s, c, n, f, i, o) j a => [.s s, .i c, .n a.1.n, .i a.2, .i j, .r a.1]
  len := fun (s, c, n, f, i, o) => s.size + 1
  cnd := fun (s, c, n, f, i, o) => c32 s n f i o
  ini := fun (s, c, n, f, i, o) => (o, 0)
  nx := fun (s, c, n, f, i, o) => nx32 s c
  Ke := fun _ a K => K (.exit 0) ⟨us 5 ++ [.slice (some ⟨0, 0, some 0⟩) (a.1.n) (0)] ++ us 29, [[]], [some (.row [.str] true (a.1))]⟩
noncomputable def C32 : Cx := mkCx Tryd.prog fns [] [l32.C]
theorem r32 (R : St → Option (List D)) (K : X → St → Option (List D)) (q : Nat) (s : ByteArray) (c : Int) (n : Nat) (f i : Int) (o : Row) : bodyOf C32 32 4 q (Go.Ev.bst p32 [.s s, .i c, .n n, .i f, .i i, .r o]) (rnd [0, 1, 5, 6, 7, 100005] (some [4, 5]) R K) =
    br (decide (i ≤ (↑s.size : Int))) (br (i == (↑s.size : Int)) (br (decide (0 ≤ i) && decide (i ≤ (↑s.size : Int))) (br (decide (0 ≤ f) && decide (f ≤ (↑i.toNat : Int))) (br (decide (n + (winOf ((Row.zeros 1).setS 0 0 (s.extract f.toNat i.toNat)) 0 1).n ≤ 10000000000)) (R ⟨[.string (s), .int .u8 (c)] ++ us 3 ++ [.slice (some ⟨0, 0, some 0⟩) (n + 1) (0), i64 (IntKind.i64.wrap (i + 1)), i64 (IntKind.i64.wrap (i + 1))] ++ us 27, [[]], [some (.row [.str] true ((winOf o 0 n).app (winOf ((Row.zeros 1).setS 0 0 (s.extract f.toNat i.toNat)) 0 1)))]⟩) (none)) (none)) (none)) (br (decide (0 ≤ i) && decide (i < (↑s.size : Int))) (br ((↑(s.data.getD i.toNat 0).toNat : Int) == c) (br (decide (0 ≤ i) && decide (i ≤ (↑s.size : Int))) (br (decide (0 ≤ f) && decide (f ≤ (↑i.toNat : Int))) (br (decide (n + (winOf ((Row.zeros 1).setS 0 0 (s.extract f.toNat i.toNat)) 0 1).n ≤ 10000000000)) (R ⟨[.string (s), .int .u8 (c)] ++ us 3 ++ [.slice (some ⟨0, 0, some 0⟩) (n + 1) (0), i64 (IntKind.i64.wrap (i + 1)), i64 (IntKind.i64.wrap (i + 1))] ++ us 27, [[]], [some (.row [.str] true ((winOf o 0 n).app (winOf ((Row.zeros 1).setS 0 0 (s.extract f.toNat i.toNat)) 0 1)))]⟩) (none)) (none)) (none)) (R ⟨[.string (s), .int .u8 (c)] ++ us 3 ++ [.slice (some ⟨0, 0, some 0⟩) (n) (0), i64 (f), i64 (IntKind.i64.wrap (i + 1))] ++ us 27, [[]], [some (.row [.str] true (o))]⟩)) (none))) (K (.exit 0) ⟨us 5 ++ [.slice (some ⟨0, 0, some 0⟩) (n) (0)] ++ us 29, [[]], [some (.row [.str] true (o))]⟩) := by kernel_rfl
theorem u32 (s : ByteArray) (c : Int) : evF C32 6 32 [.v (.string s), .v (u8 c)] =
    br (c32 s 0 0 0 Row.nil) (some [.slice [.str] (winOf (fldN (l32.nx (s, c, 0, 0, 0, Row.nil)) (l32.len (s, c, 0, 0, 0, Row.nil)) 0 (l32.ini (s, c, 0, 0, 0, Row.nil))).1 0 (fldN (l32.nx (s, c, 0, 0, 0, Row.nil)) (l32.len (s, c, 0, 0, 0, Row.nil)) 0 (l32.ini (s, c, 0, 0, 0, Row.nil))).1.n)]) (none) := by kernel_rfl
theorem digB_eq (u : Nat) (h : u < 9223372036854775808) : digB (u : Int) = txt [UInt8.ofNat (48 + u % 10)] := by
  have e1 : ((u : Int)).tmod 10 = ((u % 10 : Nat) : Int) := by rw [Int.tmod_eq_emod_of_nonneg (by omega)]; omega
  have e2 : IntKind.u8.wrap (IntKind.i64.wrap (48 + ((u % 10 : Nat) : Int))) = ((48 + u % 10 : Nat) : Int) := by
    rw [wrap64 (by omega) (by omega)]
    exact wrap_id (by simp [Lit.wf, IntKind.min, IntKind.max, IntKind.signed, IntKind.bits]; omega)
  unfold digB
  rw [e1, e2]
  show txt [UInt8.ofNat (((48 + u % 10 : Nat) : Int)).toNat] = _
  rw [Int.toNat_natCast]
theorem i64max : IntKind.i64.max = 9223372036854775807 := by decide
theorem dc_step {u : Nat} (h : u ≠ 0) (s : ByteArray) : dcT (u / 10) (txt [UInt8.ofNat (48 + u % 10)] ++ s) = dcT u s := by
  unfold dcT
  rw [if_neg h]
  by_cases hs : u < 10
  · rw [if_pos (by omega), decDigits_one hs, show 48 + u % 10 = 48 + u by omega]
  · rw [if_neg (by omega), decDigits_ten hs, ← txt_app, ByteArray.append_assoc]
theorem go_dec {f : St → (X → St → Option (List D)) → Option (List D)} (hr : ∀ n s R K, f (SD n s) (rnd [0, 3] (some [2, 3]) R K) = br (decide (n > 0)) (br (decide (((((digB n).size + s.size : Nat)) : Int) > IntKind.i64.max)) none (R (SD (IntKind.i64.wrap (n.tdiv 10)) (digB n ++ s)))) (K (.exit 0) (SDx s))) (K : X → St → Option (List D)) :
    ∀ (N u : Nat) (s : ByteArray), (u = 0 ∨ nDigits u ≤ N) → u < 9223372036854775808 → s.size + N ≤ 1000 → ∀ F, N < F → rounds [0, 3] (some [2, 3]) f F (SD u s) K = K (.exit 0) (SDx (dcT u s))
  | N, 0, s, h, _, _, F, hF => by
    obtain ⟨F, rfl⟩ : ∃ F', F = F' + 1 := ⟨F - 1, by omega⟩
    rw [rnds1, hr]
    rfl
  | 0, u + 1, s, h, _, _, F, _ => by have := nDigits_pos (u + 1); omega
  | N + 1, u + 1, s, h, h1, h2, F, hF => by
    obtain ⟨F, rfl⟩ : ∃ F', F = F' + 1 := ⟨F - 1, by omega⟩
    have hsz : (txt [UInt8.ofNat (48 + (u + 1) % 10)]).size = 1 := rfl
    have e1 : (((u + 1 : Nat) : Int)).tdiv 10 = (((u + 1) / 10 : Nat) : Int) := by rw [Int.tdiv_eq_ediv_of_nonneg (by omega)]; omega
    rw [rnds1, hr, decide_eq_true (show ((u + 1 : Nat) : Int) > 0 by omega), br_true, digB_eq (u + 1) h1, hsz, decide_eq_false (show ¬ (((1 + s.size : Nat) : Int) > IntKind.i64.max) by rw [i64max]; omega), br_false, e1, wrap64 (by omega) (by omega)]
    rw [go_dec hr K N ((u + 1) / 10) (txt [UInt8.ofNat (48 + (u + 1) % 10)] ++ s) (by
      by_cases hs : u + 1 < 10
      · exact .inl (by omega)
      · have := nDigits_big hs
        exact .inr (by omega)) (by omega) (by rw [ByteArray.size_append, hsz]; omega) F (by omega), dc_step (by omega)]
set_option maxRecDepth 100000 in
theorem loopD (c : Int → Bool) (dd : Int → ByteArray) : LoopOk (CDv c dd) lD := ⟨by kernel_rfl, fun q its k rr h => by
  show rounds [0, 3] (some [2, 3]) (evCode (CDv c dd) 42 true (inl (CDv c dd) (q + 4)) (lbody (CDv c dd).P 42 5)) 18446744073709551616 (bst lD.p its) k = some rr
  change GD its k = some rr at h
  unfold GD at h
  split at h
  · rename_i n s
    rcases br_some h with ⟨h1, h2⟩ | ⟨_, h2⟩
    · obtain ⟨k1, k2, k3⟩ := of_decide_eq_true h1
      obtain ⟨u, rfl⟩ := Int.eq_ofNat_of_zero_le k1
      rw [← h2, Int.toNat_natCast]
      exact go_dec (fun n s R K => roundD c dd q R K n s) k 19 u s (.inr (nDigits_lt 18 u (by omega))) (by omega) (by omega) _ (by omega)
    · cases h2
  · cases h⟩
theorem CDv_ok {c : Int → Bool} {dd : Int → ByteArray} (h : Den Tryd.prog 42 (FdcV c dd)) : CxOk (CDv c dd) := mkCx_ok enter mixed (fun p hp => by
  simp only [List.mem_cons, List.not_mem_nil, or_false] at hp
  rcases hp with rfl
  exact h) (fun l h => by
  simp only [List.mem_cons, List.not_mem_nil, or_false] at h
  rcases h with rfl
  exact loopD c dd)
def dcP (n : Int) : Bool := decide (0 ≤ n) && decide (n < 9223372036854775808)
def dcA (n : Int) : Bool := decide (-9223372036854775808 < n) && decide (n < 9223372036854775808)
def ddP (n : Int) : ByteArray := txt (itoa n)
theorem dec_tree {c : Int → Bool} {dd : Int → ByteArray} (n : Int) (h0 : 0 ≤ n) (h1 : n < 9223372036854775808) : evF (CDv c dd) 6 42 [.v (i64 n)] = some [.v (.string (ddP n))] := by
  obtain ⟨u, rfl⟩ := Int.eq_ofNat_of_zero_le h0
  have e1 : ((u : Int)).tdiv 10 = ((u / 10 : Nat) : Int) := by rw [Int.tdiv_eq_ediv_of_nonneg (by omega)]; omega
  refine (u42 c dd u).trans ?_
  rw [decide_eq_false (by omega), br_false, e1, wrap64 (by omega) (by omega), digB_eq u (by omega), show GDc ((u / 10 : Nat) : Int) (txt [UInt8.ofNat (48 + u % 10)]) = true from decide_eq_true ⟨by omega, by omega, Nat.le_of_ble_eq_true rfl⟩, br_true, Int.toNat_natCast]
  congr 3
  unfold ddP
  rw [itoa_nonneg u]
  by_cases hu : u = 0
  · subst hu
    unfold dcT
    rw [if_pos (by omega), decDigits_one (by omega)]
  · have := dc_step hu ⟨#[]⟩
    have e : ∀ x : ByteArray, x ++ (⟨#[]⟩ : ByteArray) = x := fun x => by
      have := txt_app (by_ x) []
      rw [List.append_nil, txt_by] at this
      exact this
    rw [e] at this
    rw [this]
    unfold dcT
    rw [if_neg hu, e]
theorem den_dec0 : Den Tryd.prog 42 (FdcV (fun _ => false) ddP) := fun wb ds rs h => by
  unfold FdcV at h
  split at h <;> cases h
theorem den_decP : Den Tryd.prog 42 (FdcV dcP ddP) := evF_den (CDv_ok den_dec0) fun ds rs h => by
  unfold FdcV at h
  split at h
  · rename_i n
    simp only [Option.some.injEq, Prod.mk.injEq, dcP, Bool.and_eq_true, decide_eq_true_eq] at h
    obtain ⟨⟨h0, h1⟩, rfl⟩ := h
    exact dec_tree n h0 h1
  · cases h
def Fdec : List D → Option (Bool × List D) := FdcV dcA ddP
theorem itoa_len {n : Int} (h : iR n = true) : (itoa n).length ≤ 21 := by
  obtain ⟨h0, h1⟩ := iR_iff.1 h
  unfold itoa
  by_cases hn : n < 0
  · rw [if_pos hn]
    have := decDigits_length n.natAbs
    have h3 := nDigits_lt 19 n.natAbs (by omega)
    simp only [List.length_cons]
    omega
  · rw [if_neg hn]
    have := decDigits_length n.toNat
    have h3 := nDigits_lt 19 n.toNat (by omega)
    omega
theorem den_dec : Den Tryd.prog 42 Fdec := evF_den (CDv_ok den_decP) fun ds rs h => by
  unfold Fdec FdcV at h
  split at h
  · rename_i n
    simp only [Option.some.injEq, Prod.mk.injEq, dcA, Bool.and_eq_true, decide_eq_true_eq] at h
    obtain ⟨⟨h0, h1⟩, rfl⟩ := h
    by_cases hn : n < 0
    · refine (u42 dcP ddP n).trans ?_
      have h2 : (ddP (0 - n)).size ≤ 21 := by
        unfold ddP
        rw [txt_size]
        exact itoa_len (iR_iff.2 (by omega))
      rw [decide_eq_true hn, br_true, wrap64 (by omega) (by omega), show dcP (0 - n) = true by unfold dcP; simp only [Bool.and_eq_true, decide_eq_true_eq]; omega, br_true, decide_eq_false (show ¬ (((mn.size + (ddP (0 - n)).size : Nat) : Int) > IntKind.i64.max) by rw [i64max, show mn.size = 1 from rfl]; omega), br_false]
      congr 4
      unfold ddP
      show txt [45] ++ _ = _
      rw [txt_app]
      obtain ⟨u, rfl⟩ : ∃ u : Nat, n = -(u : Int) := ⟨n.natAbs, by omega⟩
      rw [itoa_neg u (by omega), show (0 : Int) - -(u : Int) = (u : Int) by omega, itoa_nonneg u]
      rfl
    · exact dec_tree n (by omega) h1
  · cases h
/-! ### Number -/
def nuG (s : ByteArray) : Bool := decide ((s.size : Int) > 1) && by0 s == 45
def nuX (s : ByteArray) : ByteArray := bif nuG s then s.extract 1 s.size else s
def nuR (x : ByteArray) : Bool × Nat × Int := runS (stU x) (nxU x) x.size 0 0
/-- What stands behind the loop. -/
def nuH (g : Bool) (x : ByteArray) : Option (List D) := br (c47 x 0 0) (br (nuR x).1 nuF (br g (some [.v (i64 (IntKind.i64.wrap (0 - (nuR x).2.2))), .v (.bool true)]) (some [.v (i64 (nuR x).2.2), .v (.bool true)]))) none
def nuT (q : Bool) (x : ByteArray) (H : Option (List D)) : Option (List D) :=
  br (decide ((x.size : Int) < 1)) nuF (br (decide ((x.size : Int) > 10)) nuF (br (decide ((x.size : Int) > 1)) (br (gd0 x) (br (by0 x == 48) nuF (br q (br (gd0 x) (br (by0 x == 48) nuF H) none) H)) none) (br q (br (gd0 x) (br (by0 x == 48) nuF H) none) H)))
def nuT0 (x : ByteArray) (H : Option (List D)) : Option (List D) :=
  br (decide ((x.size : Int) < 1)) nuF (br (decide ((x.size : Int) > 10)) nuF (br (decide ((x.size : Int) > 1)) (br (gd0 x) (br (by0 x == 48) nuF H) none) H))
theorem u47 (s : ByteArray) : evF C47 6 47 [.v (.string s)] =
    br (decide ((s.size : Int) > 1)) (br (gd0 s) (br (by0 s == 45) (br (decide ((0 : Int) ≤ (s.size : Int)) && decide ((s.size : Int) ≤ (s.size : Int))) (br (decide ((0 : Int) ≤ 1) && decide ((1 : Int) ≤ (((s.size : Int).toNat : Nat) : Int))) (nuT (by0 s == 45) (s.extract 1 s.size) (nuH (by0 s == 45) (s.extract 1 s.size))) none) none) (nuT (by0 s == 45) s (nuH (by0 s == 45) s))) none) (nuT0 s (nuH false s)) := by kernel_rfl
set_option maxRecDepth 100000 in
theorem ok47 : LoopOk C47 l47.C := l47.ok (fun (x, g, n, i) j a => 0 ≤ a ∧ a < 10 ^ j) (by kernel_rfl)
  (fun its x h hc => by
    replace h : d47 its = some x := h
    unfold d47 at h
    split at h
    · cases h
      obtain ⟨h1, h2, h3⟩ := c47_iff.1 hc
      subst h2 h3
      rfl
    · cases h)
  (fun ⟨x, g, n, i⟩ hc => by have := (c47_iff.1 hc).1; show x.size < 18446744073709551616; omega)
  (fun ⟨x, g, n, i⟩ hc => by obtain ⟨_, h2, _⟩ := c47_iff.1 hc; subst h2; exact ⟨Int.le_refl _, (by show (0 : Int) < 10 ^ 0; decide)⟩)
  (fun ⟨x, g, n, i⟩ j a hc hj hI hs => by
    obtain ⟨h1, h2⟩ := hI
    replace hs : stU x j a = false := hs
    unfold stU at hs
    simp only [Bool.or_eq_false_iff, decide_eq_false_iff_not] at hs
    show 0 ≤ nxU x j a ∧ nxU x j a < 10 ^ (j + 1)
    unfold nxU
    rw [Int.pow_succ]
    omega)
  (fun q ⟨x, g, n, i⟩ j a hc hj hI R K => by
    obtain ⟨h0, _, _⟩ := c47_iff.1 hc
    obtain ⟨h1, h2⟩ := hI
    replace hj : j < x.size := hj
    have h3 : (10 : Int) ^ j ≤ 10 ^ 10 := by
      have : j = 0 ∨ j = 1 ∨ j = 2 ∨ j = 3 ∨ j = 4 ∨ j = 5 ∨ j = 6 ∨ j = 7 ∨ j = 8 ∨ j = 9 := by omega
      rcases this with e | e | e | e | e | e | e | e | e | e <;> rw [e] <;> decide
    have key : ∀ v : Int, 48 ≤ v → v ≤ 57 → IntKind.u8.wrap (v - 48) = v - 48 := fun v h1 h2 => wrap_id (by simp [Lit.wf, IntKind.min, IntKind.max, IntKind.signed, IntKind.bits]; omega)
    have h4 : (10 : Int) ^ 10 = 10000000000 := by decide
    refine (r47 R K q x g a j).trans ?_
    rw [Int.toNat_natCast, gd j x.size hj, ltd j x.size hj, wsn (by omega)]
    show br true (br true (br (decide ((((x.data.getD j 0).toNat : Nat) : Int) < 48)) _ (br true (br (decide ((((x.data.getD j 0).toNat : Nat) : Int) > 57)) _ _) _)) _) _ = br (stU x j a) _ _
    unfold stU
    by_cases a1 : (((x.data.getD j 0).toNat : Nat) : Int) < 48
    · rw [decide_eq_true a1]; rfl
    · by_cases a2 : (((x.data.getD j 0).toNat : Nat) : Int) > 57
      · rw [decide_eq_false a1, decide_eq_true a2]; rfl
      · rw [decide_eq_false a1, decide_eq_false a2]
        have e : IntKind.i64.wrap (IntKind.i64.wrap (10 * a) + IntKind.i64.wrap (IntKind.u8.wrap ((((x.data.getD j 0).toNat : Nat) : Int) - 48))) = nxU x j a := by
          rw [key _ (by omega) (by omega), wrap64 (n := 10 * a) (by omega) (by omega), wrap64 (n := (((x.data.getD j 0).toNat : Nat) : Int) - 48) (by omega) (by omega), wrap64 (by omega) (by omega)]
          rfl
        rw [e]; rfl)
  (fun q ⟨x, g, n, i⟩ a hc hI R K => by
    refine (r47 R K q x g a x.size).trans ?_
    rw [ltn x.size]
    rfl)
theorem C47_ok : CxOk C47 := mkCx_ok enter mixed (fun p h => by cases h) (fun l h => by
  simp only [List.mem_cons, List.not_mem_nil, or_false] at h
  rcases h with rfl
  exact ok47)
/-- Whether a text is a number, and which one. -/
def nuBq (q : Bool) (x : ByteArray) : Bool := decide (1 ≤ x.size ∧ x.size ≤ 10) && !(decide (x.size > 1) && by0 x == 48) && !(q && by0 x == 48) && !(nuR x).1
def nuVq (q : Bool) (x : ByteArray) : Int := bif q then IntKind.i64.wrap (0 - (nuR x).2.2) else (nuR x).2.2
def nuB (s : ByteArray) : Bool := nuBq (nuG s) (nuX s)
def nuN (s : ByteArray) : Int := bif nuB s then nuVq (nuG s) (nuX s) else 0
def Fnum : List D → Option (Bool × List D)
  | [.v (.string s)] => some (true, [.v (i64 (nuN s)), .v (.bool (nuB s))])
  | _ => none
theorem gd0_iff {x : ByteArray} : gd0 x = decide (0 < x.size) := by
  unfold gd0
  rw [decide_eq_true (show (0 : Int) ≤ 0 by omega), Bool.true_and]
  by_cases h : 0 < x.size
  · rw [decide_eq_true h, decide_eq_true (by omega)]
  · rw [decide_eq_false h, decide_eq_false (by omega)]
theorem nuT_eq (q : Bool) (x : ByteArray) : nuT q x (nuH q x) = some [.v (i64 (bif nuBq q x then nuVq q x else 0)), .v (.bool (nuBq q x))] := by
  unfold nuBq nuVq
  unfold nuT nuH
  rw [gd0_iff]
  by_cases h1 : x.size < 1
  · rw [decide_eq_true (show (x.size : Int) < 1 by omega), decide_eq_false (show ¬ (1 ≤ x.size ∧ x.size ≤ 10) by omega)]; rfl
  · rw [decide_eq_false (show ¬ (x.size : Int) < 1 by omega), decide_eq_true (show 0 < x.size by omega)]
    by_cases h2 : x.size > 10
    · rw [decide_eq_true (show (x.size : Int) > 10 by omega), decide_eq_false (show ¬ (1 ≤ x.size ∧ x.size ≤ 10) by omega)]; rfl
    · rw [decide_eq_false (show ¬ (x.size : Int) > 10 by omega), decide_eq_true (show 1 ≤ x.size ∧ x.size ≤ 10 by omega), c47_iff.2 ⟨by omega, rfl, rfl⟩]
      by_cases h3 : x.size > 1
      · rw [decide_eq_true (show (x.size : Int) > 1 by omega), decide_eq_true h3]
        cases by0 x == 48 <;> cases q <;> cases (nuR x).1 <;> rfl
      · rw [decide_eq_false (show ¬ (x.size : Int) > 1 by omega), decide_eq_false h3]
        cases by0 x == 48 <;> cases q <;> cases (nuR x).1 <;> rfl
theorem nuT0_eq (x : ByteArray) (H : Option (List D)) : nuT0 x H = nuT false x H := rfl
theorem den_num : Den Tryd.prog 47 Fnum := evF_den C47_ok fun ds rs h => by
  unfold Fnum at h
  split at h
  · rename_i s
    simp only [Option.some.injEq, Prod.mk.injEq, true_and] at h
    subst h
    refine (u47 s).trans ?_
    unfold nuN nuB
    by_cases h1 : (s.size : Int) > 1
    · rw [decide_eq_true h1, br_true, gd0_iff, decide_eq_true (show 0 < s.size by omega), br_true]
      cases hq : by0 s == 45
      · have e1 : nuG s = false := by unfold nuG; rw [hq, Bool.and_false]
        have e2 : nuX s = s := by unfold nuX; rw [e1]; rfl
        rw [br_false, nuT_eq, e2, e1]
      · have e1 : nuG s = true := by unfold nuG; rw [hq, decide_eq_true h1]; rfl
        have e2 : nuX s = s.extract 1 s.size := by unfold nuX; rw [e1]; rfl
        rw [br_true, decide_eq_true (show (0 : Int) ≤ (s.size : Int) by omega), decide_eq_true (show (s.size : Int) ≤ (s.size : Int) by omega), decide_eq_true (show (1 : Int) ≤ (((s.size : Int).toNat : Nat) : Int) by omega), e2, e1]
        exact nuT_eq true _
    · have e1 : nuG s = false := by unfold nuG; rw [decide_eq_false h1]; rfl
      have e2 : nuX s = s := by unfold nuX; rw [e1]; rfl
      rw [decide_eq_false h1, br_false, nuT0_eq, nuT_eq, e2, e1]
  · cases h
end Go.Proofs.YtopdfmhlgkbaaaaDoor
/- The reference's Cut; what is written of a line. No conditions. -/
namespace Go.Proofs.YtopdfmhlgkbaaaaDoor
open Go.Ev Go.RowKit Go.Lib Go.Dec
set_option linter.all false
theorem psC_n (r : Row) (x : ByteArray) : (psC r x).n = r.n + 1 := rfl
theorem psC_lo (r : Row) (x : ByteArray) {i : Nat} (h : i < r.n) : (psC r x).S i 0 = r.S i 0 := congrFun (app_at (winOf r 0 r.n) (winOf ((Row.zeros 1).setS 0 0 x) 0 1) (i := i) h).1.2 0
theorem psC_hi (r : Row) (x : ByteArray) : (psC r x).S r.n 0 = x := by
  refine (congrFun (app_nx (winOf r 0 r.n) (winOf ((Row.zeros 1).setS 0 0 x) 0 1) (i := r.n) (Nat.lt_irrefl _)).1.2 0).trans ?_
  rw [show r.n - (winOf r 0 r.n).n = 0 from Nat.sub_self _]
  rfl
theorem strs_psC (r : Row) (x : ByteArray) : strs (psC r x) (psC r x).n = strs r r.n ++ [x] := by
  unfold strs
  rw [psC_n, List.range_succ, List.map_append]
  congr 1
  · refine List.map_congr_left fun e he => ?_
    exact psC_lo r x (List.mem_range.1 he)
  · show [(psC r x).S r.n 0] = [x]
    rw [psC_hi]
theorem strs_win (r : Row) (n : Nat) : strs (winOf r 0 n) n = strs r n := rfl
theorem cuB_eq {s : ByteArray} {c : Int} {i : Nat} : cuB s c i = (decide (i = s.size) || (((s.data.getD i 0).toNat : Nat) : Int) == c) := by
  unfold cuB
  congr 1
  by_cases h : i = s.size
  · rw [decide_eq_true h]; simp; omega
  · rw [decide_eq_false h]; simp; omega
set_option maxRecDepth 100000 in
theorem ok32 : LoopOk C32 l32.C := l32.ok (fun (s, c, n, f, i, o) j a => a.1.n ≤ j ∧ a.2 ≤ j) (by kernel_rfl)
  (fun its x h hc => by
    replace h : d32 its = some x := h
    unfold d32 at h
    split at h
    · cases h
      obtain ⟨h1, h2, h3, h4, h5⟩ := c32_iff.1 hc
      subst h2 h4 h5
      rfl
    · cases h)
  (fun ⟨s, c, n, f, i, o⟩ hc => by have := (c32_iff.1 hc).1; show s.size + 1 < 18446744073709551616; omega)
  (fun ⟨s, c, n, f, i, o⟩ hc => by
    have := (c32_iff.1 hc).2.2.1
    exact ⟨by show o.n ≤ 0; omega, Nat.le_refl _⟩)
  (fun ⟨s, c, n, f, i, o⟩ j a hc hj hI => by
    obtain ⟨h1, h2⟩ := hI
    show (nx32 s c j a).1.n ≤ j + 1 ∧ (nx32 s c j a).2 ≤ j + 1
    unfold nx32
    cases cuB s c j
    · exact ⟨by show a.1.n ≤ j + 1; omega, by show a.2 ≤ j + 1; omega⟩
    · exact ⟨by show a.1.n + 1 ≤ j + 1; omega, Nat.le_refl _⟩)
  (fun q ⟨s, c, n, f, i, o⟩ j a hc hj hI R K => by
    obtain ⟨h0, _⟩ := c32_iff.1 hc
    obtain ⟨h1, h2⟩ := hI
    replace hj : j < s.size + 1 := hj
    refine (r32 R K q s c a.1.n a.2 j a.1).trans ?_
    rw [decide_eq_true (show (j : Int) ≤ (s.size : Int) by omega), wsn (by omega), decide_eq_true (show (0 : Int) ≤ (j : Int) by omega), Int.toNat_natCast, decide_eq_true (show (0 : Int) ≤ (a.2 : Int) by omega), decide_eq_true (show (a.2 : Int) ≤ ((j : Nat) : Int) by omega), Int.toNat_natCast, decide_eq_true (show a.1.n + (winOf ((Row.zeros 1).setS 0 0 (s.extract a.2 j)) 0 1).n ≤ 10000000000 from (by show a.1.n + 1 ≤ 10000000000; omega))]
    show _ = R (Go.Ev.bst p32 (l32.S (s, c, n, f, i, o) (j + 1) (nx32 s c j a)))
    unfold nx32 cuB
    cases he : ((j : Int) == (s.size : Int))
    · have he : j < s.size := by simp at he; omega
      rw [decide_eq_true (show (j : Int) < (s.size : Int) by omega)]
      cases ((((s.data.getD j 0).toNat : Nat) : Int) == c) <;> rfl
    · rfl)
  (fun q ⟨s, c, n, f, i, o⟩ a hc hI R K => by
    refine (r32 R K q s c a.1.n a.2 ((s.size + 1 : Nat) : Int) a.1).trans ?_
    rw [decide_eq_false (show ¬ ((s.size + 1 : Nat) : Int) ≤ (s.size : Int) by omega)]
    rfl)
theorem C32_ok : CxOk C32 := mkCx_ok enter mixed (fun p h => by cases h) (fun l h => by
  simp only [List.mem_cons, List.not_mem_nil, or_false] at h
  rcases h with rfl
  exact ok32)
def cutR (s : ByteArray) (c : Int) : Row := wiR (fldN (nx32 s c) (s.size + 1) 0 (.nil, 0)).1
def FcutR : List D → Option (Bool × List D)
  | [.v (.string s), .v (.int .u8 c)] => some (decide (s.size ≤ 1000000), [.slice [.str] (cutR s c)])
  | _ => none
theorem den_cutR : Den Tryd.prog 32 FcutR := evF_den C32_ok fun ds rs h => by
  unfold FcutR at h
  split at h
  · rename_i s c
    simp only [Option.some.injEq, Prod.mk.injEq, decide_eq_true_eq] at h
    obtain ⟨h0, rfl⟩ := h
    refine (u32 s c).trans ?_
    rw [show c32 s 0 0 0 Row.nil = true from c32_iff.2 ⟨h0, rfl, rfl, rfl, rfl⟩]
    rfl
  · cases h
theorem by_ext (s : ByteArray) (a b : Nat) : by_ (s.extract a b) = ((by_ s).take b).drop a := by
  unfold by_
  rw [ByteArray.data_extract, Array.toList_extract, List.extract, List.drop_take]
theorem cut_pieces (s : ByteArray) (k : UInt8) : (strs (cutR s (k.toNat : Int)) (cutR s (k.toNat : Int)).n).map by_ = pieces k (by_ s) := by
  have hlen := size_by s
  have h := fold_inv (Inv := fun j (a : Row × Nat) => if j ≤ s.size then a.2 ≤ j ∧ (strs a.1 a.1.n).map by_ ++ pieces k ((by_ s).drop a.2) = pieces k (by_ s) ∧ ∀ i, a.2 ≤ i → i < j → (by_ s).getD i 0 ≠ k else (strs a.1 a.1.n).map by_ = pieces k (by_ s)) (nx := nx32 s (k.toNat : Int)) (len := s.size + 1) (fun j a hj h => by
    have hj : j ≤ s.size := by omega
    rw [if_pos hj] at h
    obtain ⟨h1, h2, h3⟩ := h
    have hx : ∀ c ∈ ((by_ s).take j).drop a.2, c ≠ k := fun c hc => by
      obtain ⟨i, hi, rfl⟩ := List.getElem_of_mem hc
      rw [List.getElem_drop, List.getElem_take]
      rw [List.length_drop, List.length_take] at hi
      have := h3 (a.2 + i) (by omega) (by omega)
      rw [List.getD_eq_getElem?_getD, List.getElem?_eq_getElem (by omega)] at this
      exact this
    have hd : (by_ s).drop a.2 = ((by_ s).take j).drop a.2 ++ (by_ s).drop j := by
      rw [← List.drop_append_of_le_length (by rw [List.length_take]; omega), List.take_append_drop]
    unfold nx32
    rw [cuB_eq]
    by_cases he : j = s.size
    · rw [decide_eq_true he, Bool.true_or, cond_true, if_neg (by omega), strs_psC, List.map_append, List.map_cons, List.map_nil, by_ext]
      have e0 : (by_ s).drop j = [] := List.drop_eq_nil_of_le (by omega)
      rw [hd, e0, List.append_nil, pieces_none k _ hx] at h2
      exact h2
    · rw [decide_eq_false he, Bool.false_or, if_pos (by omega)]
      cases hc : (((s.data.getD j 0).toNat : Nat) : Int) == (k.toNat : Int)
      · refine ⟨by show a.2 ≤ j + 1; omega, h2, fun i hi hlt => ?_⟩
        by_cases hij : i = j
        · subst hij
          rw [← getD_by]
          intro hk
          rw [hk] at hc
          simp at hc
        · exact h3 i hi (by omega)
      · have hk : (by_ s).getD j 0 = k := by
          rw [← getD_by]
          have : (s.data.getD j 0).toNat = k.toNat := by
            have := beq_iff_eq.1 hc
            omega
          exact UInt8.toNat_inj.1 this
        refine ⟨Nat.le_refl _, ?_, fun i hi hlt => by have hi : j + 1 ≤ i := hi; omega⟩
        show (strs (psC a.1 (s.extract a.2 j)) (psC a.1 (s.extract a.2 j)).n).map by_ ++ pieces k ((by_ s).drop (j + 1)) = _
        rw [strs_psC, List.map_append, List.map_cons, List.map_nil, by_ext, List.append_assoc]
        have e : (by_ s).drop j = k :: (by_ s).drop (j + 1) := by
          rw [List.drop_eq_getElem_cons (by omega)]
          rw [List.getD_eq_getElem?_getD, List.getElem?_eq_getElem (by omega)] at hk
          congr 1
        rw [hd, e, pieces_app k _ _ hx] at h2
        exact h2) (m := s.size + 1) (j := 0) (a := (Row.nil, 0)) (by omega) (by
      rw [if_pos (Nat.zero_le _)]
      exact ⟨Nat.le_refl _, rfl, fun i hi hlt => by omega⟩)
  rw [if_neg (by omega)] at h
  exact h
end Go.Proofs.YtopdfmhlgkbaaaaDoor
/- What is written of a line. No conditions. -/
namespace Go.Proofs.YtopdfmhlgkbaaaaDoor
open Go.Ev Go.RowKit Go.Lib Go.Dec
set_option linter.all false
def sFor : ByteArray := ⟨⟨[102, 111, 114]⟩⟩
def sSp : ByteArray := ⟨⟨[32]⟩⟩
def sSf : ByteArray := ⟨⟨[32, 102, 111, 114]⟩⟩
/-- What is asked of a line that is written. -/
def wsB (nm nu : Row) : Bool := decide (nm.n ≤ 1000 ∧ nu.n ≤ 1000) && (!anyF (fun i => decide (1000 < (nm.S i 0).size)) nm.n 0 && !anyF (fun i => !dcA (nu.I i 0)) nu.n 0)
theorem wsB_iff {nm nu : Row} : wsB nm nu = true ↔ (nm.n ≤ 1000 ∧ nu.n ≤ 1000) ∧ (∀ i, i < nm.n → (nm.S i 0).size ≤ 1000) ∧ ∀ i, i < nu.n → dcA (nu.I i 0) = true := by
  unfold wsB
  simp only [Bool.and_eq_true, decide_eq_true_eq, Bool.not_eq_true', anyF_false, Nat.zero_add, Nat.zero_le, forall_const, decide_eq_false_iff_not, Nat.not_lt, Bool.not_eq_false']
def forB (w : Int) (i : Nat) : Bool := w == 4 && (i : Int) == 1
def nxW (w : Int) (nm : Row) (i : Nat) (o : Row) : Row := psC (bif forB w i then psC o sFor else o) (nm.S i 0)
def nxV (nu : Row) (i : Nat) (o : Row) : Row := psC o (ddP (nu.I i 0))
def nyW (w : Int) (nm : Row) (i : Nat) (s : ByteArray) : ByteArray := ((bif forB w i then s ++ sSf else s) ++ sSp) ++ nm.S i 0
def nyV (nu : Row) (i : Nat) (s : ByteArray) : ByteArray := (s ++ sSp) ++ ddP (nu.I i 0)
def pW : PSt := { τ := pu 1 ++ [.v (.c (.pointer (some ⟨0, 0, some 0⟩)))] ++ pu 1 ++ [.v (.sl 1)] ++ pu 13 ++ [.v (.sl 2), .v (.int .i64), .v (.int .i64)] ++ pu 34, saved := [[]], mem := [.box [.v (.int .u8), .v (.sl 2), .v (.sl 3)], .row [.str] true, .row [.str] false, .row [.int .i64] false] }
def pWb : PSt := { τ := pu 3 ++ [.v (.sl 0)] ++ pu 36 ++ [.v (.sl 1), .v (.int .i64), .v (.int .i64)] ++ pu 11, saved := [[]], mem := [.row [.str] true, .row [.int .i64] false] }
def p29 : PSt := { τ := pu 1 ++ [.v (.c (.pointer (some ⟨0, 0, some 0⟩)))] ++ pu 1 ++ [.v (.str), .v (.int .i64)] ++ pu 45, saved := [[]], mem := [.box [.v (.int .u8), .v (.sl 1), .v (.sl 2)], .row [.str] false, .row [.int .i64] false] }
def p29b : PSt := { τ := pu 1 ++ [.v (.c (.pointer (some ⟨0, 0, some 0⟩)))] ++ pu 1 ++ [.v (.str)] ++ pu 1 ++ [.v (.int .i64)] ++ pu 44, saved := [[]], mem := [.box [.v (.int .u8), .v (.sl 1), .v (.sl 2)], .row [.str] false, .row [.int .i64] false] }
structure AW where
  n : Nat
  m : Nat
  len : Int
  j : Int
  w : Int
  a : Nat
  b : Nat
  o : Row
  nm : Row
  nu : Row
def dWa (its : List It) : Option AW := match its with | [.n n, .n m, .i len, .i j, .i w, .n a, .n b, .r o, .r nm, .r nu] => some ⟨n, m, len, j, w, a, b, o, nm, nu⟩ | _ => none
def cWa (x : AW) : Bool := decide (x.n = x.o.n ∧ x.o.n ≤ 1000000 ∧ x.m = x.nm.n) && z3 x.m x.len x.j
theorem cWa_iff {x : AW} : cWa x = true ↔ (x.n = x.o.n ∧ x.o.n ≤ 1000000 ∧ x.m = x.nm.n) ∧ x.len = x.m ∧ x.j = 0 ∧ x.m ≤ 1000000 := by unfold cWa; rw [Bool.and_eq_true_iff, decide_eq_true_eq, z3_iff]
def lWa : FoldL AW Row where
  f := 25
  id := 3
  lv := [1, 3, 17, 18, 19]
  lx := [1, 2, 3]
  p := pW
  dat := dWa
  S := fun x i o => [.n o.n, .n x.m, .i x.m, .i i, .i x.w, .n x.a, .n x.b, .r o, .r x.nm, .r x.nu]
  len := fun x => x.m
  cnd := fun x => cWa x
  ini := fun x => x.o
  nx := fun x => nxW x.w x.nm
  Ke := fun x o K => K (.exit 0) ⟨us 1 ++ [.pointer (some ⟨0, 0, some 0⟩)] ++ us 1 ++ [.slice (some ⟨1, 0, some 0⟩) (o.n) (0)] ++ us 50, [[]], [some (.box [.int .u8 (x.w), .slice (some ⟨2, 0, some 0⟩) (x.a) (0), .slice (some ⟨3, 0, some 0⟩) (x.b) (0)]), some (.row [.str] true (o)), some (.row [.str] false (x.nm)), some (.row [.int .i64] false (x.nu))]⟩
structure BW where
  n : Nat
  m : Nat
  len : Int
  j : Int
  o : Row
  nu : Row
def dWb (its : List It) : Option BW := match its with | [.n n, .n m, .i len, .i j, .r o, .r nu] => some ⟨n, m, len, j, o, nu⟩ | _ => none
def cWb (x : BW) : Bool := decide (x.n = x.o.n ∧ x.o.n ≤ 1000000 ∧ x.m = x.nu.n) && (z3 x.m x.len x.j && !anyF (fun i => !dcA (x.nu.I i 0)) x.nu.n 0)
theorem cWb_iff {x : BW} : cWb x = true ↔ (x.n = x.o.n ∧ x.o.n ≤ 1000000 ∧ x.m = x.nu.n) ∧ (x.len = x.m ∧ x.j = 0 ∧ x.m ≤ 1000000) ∧ ∀ i, i < x.nu.n → dcA (x.nu.I i 0) = true := by
  unfold cWb
  simp only [Bool.and_eq_true, decide_eq_true_eq, Bool.not_eq_true', anyF_false, Nat.zero_add, Nat.zero_le, forall_const, Bool.not_eq_false', z3_iff]
def lWb : FoldL BW Row where
  f := 25
  id := 10
  lv := [3, 40, 41, 42]
  lx := [2, 3]
  p := pWb
  dat := dWb
  S := fun x i o => [.n o.n, .n x.m, .i x.m, .i i, .r o, .r x.nu]
  len := fun x => x.m
  cnd := fun x => cWb x
  ini := fun x => x.o
  nx := fun x => nxV x.nu
  Ke := fun x o K => K (.exit 2) ⟨us 3 ++ [.slice (some ⟨0, 0, some 0⟩) (o.n) (0)] ++ us 50, [[]], [some (.row [.str] true (o))]⟩
structure A29 where
  s : ByteArray
  j : Int
  w : Int
  a : Nat
  b : Nat
  nm : Row
  nu : Row
def d29a (its : List It) : Option A29 := match its with | [.s s, .i j, .i w, .n a, .n b, .r nm, .r nu] => some ⟨s, j, w, a, b, nm, nu⟩ | _ => none
def c29a (x : A29) : Bool := decide (x.j = 0 ∧ x.a = x.nm.n ∧ x.b = x.nu.n ∧ x.s.size ≤ 1000) && wsB x.nm x.nu
def c29b (x : A29) : Bool := decide (x.j = 0 ∧ x.a = x.nm.n ∧ x.b = x.nu.n ∧ x.s.size ≤ 10000000) && wsB x.nm x.nu
theorem c29a_iff {x : A29} : c29a x = true ↔ (x.j = 0 ∧ x.a = x.nm.n ∧ x.b = x.nu.n ∧ x.s.size ≤ 1000) ∧ wsB x.nm x.nu = true := by unfold c29a; rw [Bool.and_eq_true_iff, decide_eq_true_eq]
theorem c29b_iff {x : A29} : c29b x = true ↔ (x.j = 0 ∧ x.a = x.nm.n ∧ x.b = x.nu.n ∧ x.s.size ≤ 10000000) ∧ wsB x.nm x.nu = true := by unfold c29b; rw [Bool.and_eq_true_iff, decide_eq_true_eq]
def l29a : FoldL A29 ByteArray where
  f := 29
  id := 3
  lv := [1, 3, 4]
  lx := [1, 2, 3]
  p := p29
  dat := d29a
  S := fun x i s => [.s s, .i i, .i x.w, .n x.a, .n x.b, .r x.nm, .r x.nu]
  len := fun x => x.a
  cnd := fun x => c29a x
  ini := fun x => x.s
  nx := fun x => nyW x.w x.nm
  Ke := fun x s K => K (.exit 0) ⟨us 1 ++ [.pointer (some ⟨0, 0, some 0⟩)] ++ us 1 ++ [.string s] ++ us 46, [[]], [some (.box [.int .u8 (x.w), .slice (some ⟨1, 0, some 0⟩) (x.a) (0), .slice (some ⟨2, 0, some 0⟩) (x.b) (0)]), some (.row [.str] false (x.nm)), some (.row [.int .i64] false (x.nu))]⟩
def l29b : FoldL A29 ByteArray where
  f := 29
  id := 9
  lv := [1, 3, 5]
  lx := [2, 3]
  p := p29b
  dat := d29a
  S := fun x i s => [.s s, .i i, .i x.w, .n x.a, .n x.b, .r x.nm, .r x.nu]
  len := fun x => x.b
  cnd := fun x => c29b x
  ini := fun x => x.s
  nx := fun x => nyV x.nu
  Ke := fun x s K => K (.exit 2) ⟨us 3 ++ [.string s] ++ us 46, [[]], []⟩
noncomputable def C25w : Cx := mkCx Tryd.prog fns [(37, Fwords), (38, FdcV dcA ddP), (39, Fjoin)] [lWa.C, lWb.C]
noncomputable def C29w : Cx := mkCx Tryd.prog fns [(41, Fword), (42, Fdec)] [l29a.C, l29b.C]
theorem rWa (R : St → Option (List D)) (K : X → St → Option (List D)) (q n m : Nat) (len j w : Int) (a b : Nat) (o nm nu : Row) : bodyOf C25w 25 3 q (Go.Ev.bst pW [.n n, .n m, .i len, .i j, .i w, .n a, .n b, .r o, .r nm, .r nu]) (rnd [1, 3, 17, 18, 19] (some [1, 2, 3]) R K) =
    br (decide (j < len)) (br (decide (0 ≤ j) && decide (j < (↑m : Int))) (br (w == 4) (br (j == 1) (br (decide (n + (winOf ((Row.zeros 1).setS 0 0 { data := #[102, 111, 114] : ByteArray }) 0 1).n ≤ 10000000000)) (br (decide (n + (winOf ((Row.zeros 1).setS 0 0 { data := #[102, 111, 114] : ByteArray }) 0 1).n + (winOf ((Row.zeros 1).setS 0 0 (nm.S (0 + j.toNat) 0)) 0 1).n ≤ 10000000000)) (R ⟨us 1 ++ [.pointer (some ⟨0, 0, some 0⟩)] ++ us 1 ++ [.slice (some ⟨1, 0, some 0⟩) (n + 1 + 1) (0)] ++ us 13 ++ [.slice (some ⟨2, 0, some 0⟩) (m) (0), i64 (len), i64 (IntKind.i64.wrap (j + 1))] ++ us 34, [[]], [some (.box [.int .u8 (w), .slice (some ⟨2, 0, some 0⟩) (a) (0), .slice (some ⟨3, 0, some 0⟩) (b) (0)]), some (.row [.str] true ((winOf ((winOf o 0 n).app (winOf ((Row.zeros 1).setS 0 0 { data := { toList := [102, 111, 114] : Array UInt8 } : ByteArray }) 0 1)) 0 (n + 1)).app (winOf ((Row.zeros 1).setS 0 0 (nm.S (0 + j.toNat) 0)) 0 1))), some (.row [.str] false (nm)), some (.row [.int .i64] false (nu))]⟩) (none)) (none)) (br (decide (n + (winOf ((Row.zeros 1).setS 0 0 (nm.S (0 + j.toNat) 0)) 0 1).n ≤ 10000000000)) (R ⟨us 1 ++ [.pointer (some ⟨0, 0, some 0⟩)] ++ us 1 ++ [.slice (some ⟨1, 0, some 0⟩) (n + 1) (0)] ++ us 13 ++ [.slice (some ⟨2, 0, some 0⟩) (m) (0), i64 (len), i64 (IntKind.i64.wrap (j + 1))] ++ us 34, [[]], [some (.box [.int .u8 (w), .slice (some ⟨2, 0, some 0⟩) (a) (0), .slice (some ⟨3, 0, some 0⟩) (b) (0)]), some (.row [.str] true ((winOf o 0 n).app (winOf ((Row.zeros 1).setS 0 0 (nm.S (0 + j.toNat) 0)) 0 1))), some (.row [.str] false (nm)), some (.row [.int .i64] false (nu))]⟩) (none))) (br (decide (n + (winOf ((Row.zeros 1).setS 0 0 (nm.S (0 + j.toNat) 0)) 0 1).n ≤ 10000000000)) (R ⟨us 1 ++ [.pointer (some ⟨0, 0, some 0⟩)] ++ us 1 ++ [.slice (some ⟨1, 0, some 0⟩) (n + 1) (0)] ++ us 13 ++ [.slice (some ⟨2, 0, some 0⟩) (m) (0), i64 (len), i64 (IntKind.i64.wrap (j + 1))] ++ us 34, [[]], [some (.box [.int .u8 (w), .slice (some ⟨2, 0, some 0⟩) (a) (0), .slice (some ⟨3, 0, some 0⟩) (b) (0)]), some (.row [.str] true ((winOf o 0 n).app (winOf ((Row.zeros 1).setS 0 0 (nm.S (0 + j.toNat) 0)) 0 1))), some (.row [.str] false (nm)), some (.row [.int .i64] false (nu))]⟩) (none))) (none)) (K (.exit 0) ⟨us 1 ++ [.pointer (some ⟨0, 0, some 0⟩)] ++ us 1 ++ [.slice (some ⟨1, 0, some 0⟩) (n) (0)] ++ us 50, [[]], [some (.box [.int .u8 (w), .slice (some ⟨2, 0, some 0⟩) (a) (0), .slice (some ⟨3, 0, some 0⟩) (b) (0)]), some (.row [.str] true (o)), some (.row [.str] false (nm)), some (.row [.int .i64] false (nu))]⟩) := by kernel_rfl
theorem rWb (R : St → Option (List D)) (K : X → St → Option (List D)) (q n m : Nat) (len j : Int) (o nu : Row) : bodyOf C25w 25 10 q (Go.Ev.bst pWb [.n n, .n m, .i len, .i j, .r o, .r nu]) (rnd [3, 40, 41, 42] (some [2, 3]) R K) =
    br (decide (j < len)) (br (decide (0 ≤ j) && decide (j < (↑m : Int))) (br (dcA (nu.I (0 + j.toNat) 0)) (br (decide (n + (winOf ((Row.zeros 1).setS 0 0 (ddP (nu.I (0 + j.toNat) 0))) 0 1).n ≤ 10000000000)) (R ⟨us 3 ++ [.slice (some ⟨0, 0, some 0⟩) (n + 1) (0)] ++ us 36 ++ [.slice (some ⟨1, 0, some 0⟩) (m) (0), i64 (len), i64 (IntKind.i64.wrap (j + 1))] ++ us 11, [[]], [some (.row [.str] true ((winOf o 0 n).app (winOf ((Row.zeros 1).setS 0 0 (ddP (nu.I (0 + j.toNat) 0))) 0 1))), some (.row [.int .i64] false (nu))]⟩) (none)) (none)) (none)) (K (.exit 2) ⟨us 3 ++ [.slice (some ⟨0, 0, some 0⟩) (n) (0)] ++ us 50, [[]], [some (.row [.str] true (o))]⟩) := by kernel_rfl
theorem r29a (R : St → Option (List D)) (K : X → St → Option (List D)) (q : Nat) (s : ByteArray) (j w : Int) (a b : Nat) (nm nu : Row) : bodyOf C29w 29 3 q (Go.Ev.bst p29 [.s s, .i j, .i w, .n a, .n b, .r nm, .r nu]) (rnd [1, 3, 4] (some [1, 2, 3]) R K) =
    br (decide (j < (↑a : Int))) (br (w == 4) (br (j == 1) (br (decide ((↑(s.size + { data := #[32, 102, 111, 114] : ByteArray }.size) : Int) > IntKind.i64.max)) (none) (br (decide ((↑((s ++ { data := #[32, 102, 111, 114] : ByteArray }).size + { data := #[32] : ByteArray }.size) : Int) > IntKind.i64.max)) (none) (br (decide (0 ≤ j) && decide (j < (↑a : Int))) (br (decide ((↑((s ++ { data := #[32, 102, 111, 114] : ByteArray } ++ { data := #[32] : ByteArray }).size + (nm.S (0 + j.toNat) 0).size) : Int) > IntKind.i64.max)) (none) (R ⟨us 1 ++ [.pointer (some ⟨0, 0, some 0⟩)] ++ us 1 ++ [.string (s ++ { data := { toList := [32, 102, 111, 114] : Array UInt8 } : ByteArray } ++ { data := { toList := [32] : Array UInt8 } : ByteArray } ++ nm.S (0 + j.toNat) 0), i64 (IntKind.i64.wrap (j + 1))] ++ us 45, [[]], [some (.box [.int .u8 (w), .slice (some ⟨1, 0, some 0⟩) (a) (0), .slice (some ⟨2, 0, some 0⟩) (b) (0)]), some (.row [.str] false (nm)), some (.row [.int .i64] false (nu))]⟩)) (none)))) (br (decide ((↑(s.size + { data := #[32] : ByteArray }.size) : Int) > IntKind.i64.max)) (none) (br (decide (0 ≤ j) && decide (j < (↑a : Int))) (br (decide ((↑((s ++ { data := #[32] : ByteArray }).size + (nm.S (0 + j.toNat) 0).size) : Int) > IntKind.i64.max)) (none) (R ⟨us 1 ++ [.pointer (some ⟨0, 0, some 0⟩)] ++ us 1 ++ [.string (s ++ { data := { toList := [32] : Array UInt8 } : ByteArray } ++ nm.S (0 + j.toNat) 0), i64 (IntKind.i64.wrap (j + 1))] ++ us 45, [[]], [some (.box [.int .u8 (w), .slice (some ⟨1, 0, some 0⟩) (a) (0), .slice (some ⟨2, 0, some 0⟩) (b) (0)]), some (.row [.str] false (nm)), some (.row [.int .i64] false (nu))]⟩)) (none)))) (br (decide ((↑(s.size + { data := #[32] : ByteArray }.size) : Int) > IntKind.i64.max)) (none) (br (decide (0 ≤ j) && decide (j < (↑a : Int))) (br (decide ((↑((s ++ { data := #[32] : ByteArray }).size + (nm.S (0 + j.toNat) 0).size) : Int) > IntKind.i64.max)) (none) (R ⟨us 1 ++ [.pointer (some ⟨0, 0, some 0⟩)] ++ us 1 ++ [.string (s ++ { data := { toList := [32] : Array UInt8 } : ByteArray } ++ nm.S (0 + j.toNat) 0), i64 (IntKind.i64.wrap (j + 1))] ++ us 45, [[]], [some (.box [.int .u8 (w), .slice (some ⟨1, 0, some 0⟩) (a) (0), .slice (some ⟨2, 0, some 0⟩) (b) (0)]), some (.row [.str] false (nm)), some (.row [.int .i64] false (nu))]⟩)) (none)))) (K (.exit 0) ⟨us 1 ++ [.pointer (some ⟨0, 0, some 0⟩)] ++ us 1 ++ [.string (s)] ++ us 46, [[]], [some (.box [.int .u8 (w), .slice (some ⟨1, 0, some 0⟩) (a) (0), .slice (some ⟨2, 0, some 0⟩) (b) (0)]), some (.row [.str] false (nm)), some (.row [.int .i64] false (nu))]⟩) := by kernel_rfl
theorem r29b (R : St → Option (List D)) (K : X → St → Option (List D)) (q : Nat) (s : ByteArray) (j w : Int) (a b : Nat) (nm nu : Row) : bodyOf C29w 29 9 q (Go.Ev.bst p29b [.s s, .i j, .i w, .n a, .n b, .r nm, .r nu]) (rnd [1, 3, 5] (some [2, 3]) R K) =
    br (decide (j < (↑b : Int))) (br (decide ((↑(s.size + { data := #[32] : ByteArray }.size) : Int) > IntKind.i64.max)) (none) (br (decide (0 ≤ j) && decide (j < (↑b : Int))) (br (dcA (nu.I (0 + j.toNat) 0)) (br (decide ((↑((s ++ { data := #[32] : ByteArray }).size + (ddP (nu.I (0 + j.toNat) 0)).size) : Int) > IntKind.i64.max)) (none) (R ⟨us 1 ++ [.pointer (some ⟨0, 0, some 0⟩)] ++ us 1 ++ [.string (s ++ { data := { toList := [32] : Array UInt8 } : ByteArray } ++ ddP (nu.I (0 + j.toNat) 0))] ++ us 1 ++ [i64 (IntKind.i64.wrap (j + 1))] ++ us 44, [[]], [some (.box [.int .u8 (w), .slice (some ⟨1, 0, some 0⟩) (a) (0), .slice (some ⟨2, 0, some 0⟩) (b) (0)]), some (.row [.str] false (nm)), some (.row [.int .i64] false (nu))]⟩)) (none)) (none))) (K (.exit 2) ⟨us 3 ++ [.string (s)] ++ us 46, [[]], []⟩) := by kernel_rfl
def oW (w : Int) : Row := (Row.zeros 1).setS 0 0 (Wt.S (0 + (IntKind.u8.wrap (w - 1)).toNat) 0)
def wr1 (w : Int) (nm : Row) : Row := fldN (nxW w nm) nm.n 0 (oW w)
def wr2 (w : Int) (nm nu : Row) : Row := fldN (nxV nu) nu.n 0 (wr1 w nm)
theorem u25 (w : Int) (nm nu : Row) : evF C25w 6 25 [.agg [.v (u8 w), .slice ksS nm, .slice ksI nu]] =
    br (decide (0 ≤ IntKind.u8.wrap (w - 1)) && decide (IntKind.u8.wrap (w - 1) < (↑Wt.n : Int))) (br (cWa ⟨1, nm.n, nm.n, 0, w, nm.n, nu.n, oW w, nm, nu⟩) (br (cWb ⟨(wr1 w nm).n, nu.n, nu.n, 0, wr1 w nm, nu⟩) (br (decide ((wr2 w nm nu).n ≤ 140737488355328) && decide ((joinL (wr2 w nm nu) (wr2 w nm nu).n sSp).length ≤ 140737488355328)) (some [.v (str (joinL (wr2 w nm nu) (wr2 w nm nu).n sSp))]) none) none) none) none := by kernel_rfl
theorem u29 (w : Int) (nm nu : Row) : evF C29w 6 29 [.agg [.v (u8 w), .slice ksS nm, .slice ksI nu]] =
    br (c29a { s := wordS w, j := 0, w := w, a := nm.n, b := nu.n, nm := nm, nu := nu : A29 }) (br (c29b { s := fldN (nyW w nm) nm.n 0 (wordS w), j := 0, w := w, a := nm.n, b := nu.n, nm := nm, nu := nu : A29 }) (some [.v (.string (fldN (nyV nu) nu.n 0 (fldN (nyW w nm) nm.n 0 (wordS w))))]) (none)) (none) := by kernel_rfl
theorem den_itoa' : DenW Tryd.prog Wd 38 (FdcV dcA ddP) := den_itoa.less fun ds rs h => by
  unfold FdcV at h
  split at h
  · rename_i n
    simp only [Option.some.injEq, Prod.mk.injEq, dcA, Bool.and_eq_true, decide_eq_true_eq] at h
    obtain ⟨⟨h0, h1⟩, rfl⟩ := h
    show some (iR n, _) = _
    rw [iR_iff.2 ⟨by omega, by omega⟩]
    rfl
  · cases h
set_option maxRecDepth 100000 in
theorem okWa : LoopOk C25w lWa.C := lWa.ok (fun x i o => o.n ≤ 1000000 + 2 * i) (by kernel_rfl)
  (fun its x h hc => by
    replace h : dWa its = some x := h
    unfold dWa at h
    split at h
    · cases h
      obtain ⟨⟨h1, h2, h3⟩, h4, h5, h6⟩ := cWa_iff.1 hc
      dsimp only at h1 h3 h4 h5
      subst h1 h4 h5
      rfl
    · cases h)
  (fun x hc => by have := (cWa_iff.1 hc).2.2.2; show x.m < 18446744073709551616; omega)
  (fun x hc => (cWa_iff.1 hc).1.2.1)
  (fun x i o hc hi hI => by
    replace hI : o.n ≤ 1000000 + 2 * i := hI
    show (nxW x.w x.nm i o).n ≤ 1000000 + 2 * (i + 1)
    unfold nxW
    rw [psC_n]
    cases forB x.w i
    · show o.n + 1 ≤ _; omega
    · show o.n + 1 + 1 ≤ _; omega)
  (fun q ⟨n, m, len, j, w, a, b, o0, nm, nu⟩ i o hc hi hI R K => by
    obtain ⟨⟨h1, h2, h3⟩, h4, h5, h6⟩ := cWa_iff.1 hc
    dsimp only at h1 h2 h3 h4 h5 h6
    replace hi : i < m := hi
    replace hI : o.n ≤ 1000000 + 2 * i := hI
    refine (rWa R K q o.n m m i w a b o nm nu).trans ?_
    rw [Int.toNat_natCast, Nat.zero_add i, gd i m hi, ltd i m hi, wsn (by omega)]
    show br true (br true (br (w == 4) (br ((i : Int) == 1) (br (decide (o.n + 1 ≤ 10000000000)) (br (decide (o.n + 1 + 1 ≤ 10000000000)) _ none) none) (br (decide (o.n + 1 ≤ 10000000000)) _ none)) (br (decide (o.n + 1 ≤ 10000000000)) _ none)) none) _ = R (Go.Ev.bst pW (lWa.S ⟨n, m, len, j, w, a, b, o0, nm, nu⟩ (i + 1) (psC (bif w == 4 && (i : Int) == 1 then psC o sFor else o) (nm.S i 0))))
    rw [decide_eq_true (show o.n + 1 ≤ 10000000000 by omega), decide_eq_true (show o.n + 1 + 1 ≤ 10000000000 by omega)]
    cases (w == 4) <;> cases ((i : Int) == 1) <;> rfl)
  (fun q ⟨n, m, len, j, w, a, b, o0, nm, nu⟩ o hc hI R K => by
    refine (rWa R K q o.n m m m w a b o nm nu).trans ?_
    rw [ltn m]
    rfl)
set_option maxRecDepth 100000 in
theorem okWb : LoopOk C25w lWb.C := lWb.ok (fun x i o => o.n ≤ 1000000 + i) (by kernel_rfl)
  (fun its x h hc => by
    replace h : dWb its = some x := h
    unfold dWb at h
    split at h
    · cases h
      obtain ⟨⟨h1, h2, h3⟩, ⟨h4, h5, h6⟩, h7⟩ := cWb_iff.1 hc
      dsimp only at h1 h3 h4 h5
      subst h1 h4 h5
      rfl
    · cases h)
  (fun x hc => by have := (cWb_iff.1 hc).2.1.2.2; show x.m < 18446744073709551616; omega)
  (fun x hc => (cWb_iff.1 hc).1.2.1)
  (fun x i o hc hi hI => by
    replace hI : o.n ≤ 1000000 + i := hI
    show o.n + 1 ≤ 1000000 + (i + 1); omega)
  (fun q ⟨n, m, len, j, o0, nu⟩ i o hc hi hI R K => by
    obtain ⟨⟨h1, h2, h3⟩, ⟨h4, h5, h6⟩, h7⟩ := cWb_iff.1 hc
    dsimp only at h1 h2 h3 h4 h5 h6 h7
    replace hi : i < m := hi
    replace hI : o.n ≤ 1000000 + i := hI
    refine (rWb R K q o.n m m i o nu).trans ?_
    rw [Int.toNat_natCast, Nat.zero_add i, gd i m hi, ltd i m hi, wsn (by omega), h7 i (by omega), decide_eq_true (show o.n + (winOf ((Row.zeros 1).setS 0 0 (ddP (nu.I i 0))) 0 1).n ≤ 10000000000 from (by show o.n + 1 ≤ 10000000000; omega))]
    rfl)
  (fun q ⟨n, m, len, j, o0, nu⟩ o hc hI R K => by
    refine (rWb R K q o.n m m m o nu).trans ?_
    rw [ltn m]
    rfl)
theorem C25w_ok : CxW C25w Wd := mkCx_okW enter mixed (fun p h => by
  simp only [List.mem_cons, List.not_mem_nil, or_false] at h
  rcases h with rfl | rfl | rfl
  · exact den_words.at _
  · exact den_itoa'
  · exact den_join) (fun l h => by
  simp only [List.mem_cons, List.not_mem_nil, or_false] at h
  rcases h with rfl | rfl
  · exact okWa
  · exact okWb)
theorem ddP_size {n : Int} (h : dcA n = true) : (ddP n).size ≤ 21 := by
  unfold dcA at h
  simp only [Bool.and_eq_true, decide_eq_true_eq] at h
  unfold ddP
  rw [txt_size]
  exact itoa_len (iR_iff.2 (by omega))
theorem imx {n : Nat} (h : n ≤ 100000000) : decide ((n : Int) > IntKind.i64.max) = false := decide_eq_false (by rw [i64max]; omega)
theorem nyW_size {w : Int} {nm : Row} {i : Nat} {s : ByteArray} (h : (nm.S i 0).size ≤ 1000) : (nyW w nm i s).size ≤ s.size + 1005 := by
  unfold nyW
  rw [ByteArray.size_append, ByteArray.size_append, show sSp.size = 1 from rfl]
  cases forB w i
  · show s.size + 1 + _ ≤ _; omega
  · show (s ++ sSf).size + 1 + _ ≤ _
    rw [ByteArray.size_append, show sSf.size = 4 from rfl]; omega
theorem nyV_size {nu : Row} {i : Nat} {s : ByteArray} (h : dcA (nu.I i 0) = true) : (nyV nu i s).size ≤ s.size + 22 := by
  unfold nyV
  have := ddP_size h
  rw [ByteArray.size_append, ByteArray.size_append, show sSp.size = 1 from rfl]
  omega
set_option maxRecDepth 100000 in
theorem ok29a : LoopOk C29w l29a.C := l29a.ok (fun x i s => s.size ≤ 1000 + 1005 * i) (by kernel_rfl)
  (fun its x h hc => by
    replace h : d29a its = some x := h
    unfold d29a at h
    split at h
    · cases h
      obtain ⟨⟨h1, h2, h3, h4⟩, h5⟩ := c29a_iff.1 hc
      dsimp only at h1
      subst h1
      rfl
    · cases h)
  (fun x hc => by
    obtain ⟨⟨h1, h2, h3, h4⟩, h5⟩ := c29a_iff.1 hc
    have := (wsB_iff.1 h5).1.1
    show x.a < 18446744073709551616; omega)
  (fun x hc => (c29a_iff.1 hc).1.2.2.2)
  (fun x i s hc hi hI => by
    obtain ⟨⟨h1, h2, h3, h4⟩, h5⟩ := c29a_iff.1 hc
    replace hI : s.size ≤ 1000 + 1005 * i := hI
    replace hi : i < x.a := hi
    have := nyW_size (w := x.w) (s := s) ((wsB_iff.1 h5).2.1 i (by omega))
    show (nyW x.w x.nm i s).size ≤ 1000 + 1005 * (i + 1)
    omega)
  (fun q ⟨s0, j, w, a, b, nm, nu⟩ i s hc hi hI R K => by
    obtain ⟨⟨h1, h2, h3, h4⟩, h5⟩ := c29a_iff.1 hc
    obtain ⟨⟨h6, h7⟩, h8, h9⟩ := wsB_iff.1 h5
    dsimp only at h1 h2 h3 h4 h5 h6 h7 h8 h9
    replace hi : i < a := hi
    replace hI : s.size ≤ 1000 + 1005 * i := hI
    have h10 := h8 i (by omega)
    refine (r29a R K q s i w a b nm nu).trans ?_
    rw [Int.toNat_natCast, Nat.zero_add i, gd i a hi, ltd i a hi, wsn (by omega)]
    show br true (br (w == 4) (br ((i : Int) == 1) (br (decide (((s.size + 4 : Nat) : Int) > IntKind.i64.max)) none (br (decide ((((s ++ sSf).size + 1 : Nat) : Int) > IntKind.i64.max)) none (br true (br (decide ((((s ++ sSf ++ sSp).size + (nm.S i 0).size : Nat) : Int) > IntKind.i64.max)) none _) none))) (br (decide (((s.size + 1 : Nat) : Int) > IntKind.i64.max)) none (br true (br (decide ((((s ++ sSp).size + (nm.S i 0).size : Nat) : Int) > IntKind.i64.max)) none _) none))) (br (decide (((s.size + 1 : Nat) : Int) > IntKind.i64.max)) none (br true (br (decide ((((s ++ sSp).size + (nm.S i 0).size : Nat) : Int) > IntKind.i64.max)) none _) none))) _ = R (Go.Ev.bst p29 (l29a.S ⟨s0, j, w, a, b, nm, nu⟩ (i + 1) (((bif w == 4 && (i : Int) == 1 then s ++ sSf else s) ++ sSp) ++ nm.S i 0)))
    have e1 : (s ++ sSf).size = s.size + 4 := ByteArray.size_append
    have e2 : (s ++ sSf ++ sSp).size = s.size + 5 := by rw [ByteArray.size_append, e1]; rfl
    have e3 : (s ++ sSp).size = s.size + 1 := ByteArray.size_append
    rw [e1, e2, e3, imx (n := s.size + 4) (by omega), imx (n := s.size + 4 + 1) (by omega), imx (n := s.size + 5 + (nm.S i 0).size) (by omega), imx (n := s.size + 1) (by omega), imx (n := s.size + 1 + (nm.S i 0).size) (by omega)]
    cases (w == 4) <;> cases ((i : Int) == 1) <;> rfl)
  (fun q ⟨s0, j, w, a, b, nm, nu⟩ s hc hI R K => by
    refine (r29a R K q s a w a b nm nu).trans ?_
    rw [ltn a]
    rfl)
set_option maxRecDepth 100000 in
theorem ok29b : LoopOk C29w l29b.C := l29b.ok (fun x i s => s.size ≤ 10000000 + 22 * i) (by kernel_rfl)
  (fun its x h hc => by
    replace h : d29a its = some x := h
    unfold d29a at h
    split at h
    · cases h
      obtain ⟨⟨h1, h2, h3, h4⟩, h5⟩ := c29b_iff.1 hc
      dsimp only at h1
      subst h1
      rfl
    · cases h)
  (fun x hc => by
    obtain ⟨⟨h1, h2, h3, h4⟩, h5⟩ := c29b_iff.1 hc
    have := (wsB_iff.1 h5).1.2
    show x.b < 18446744073709551616; omega)
  (fun x hc => (c29b_iff.1 hc).1.2.2.2)
  (fun x i s hc hi hI => by
    obtain ⟨⟨h1, h2, h3, h4⟩, h5⟩ := c29b_iff.1 hc
    replace hI : s.size ≤ 10000000 + 22 * i := hI
    replace hi : i < x.b := hi
    have := nyV_size (s := s) ((wsB_iff.1 h5).2.2 i (by omega))
    show (nyV x.nu i s).size ≤ 10000000 + 22 * (i + 1)
    omega)
  (fun q ⟨s0, j, w, a, b, nm, nu⟩ i s hc hi hI R K => by
    obtain ⟨⟨h1, h2, h3, h4⟩, h5⟩ := c29b_iff.1 hc
    obtain ⟨⟨h6, h7⟩, h8, h9⟩ := wsB_iff.1 h5
    dsimp only at h1 h2 h3 h4 h5 h6 h7 h8 h9
    replace hi : i < b := hi
    replace hI : s.size ≤ 10000000 + 22 * i := hI
    have h10 := h9 i (by omega)
    have h11 := ddP_size h10
    refine (r29b R K q s i w a b nm nu).trans ?_
    rw [Int.toNat_natCast, Nat.zero_add i, gd i b hi, ltd i b hi, wsn (by omega), h10]
    have e3 : (s ++ sSp).size = s.size + 1 := ByteArray.size_append
    show br true (br (decide (((s.size + 1 : Nat) : Int) > IntKind.i64.max)) none (br true (br true (br (decide ((((s ++ sSp).size + (ddP (nu.I i 0)).size : Nat) : Int) > IntKind.i64.max)) none _) none) none)) _ = _
    rw [e3, imx (n := s.size + 1) (by omega), imx (n := s.size + 1 + (ddP (nu.I i 0)).size) (by omega)]
    rfl)
  (fun q ⟨s0, j, w, a, b, nm, nu⟩ s hc hI R K => by
    refine (r29b R K q s b w a b nm nu).trans ?_
    rw [ltn b]
    rfl)
theorem C29w_ok : CxOk C29w := mkCx_ok enter mixed (fun p h => by
  simp only [List.mem_cons, List.not_mem_nil, or_false] at h
  rcases h with rfl | rfl
  · exact den_word
  · exact den_dec) (fun l h => by
  simp only [List.mem_cons, List.not_mem_nil, or_false] at h
  rcases h with rfl | rfl
  · exact ok29a
  · exact ok29b)
/-- The pieces of a line behind its word. -/
def nmL (w : Int) (nm : Row) (n : Nat) : List ByteArray := (List.range n).flatMap fun i => bif forB w i then [sFor, nm.S i 0] else [nm.S i 0]
def nuL (nu : Row) (n : Nat) : List ByteArray := (List.range n).map fun i => ddP (nu.I i 0)
def wrP (w : Int) (nm nu : Row) : List ByteArray := nmL w nm nm.n ++ nuL nu nu.n
/-- A line's text. -/
def wrL (w : Int) (nm nu : Row) : List UInt8 := by_ (wordS w) ++ (((wrP w nm nu).map by_).map (32 :: ·)).flatten
theorem nmL_succ (w : Int) (nm : Row) (n : Nat) : nmL w nm (n + 1) = nmL w nm n ++ bif forB w n then [sFor, nm.S n 0] else [nm.S n 0] := by
  unfold nmL
  rw [List.range_succ, List.flatMap_append]
  simp
theorem nuL_succ (nu : Row) (n : Nat) : nuL nu (n + 1) = nuL nu n ++ [ddP (nu.I n 0)] := by
  unfold nuL
  rw [List.range_succ, List.map_append]
  rfl
theorem strs_nxW (w : Int) (nm o : Row) (n : Nat) : strs (fldN (nxW w nm) n 0 o) (fldN (nxW w nm) n 0 o).n = strs o o.n ++ nmL w nm n :=
  fold_inv (Inv := fun j (r : Row) => strs r r.n = strs o o.n ++ nmL w nm j) (nx := nxW w nm) (len := n) (fun j r _ h => by
    rw [nmL_succ, ← List.append_assoc, ← h]
    unfold nxW
    rw [strs_psC]
    cases forB w j
    · rfl
    · rw [cond_true, cond_true, strs_psC, List.append_assoc]; rfl) (m := n) (j := 0) (a := o) (by omega) (by unfold nmL; simp)
theorem strs_nxV (nu o : Row) (n : Nat) : strs (fldN (nxV nu) n 0 o) (fldN (nxV nu) n 0 o).n = strs o o.n ++ nuL nu n :=
  fold_inv (Inv := fun j (r : Row) => strs r r.n = strs o o.n ++ nuL nu j) (nx := nxV nu) (len := n) (fun j r _ h => by
    rw [nuL_succ, ← List.append_assoc, ← h]
    unfold nxV
    rw [strs_psC]) (m := n) (j := 0) (a := o) (by omega) (by unfold nuL; simp)
theorem by_nyW (w : Int) (nm : Row) (s : ByteArray) (n : Nat) : by_ (fldN (nyW w nm) n 0 s) = by_ s ++ (((nmL w nm n).map by_).map (32 :: ·)).flatten :=
  fold_inv (Inv := fun j (r : ByteArray) => by_ r = by_ s ++ (((nmL w nm j).map by_).map (32 :: ·)).flatten) (nx := nyW w nm) (len := n) (fun j r _ h => by
    rw [nmL_succ]
    unfold nyW
    rw [by_app, by_app]
    cases forB w j
    · rw [cond_false, cond_false, h]
      simp [show by_ sSp = [32] from rfl]
    · rw [cond_true, cond_true, by_app, h]
      simp [show by_ sSp = [32] from rfl, show by_ sSf = [32, 102, 111, 114] from rfl, show by_ sFor = [102, 111, 114] from rfl]) (m := n) (j := 0) (a := s) (by omega) (by unfold nmL; simp)
theorem by_nyV (nu : Row) (s : ByteArray) (n : Nat) : by_ (fldN (nyV nu) n 0 s) = by_ s ++ (((nuL nu n).map by_).map (32 :: ·)).flatten :=
  fold_inv (Inv := fun j (r : ByteArray) => by_ r = by_ s ++ (((nuL nu j).map by_).map (32 :: ·)).flatten) (nx := nyV nu) (len := n) (fun j r _ h => by
    rw [nuL_succ]
    unfold nyV
    rw [by_app, by_app, h]
    simp [show by_ sSp = [32] from rfl]) (m := n) (j := 0) (a := s) (by omega) (by unfold nuL; simp)
theorem wr_ny (w : Int) (nm nu : Row) : fldN (nyV nu) nu.n 0 (fldN (nyW w nm) nm.n 0 (wordS w)) = txt (wrL w nm nu) := by
  refine by_inj ?_
  rw [by_nyV, by_nyW, by_txt]
  unfold wrL wrP
  simp
def Fwrite : List D → Option (Bool × List D)
  | [.agg [.v (.int .u8 w), .slice [.str] nm, .slice [.int .i64] nu]] => some (decide (1 ≤ w ∧ w ≤ 10) && wsB nm nu, [.v (str (wrL w nm nu))])
  | _ => none
theorem ny_size {w : Int} {nm nu : Row} (hw : (wordS w).size ≤ 1000) (h : wsB nm nu = true) : (fldN (nyW w nm) nm.n 0 (wordS w)).size ≤ 10000000 ∧ (wrL w nm nu).length ≤ 20000000 := by
  obtain ⟨⟨h6, h7⟩, h8, h9⟩ := wsB_iff.1 h
  have h1 : ∀ (m j : Nat) (a : ByteArray), j + m = nm.n → (fldN (nyW w nm) m j a).size ≤ a.size + 1005 * m := by
    intro m
    induction m with
    | zero => intro j a _; exact Nat.le_refl _
    | succ m ih =>
      intro j a hj
      have h3 := ih (j + 1) (nyW w nm j a) (by omega)
      have h4 := nyW_size (w := w) (s := a) (h8 j (by omega))
      show (fldN (nyW w nm) m (j + 1) (nyW w nm j a)).size ≤ _
      omega
  have h1 := h1 nm.n 0 (wordS w) (by omega)
  have h2 : ∀ (m j : Nat) (a : ByteArray), j + m = nu.n → (fldN (nyV nu) m j a).size ≤ a.size + 22 * m := by
    intro m
    induction m with
    | zero => intro j a _; exact Nat.le_refl _
    | succ m ih =>
      intro j a hj
      have h3 := ih (j + 1) (nyV nu j a) (by omega)
      have h4 := nyV_size (s := a) (h9 j (by omega))
      show (fldN (nyV nu) m (j + 1) (nyV nu j a)).size ≤ _
      omega
  have h2 := h2 nu.n 0 (fldN (nyW w nm) nm.n 0 (wordS w)) (by omega)
  rw [wr_ny, txt_size] at h2
  exact ⟨by omega, by omega⟩
theorem word_size {w : Int} (h : 1 ≤ w ∧ w ≤ 10) : (wordS w).size ≤ 1000 := by
  have : w = 1 ∨ w = 2 ∨ w = 3 ∨ w = 4 ∨ w = 5 ∨ w = 6 ∨ w = 7 ∨ w = 8 ∨ w = 9 ∨ w = 10 := by omega
  rcases this with rfl | rfl | rfl | rfl | rfl | rfl | rfl | rfl | rfl | rfl <;> exact Nat.le_of_ble_eq_true (by kernel_rfl)
theorem den_Written : Den Tryd.prog 29 Fwrite := evF_den C29w_ok fun ds rs h => by
  unfold Fwrite at h
  split at h
  · rename_i w nm nu
    simp only [Option.some.injEq, Prod.mk.injEq, Bool.and_eq_true, decide_eq_true_eq] at h
    obtain ⟨⟨h0, h1⟩, rfl⟩ := h
    have h2 := word_size h0
    refine (u29 w nm nu).trans ?_
    rw [c29a_iff.2 ⟨⟨rfl, rfl, rfl, h2⟩, h1⟩, c29b_iff.2 ⟨⟨rfl, rfl, rfl, (ny_size h2 h1).1⟩, h1⟩, wr_ny]
    rfl
  · cases h
theorem fld_n (w : Int) (nm nu : Row) (h : nm.n ≤ 1000) (h2 : nu.n ≤ 1000) : (wr1 w nm).n ≤ 10000 ∧ (wr2 w nm nu).n ≤ 100000 := by
  have h1 := fold_inv (Inv := fun j (r : Row) => r.n ≤ 1 + 2 * j) (nx := nxW w nm) (len := nm.n) (fun j r hj hr => by
    unfold nxW
    rw [psC_n]
    cases forB w j
    · show r.n + 1 ≤ _; omega
    · show r.n + 1 + 1 ≤ _; omega) (m := nm.n) (j := 0) (a := oW w) (by omega) (Nat.le_refl _)
  have h3 := fold_inv (Inv := fun j (r : Row) => r.n ≤ 10000 + j) (nx := nxV nu) (len := nu.n) (fun j r hj hr => by
    show r.n + 1 ≤ 10000 + (j + 1); omega) (m := nu.n) (j := 0) (a := wr1 w nm) (by omega) (show (wr1 w nm).n ≤ 10000 + 0 from Nat.le_trans h1 (by omega))
  exact ⟨Nat.le_trans h1 (by omega), Nat.le_trans h3 (by omega)⟩
theorem join_wr {w : Int} {nm nu : Row} (hw : 1 ≤ w ∧ w ≤ 10) : joinL (wr2 w nm nu) (wr2 w nm nu).n sSp = wrL w nm nu := by
  unfold joinL wr2
  rw [strs_nxV]
  unfold wr1
  rw [strs_nxW]
  have e0 : strs (oW w) (oW w).n = [wordS w] := by
    obtain ⟨_, _, _, _, _, _, _, w7⟩ := Wt_has hw.1 hw.2
    have ew : IntKind.u8.wrap (w - 1) = w - 1 := wrap_id (by simp [Lit.wf, IntKind.min, IntKind.max, IntKind.signed, IntKind.bits]; omega)
    show [(oW w).S 0 0] = _
    unfold oW
    rw [ew, Nat.zero_add, w7]
    rfl
  rw [e0, List.append_assoc, List.singleton_append, List.map_cons, join_cons]
  rfl
theorem den_write : DenW Tryd.prog Wd 25 Fwrite := evF_denW C25w_ok fun ds rs h => by
  unfold Fwrite at h
  split at h
  · rename_i w nm nu
    simp only [Option.some.injEq, Prod.mk.injEq, Bool.and_eq_true, decide_eq_true_eq] at h
    obtain ⟨⟨h0, h1⟩, rfl⟩ := h
    obtain ⟨⟨h6, h7⟩, h8, h9⟩ := wsB_iff.1 h1
    have h2 := word_size h0
    obtain ⟨n1, n2⟩ := fld_n w nm nu h6 h7
    obtain ⟨w0, _⟩ := Wt_has h0.1 h0.2
    have ew : IntKind.u8.wrap (w - 1) = w - 1 := wrap_id (by simp [Lit.wf, IntKind.min, IntKind.max, IntKind.signed, IntKind.bits]; omega)
    have hl := (ny_size h2 h1).2
    refine (u25 w nm nu).trans ?_
    rw [join_wr h0, ew, decide_eq_true (show 0 ≤ w - 1 by omega), decide_eq_true (show w - 1 < (Wt.n : Int) by omega), cWa_iff.2 ⟨⟨rfl, Nat.le_of_ble_eq_true rfl, rfl⟩, rfl, rfl, (by show nm.n ≤ 1000000; omega)⟩, cWb_iff.2 ⟨⟨rfl, (by show (wr1 w nm).n ≤ 1000000; omega), rfl⟩, ⟨rfl, rfl, (by show nu.n ≤ 1000000; omega)⟩, h9⟩, decide_eq_true (show (wr2 w nm nu).n ≤ 140737488355328 by omega), decide_eq_true (show (wrL w nm nu).length ≤ 140737488355328 by omega)]
    rfl
  · cases h
end Go.Proofs.YtopdfmhlgkbaaaaDoor

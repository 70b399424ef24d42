/- Texts: what Text and Parse give, of the package and of the reference. No conditions. -/
import Derived.Test.YtofkkhdmjllcfaaDoorL2
namespace Go.Proofs.YtofkkhdmjllcfaaDoor
open Go.Ev Go.RowKit Go.Lib Go.Dec
set_option linter.all false
theorem by_txt (l : List UInt8) : by_ (txt l) = l := rfl
theorem txt_by (s : ByteArray) : txt (by_ s) = s := by cases s; rfl
theorem txt_size (l : List UInt8) : (txt l).size = l.length := by
  show (l.toArray).size = _
  simp
theorem txt_app (a b : List UInt8) : txt a ++ txt b = txt (a ++ b) := ByteArray.mk_append_mk a b
theorem size_by (s : ByteArray) : s.size = (by_ s).length := by
  show s.data.size = s.data.toList.length
  simp
theorem getD_by (s : ByteArray) (i : Nat) : s.data.getD i 0 = (by_ s).getD i 0 := by
  show _ = s.data.toList.getD i 0
  rw [Array.getD_eq_getD_getElem?, List.getD_eq_getElem?_getD, Array.getElem?_toList]
theorem toList_by (s : ByteArray) : s.toList = by_ s := ByteArray.toList_eq s
theorem by_inj {a b : ByteArray} (h : by_ a = by_ b) : a = b := by rw [← txt_by a, ← txt_by b, h]
/-! ### Decimal -/
def digB (n : Int) : ByteArray := rowBytes ((Row.zeros 1).setI 0 0 (IntKind.u8.wrap (IntKind.i64.wrap (48 + n.tmod 10)))) 0 1
def SD (n : Int) (s : ByteArray) : St := ⟨[i64 n] ++ us 2 ++ [.string s] ++ us 13, [[]], []⟩
def SDx (s : ByteArray) : St := ⟨us 2 ++ [.string s] ++ us 14, [[]], []⟩
def GD : List It → (X → St → Option (List D)) → Option (List D)
  | [.i n, .s s], k => br (decide (0 ≤ n ∧ n < 9223372036854775808 ∧ s.size ≤ 900)) (k .ret (SDx (txt (decDigits n.toNat) ++ s))) none
  | _, _ => none
def lD : LoopC where
  f := 28
  id := 2
  lv := [0, 3]
  lx := [2]
  p := { τ := [.v (.int .i64)] ++ pu 2 ++ [.v .str] ++ pu 13, saved := [[]], mem := [] }
  G := GD
def SG (s : ByteArray) (n i : Int) : St := ⟨[.string s] ++ us 3 ++ [i64 n, i64 i] ++ us 49, [[]], []⟩
def SGx (n : Int) : St := ⟨us 4 ++ [i64 n] ++ us 50, [[]], []⟩
def SGr (n : Int) : St := ⟨us 2 ++ [i64 0, .bool false, i64 n] ++ us 50, [[]], []⟩
/-- The number that is reached, and whether it is the last one. -/
def valR : List UInt8 → Int → Int × Bool
  | [], n => (n, true)
  | c :: r, n => match dgS c n with
    | some m => valR r m
    | none => (n, false)
theorem valR_eq : ∀ (l : List UInt8) (n : Int), valL l n = if (valR l n).2 = true then some (valR l n).1 else none
  | [], n => rfl
  | c :: r, n => by
    unfold valL valR
    cases dgS c n with
    | none => rfl
    | some m => exact valR_eq r m
def GG : List It → (X → St → Option (List D)) → Option (List D)
  | [.s s], k => br (decide (s.size ≤ 1000)) (br (valR (by_ s) 0).2 (k (.exit 0) (SGx (valR (by_ s) 0).1)) (k .ret (SGr (valR (by_ s) 0).1))) none
  | _, _ => none
def lG : LoopC where
  f := 31
  id := 5
  lv := [0, 4, 5]
  lx := [2, 3, 4]
  p := { τ := [.v .str] ++ pu 3 ++ [.v (.c (i64 0)), .v (.c (i64 0))] ++ pu 49, saved := [[]], mem := [] }
  G := GG
def SP (s : ByteArray) (b : Bool) (i : Int) : St := ⟨[.string s] ++ us 1 ++ [.pointer (some ⟨0, 0, some 0⟩)] ++ us 1 ++ [.bool b, i64 i] ++ us 78, [[]], [some (.box [i64 0, i64 0])]⟩
def GP : List It → (X → St → Option (List D)) → Option (List D)
  | [.s s, .b b], k => br (decide (s.size ≤ 4611686018427387904)) (k (.exit 0) (SP s b ((sp (by_ s)).1.length : Nat))) none
  | _, _ => none
def lP : LoopC where
  f := 11
  id := 5
  lv := [0, 2, 4, 5]
  lx := [0, 2, 3, 4, 5]
  p := { τ := [.v .str] ++ pu 1 ++ [.v (.c (.pointer (some ⟨0, 0, some 0⟩)))] ++ pu 1 ++ [.v .bool, .v (.c (i64 0))] ++ pu 78, saved := [[]], mem := [.box [.v (.c (i64 0)), .v (.c (i64 0))]] }
  G := GP
noncomputable def CD : Cx := mkCx Tryd.prog fns [] [lD, lG]
theorem roundD (p : Nat) (R : St → Option (List D)) (K : X → St → Option (List D)) (n : Int) (s : ByteArray) : evCode CD 28 true (inl CD (p + 4)) (lbody CD.P 28 2) (SD n s) (rnd [0, 3] (some [2]) R K) =
    br (decide (((((digB n).size + s.size : Nat)) : Int) > IntKind.i64.max)) none (br (IntKind.i64.wrap (n.tdiv 10) == 0) (K .ret (SDx (digB n ++ s))) (R (SD (IntKind.i64.wrap (n.tdiv 10)) (digB n ++ s)))) := by kernel_rfl
theorem digB_eq (u : Nat) (h : u < 9223372036854775808) : digB (u : Int) = txt [UInt8.ofNat (48 + u % 10)] := by
  have e1 : ((u : Int)).tmod 10 = ((u % 10 : Nat) : Int) := by rw [Int.tmod_eq_emod_of_nonneg (by omega)]; omega
  have e2 : IntKind.u8.wrap (IntKind.i64.wrap (48 + ((u % 10 : Nat) : Int))) = ((48 + u % 10 : Nat) : Int) := by
    rw [wrapI_id (by omega) (by omega)]
    exact wrap_id (by simp [Lit.wf, IntKind.min, IntKind.max, IntKind.signed, IntKind.bits]; omega)
  unfold digB
  rw [e1, e2]
  show txt [UInt8.ofNat (((48 + u % 10 : Nat) : Int)).toNat] = _
  rw [Int.toNat_natCast]
theorem go_dec {f : St → (X → St → Option (List D)) → Option (List D)} (hr : ∀ n s R K, f (SD n s) (rnd [0, 3] (some [2]) R K) = br (decide (((((digB n).size + s.size : Nat)) : Int) > IntKind.i64.max)) none (br (IntKind.i64.wrap (n.tdiv 10) == 0) (K .ret (SDx (digB n ++ s))) (R (SD (IntKind.i64.wrap (n.tdiv 10)) (digB n ++ s))))) (K : X → St → Option (List D)) :
    ∀ (N u : Nat) (s : ByteArray), nDigits u ≤ N → u < 9223372036854775808 → s.size + N ≤ 1000 → ∀ F, N ≤ F → rounds [0, 3] (some [2]) f F (SD u s) K = K .ret (SDx (txt (decDigits u) ++ s))
  | 0, u, s, h, _, _, F, _ => by have := nDigits_pos u; omega
  | N + 1, u, s, h, h1, h2, F, hF => by
    obtain ⟨F, rfl⟩ : ∃ F', F = F' + 1 := ⟨F - 1, by omega⟩
    have hsz : (txt [UInt8.ofNat (48 + u % 10)]).size = 1 := rfl
    have e1 : ((u : Int)).tdiv 10 = ((u / 10 : Nat) : Int) := by rw [Int.tdiv_eq_ediv_of_nonneg (by omega)]; omega
    rw [rnds1, hr, digB_eq u h1, hsz, decide_eq_false (show ¬ (((1 + s.size : Nat) : Int) > IntKind.i64.max) by
      have : IntKind.i64.max = 9223372036854775807 := by decide
      omega), br_false, e1, wrapI_id (by omega) (by omega)]
    by_cases hs : u < 10
    · rw [show (((u / 10 : Nat) : Int) == 0) = true by simp; omega, br_true, decDigits_one hs, show 48 + u % 10 = 48 + u by omega]
    · rw [show (((u / 10 : Nat) : Int) == 0) = false by simp; omega, br_false]
      rw [nDigits_big hs] at h
      rw [go_dec hr K N (u / 10) (txt [UInt8.ofNat (48 + u % 10)] ++ s) (by omega) (by omega) (by rw [ByteArray.size_append, hsz]; omega) F (by omega), decDigits_ten hs, ← txt_app, ByteArray.append_assoc]
set_option maxRecDepth 100000 in
theorem loopD : LoopOk CD lD := ⟨by kernel_rfl, fun q its k rr h => by
  show rounds [0, 3] (some [2]) (evCode CD 28 true (inl CD (q + 4)) (lbody CD.P 28 2)) 18446744073709551616 (bst lD.p its) k = some rr
  change GD its k = some rr at h
  unfold GD at h
  split at h
  · rename_i n s
    rcases br_some h with ⟨h1, h2⟩ | ⟨_, h2⟩
    · obtain ⟨k1, k2, k3⟩ := of_decide_eq_true h1
      obtain ⟨u, rfl⟩ := Int.eq_ofNat_of_zero_le k1
      rw [← h2, Int.toNat_natCast]
      exact go_dec (fun n s R K => roundD q R K n s) k 19 u s (nDigits_lt 18 u (by omega)) (by omega) (by omega) _ (by omega)
    · cases h2
  · cases h⟩
/-! ### digits -/
theorem roundG (p : Nat) (R : St → Option (List D)) (K : X → St → Option (List D)) (n i : Int) (s : ByteArray) : evCode CD 31 true (inl CD (p + 4)) (lbody CD.P 31 5) (SG s n i) (rnd [0, 4, 5] (some [2, 3, 4]) R K) =
    br (decide (i < (s.size : Int))) (br (decide (0 ≤ i) && decide (i < (s.size : Int))) (br (decide (((s.data.getD i.toNat 0).toNat : Int) < 48)) (K .ret (SGr n)) (br (decide (0 ≤ i) && decide (i < (s.size : Int))) (br (decide (((s.data.getD i.toNat 0).toNat : Int) > 57)) (K .ret (SGr n)) (br (decide (n > 100000000000000000)) (K .ret (SGr n))
      (br (decide (0 ≤ i) && decide (i < (s.size : Int))) (R (SG s (IntKind.i64.wrap (IntKind.i64.wrap (10 * n) + IntKind.i64.wrap (IntKind.u8.wrap (((s.data.getD i.toNat 0).toNat : Int) - 48)))) (IntKind.i64.wrap (i + 1)))) none))) none)) none) (K (.exit 0) (SGx n)) := by kernel_rfl
theorem go_dig {f : St → (X → St → Option (List D)) → Option (List D)} {s : ByteArray} (hs : s.size ≤ 1000) (hr : ∀ n i R K, f (SG s n i) (rnd [0, 4, 5] (some [2, 3, 4]) R K) =
    br (decide (i < (s.size : Int))) (br (decide (0 ≤ i) && decide (i < (s.size : Int))) (br (decide (((s.data.getD i.toNat 0).toNat : Int) < 48)) (K .ret (SGr n)) (br (decide (0 ≤ i) && decide (i < (s.size : Int))) (br (decide (((s.data.getD i.toNat 0).toNat : Int) > 57)) (K .ret (SGr n)) (br (decide (n > 100000000000000000)) (K .ret (SGr n))
      (br (decide (0 ≤ i) && decide (i < (s.size : Int))) (R (SG s (IntKind.i64.wrap (IntKind.i64.wrap (10 * n) + IntKind.i64.wrap (IntKind.u8.wrap (((s.data.getD i.toNat 0).toNat : Int) - 48)))) (IntKind.i64.wrap (i + 1)))) none))) none)) none) (K (.exit 0) (SGx n))) (K : X → St → Option (List D)) :
    ∀ (m i : Nat) (n : Int), i + m = s.size → 0 ≤ n → n ≤ 1000000000000000009 → ∀ F, m < F → rounds [0, 4, 5] (some [2, 3, 4]) f F (SG s n i) K = br (valR ((by_ s).drop i) n).2 (K (.exit 0) (SGx (valR ((by_ s).drop i) n).1)) (K .ret (SGr (valR ((by_ s).drop i) n).1))
  | 0, i, n, hi, _, _, F, hF => by
    obtain ⟨F, rfl⟩ : ∃ F', F = F' + 1 := ⟨F - 1, by omega⟩
    rw [rnds1, hr, decide_eq_false (show ¬ (i : Int) < (s.size : Int) by omega), br_false, List.drop_eq_nil_of_le (by rw [← size_by]; omega)]
    rfl
  | m + 1, i, n, hi, h0, h1, F, hF => by
    obtain ⟨F, rfl⟩ : ∃ F', F = F' + 1 := ⟨F - 1, by omega⟩
    have hlt : i < (by_ s).length := by rw [← size_by]; omega
    have hd : (by_ s).drop i = (by_ s)[i] :: (by_ s).drop (i + 1) := List.drop_eq_getElem_cons hlt
    have hg : s.data.getD i 0 = (by_ s)[i] := by rw [getD_by, List.getD_eq_getElem?_getD, List.getElem?_eq_getElem hlt]; rfl
    have hin : (decide (0 ≤ (i : Int)) && decide ((i : Int) < (s.size : Int))) = true := by simp only [Bool.and_eq_true, decide_eq_true_eq]; omega
    rw [rnds1, hr, hin, decide_eq_true (show (i : Int) < (s.size : Int) by omega), br_true, br_true, br_true, br_true, Int.toNat_natCast, hg, hd]
    generalize (by_ s)[i] = c
    have hc : c.toNat < 256 := c.toNat_lt
    unfold valR
    by_cases c1 : c.toNat < 48
    · rw [decide_eq_true (show ((c.toNat : Int) < 48) by omega), br_true, show dgS c n = none from if_pos (.inl c1)]; rfl
    · rw [decide_eq_false (show ¬ ((c.toNat : Int) < 48) by omega), br_false]
      by_cases c2 : 57 < c.toNat
      · rw [decide_eq_true (show ((c.toNat : Int) > 57) by omega), br_true, show dgS c n = none from if_pos (.inr (.inl c2))]; rfl
      · rw [decide_eq_false (show ¬ ((c.toNat : Int) > 57) by omega), br_false]
        by_cases c3 : 100000000000000000 < n
        · rw [decide_eq_true (show n > 100000000000000000 from c3), br_true, show dgS c n = none from if_pos (.inr (.inr c3))]; rfl
        · rw [decide_eq_false (show ¬ n > 100000000000000000 from c3), br_false, show dgS c n = some (10 * n + ((c.toNat : Int) - 48)) from if_neg (by omega),
            show IntKind.u8.wrap ((c.toNat : Int) - 48) = (c.toNat : Int) - 48 from wrap_id (by simp [Lit.wf, IntKind.min, IntKind.max, IntKind.signed, IntKind.bits]; omega),
            wrapI_id (n := (c.toNat : Int) - 48) (by omega) (by omega), wrapI_id (n := 10 * n) (by omega) (by omega), wrapI_id (n := 10 * n + ((c.toNat : Int) - 48)) (by omega) (by omega), wrapI_id (n := (i : Int) + 1) (by omega) (by omega), show (i : Int) + 1 = ((i + 1 : Nat) : Int) by omega]
          exact go_dig hs hr K m (i + 1) (10 * n + ((c.toNat : Int) - 48)) (by omega) (by omega) (by omega) F (by omega)
set_option maxRecDepth 100000 in
theorem loopG : LoopOk CD lG := ⟨by kernel_rfl, fun q its k rr h => by
  show rounds [0, 4, 5] (some [2, 3, 4]) (evCode CD 31 true (inl CD (q + 4)) (lbody CD.P 31 5)) 18446744073709551616 (bst lG.p its) k = some rr
  change GG its k = some rr at h
  unfold GG at h
  split at h
  · rename_i s
    rcases br_some h with ⟨h1, h2⟩ | ⟨_, h2⟩
    · have h1 := of_decide_eq_true h1
      rw [← h2]
      exact go_dig h1 (fun n i R K => roundG q R K n i s) k s.size 0 0 (by omega) (by omega) (by omega) _ (by omega)
    · cases h2
  · cases h⟩
theorem CD_ok : CxOk CD := mkCx_ok enter mixed (fun p h => by cases h) (fun l h => by
  simp only [List.mem_cons, List.not_mem_nil, or_false] at h
  rcases h with rfl | rfl
  · exact loopD
  · exact loopG)
theorem tdec (n : Int) : evF CD 6 28 [.v (i64 n)] =
    br (decide (0 ≤ n ∧ n < 9223372036854775808 ∧ { data := #[] : ByteArray }.size ≤ 900)) (some [.v (.string (txt (decDigits n.toNat) ++ { data := { toList := [] : Array UInt8 } : ByteArray }))]) (none) := by kernel_rfl
theorem tdig (s : ByteArray) : evF CD 6 31 [.v (.string s)] =
    br ((↑s.size : Int) == 0) (some [.v (i64 (0)), .v (.bool (false))]) (br (decide ((↑s.size : Int) > 19)) (some [.v (i64 (0)), .v (.bool (false))]) (br (decide ((↑s.size : Int) > 1)) (br (decide (0 ≤ 0) && decide (0 < (↑s.size : Int))) (br ((↑(s.data.getD 0 0).toNat : Int) == 48) (some [.v (i64 (0)), .v (.bool (false))]) (br (decide (s.size ≤ 1000)) (br ((valR (by_ s) 0).2) (some [.v (i64 ((valR (by_ s) 0).1)), .v (.bool (decide ((valR (by_ s) 0).fst ≤ 1000000000000000000)))]) (some [.v (i64 (0)), .v (.bool (false))])) (none))) (none)) (br (decide (s.size ≤ 1000)) (br ((valR (by_ s) 0).2) (some [.v (i64 ((valR (by_ s) 0).1)), .v (.bool (decide ((valR (by_ s) 0).fst ≤ 1000000000000000000)))]) (some [.v (i64 (0)), .v (.bool (false))])) (none)))) := by kernel_rfl
end Go.Proofs.YtofkkhdmjllcfaaDoor

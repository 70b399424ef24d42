/- Texts T23 T24 T25 in one. No conditions. -/
import Derived.Test.YtopdfmhlgkbaaaaDoorMC
/- alive: the tree. No conditions. -/
namespace Go.Proofs.YtopdfmhlgkbaaaaDoor
open Go.Ev Go.RowKit Go.Lib Go.Dec
set_option linter.all false
def Ftq (c : Row → Bool) (t : Row → ByteArray) (e : Row → Int) : List D → Option (Bool × List D)
  | [.slice [.int .u8, .slice [.str], .slice [.int .i64]] l] => some (c l, [.v (.string (t l)), .v (i64 (e l))])
  | _ => none
def Fpq (c : ByteArray → Bool) (o : ByteArray → Row) (e : ByteArray → Int) : List D → Option (Bool × List D)
  | [.v (.string s)] => some (c s, [.slice ksL (o s), .v (i64 (e s))])
  | _ => none
def Fnq (c : Row → Bool) (o : Row → Row) (e : Row → Int) : List D → Option (Bool × List D)
  | [.slice [.int .u8, .slice [.str], .slice [.int .i64]] l] => some (c l, [.slice [.str, .int .u8] (o l), .v (i64 (e l))])
  | _ => none
def Fgq (g : Row) : List D → Option (Bool × List D)
  | [] => some (true, [.slice ksL g])
  | _ => none
def Frq (c : ByteArray → Bool) (e : ByteArray → Int) : List D → Option (Bool × List D)
  | [.v (.string s)] => some (c s, [.v (i64 (e s))])
  | _ => none
def Fsq (c : Row → Row → Bool) (b : Row → Row → Bool) : List D → Option (Bool × List D)
  | [.slice [.int .u8, .slice [.str], .slice [.int .i64]] l, .slice [.int .u8, .slice [.str], .slice [.int .i64]] o] => some (c l o, [.v (.bool (b l o))])
  | _ => none
def Fkq (c : Row → Row → Bool) (b : Row → Row → Bool) : List D → Option (Bool × List D)
  | [.slice [.str, .int .u8] l, .slice [.str, .int .u8] o] => some (c l o, [.v (.bool (b l o))])
  | _ => none
structure Av where
  g : Row
  tc : Row → Bool
  tS : Row → ByteArray
  tE : Row → Int
  pc : ByteArray → Bool
  pO : ByteArray → Row
  pE : ByteArray → Int
  nc : Row → Bool
  nO : Row → Row
  nE : Row → Int
  rE : ByteArray → Int
  sc : Row → Row → Bool
  sB : Row → Row → Bool
  kc : Row → Row → Bool
  kB : Row → Row → Bool
noncomputable def CG : Cx := mkCx Tryd.prog fns [] []
theorem al23 : evF CG 6 23 [] =
    some [.slice [.int .u8, .slice [.str], .slice [.int .i64]] (winOf ((((((((((((((((Row.zeros 5).setI 0 0 1).setR 0 1 (winOf ((Row.zeros 1).setS 0 0 { data := { toList := [97, 110, 110] : Array UInt8 } : ByteArray }) 0 1)).setR 0 2 (winOf (((((((Row.zeros 6).setI 0 0 10).setI 1 0 0).setI 2 0 4).setI 3 0 10).setI 4 0 3).setI 5 0 5) 0 6)).setI 1 0 2).setR 1 1 (winOf ((Row.zeros 1).setS 0 0 { data := { toList := [98, 111, 98] : Array UInt8 } : ByteArray }) 0 1)).setR 1 2 Row.nil).setI 2 0 2).setR 2 1 (winOf ((Row.zeros 1).setS 0 0 { data := { toList := [99, 97, 114, 111, 108] : Array UInt8 } : ByteArray }) 0 1)).setR 2 2 Row.nil).setI 3 0 3).setR 3 1 (winOf (((Row.zeros 2).setS 0 0 { data := { toList := [98, 111, 98] : Array UInt8 } : ByteArray }).setS 1 0 { data := { toList := [99, 97, 114, 111, 108] : Array UInt8 } : ByteArray }) 0 2)).setR 3 2 (winOf ((Row.zeros 1).setI 0 0 500) 0 1)).setI 4 0 4).setR 4 1 (winOf ((((Row.zeros 3).setS 0 0 { data := { toList := [99, 97, 114, 111, 108] : Array UInt8 } : ByteArray }).setS 1 0 { data := { toList := [98, 111, 98] : Array UInt8 } : ByteArray }).setS 2 0 { data := { toList := [99, 97, 114, 111, 108] : Array UInt8 } : ByteArray }) 0 3)).setR 4 2 (winOf ((Row.zeros 1).setI 0 0 90) 0 1)) 0 5)] := by kernel_rfl
noncomputable def CP (pc : ByteArray → Bool) (pO : ByteArray → Row) (pE : ByteArray → Int) : Cx := mkCx Tryd.prog fns [(11, Fpq pc pO pE)] []
theorem al21 (pc : ByteArray → Bool) (pO : ByteArray → Row) (pE : ByteArray → Int) (s : ByteArray) : evF (CP pc pO pE) 6 21 [.v (.string s)] =
    br (pc s) (br (pE s != 0) (br (decide ((↑(pO s).n : Int) > 0)) (some [.v (i64 (0))]) (some [.v (i64 (pE s))])) (some [.v (i64 (pE s))])) (none) := by kernel_rfl
noncomputable def CA (g : Row) (tc : Row → Bool) (tS : Row → ByteArray) (tE : Row → Int) (pc : ByteArray → Bool) (pO : ByteArray → Row) (pE : ByteArray → Int) (nc : Row → Bool) (nO : Row → Row) (nE : Row → Int) (rE : ByteArray → Int) (sc sB kc kB : Row → Row → Bool) : Cx := mkCx Tryd.prog fns [(9, Ftq tc tS tE), (11, Fpq pc pO pE), (23, Fgq g), (16, Fnq nc nO nE), (17, Fkq kc kB), (13, Fsq sc sB), (21, Frq pc rE)] []
def txA : ByteArray := ⟨⟨[97, 103, 101, 110, 116, 32, 97, 110, 110, 32, 49, 48, 32, 48, 32, 52, 32, 49, 48, 32, 51, 32, 53, 10, 112, 97, 114, 116, 121, 32, 98, 111, 98, 10, 112, 97, 114, 116, 121, 32, 99, 97, 114, 111, 108, 10, 112, 97, 121, 32, 98, 111, 98, 32, 99, 97, 114, 111, 108, 32, 53, 48, 48, 10, 115, 104, 97, 114, 101, 32, 99, 97, 114, 111, 108, 32, 102, 111, 114, 32, 98, 111, 98, 32, 99, 97, 114, 111, 108, 32, 57, 48, 10]⟩⟩
def txB : ByteArray := ⟨⟨[97, 103, 101, 110, 116, 32, 97, 110, 110, 32, 49, 48, 32, 48, 32, 52, 32, 49, 48, 32, 51, 32, 53, 10, 112, 97, 114, 116, 121, 32, 98, 111, 98, 10, 112, 97, 114, 116, 121, 32, 99, 97, 114, 111, 108, 10, 112, 97, 121, 32, 98, 111, 98, 32, 99, 97, 114, 111, 108, 32, 53, 48, 48, 10, 115, 104, 97, 114, 101, 32, 99, 97, 114, 111, 108, 32, 102, 111, 114, 32, 98, 111, 98, 32, 99, 97, 114, 111, 108, 32, 57, 48, 10, 112, 97, 121, 32, 98, 111, 98, 32, 100, 97, 118, 101, 32, 53, 10]⟩⟩
def txC : ByteArray := ⟨⟨[97, 103, 101, 110, 116, 32, 97, 110, 110, 32, 49, 48, 32, 48, 32, 52, 32, 49, 48, 32, 51, 32, 53, 10, 112, 97, 114, 116, 121, 32, 98, 111, 98, 10, 112, 97, 114, 116, 121, 32, 99, 97, 114, 111, 108, 10, 112, 97, 121, 32, 98, 111, 98, 32, 99, 97, 114, 111, 108, 32, 53, 48, 48, 10, 115, 104, 97, 114, 101, 32, 99, 97, 114, 111, 108, 32, 102, 111, 114, 32, 98, 111, 98, 32, 99, 97, 114, 111, 108, 32, 57, 48, 10, 112, 97, 114, 116, 121, 32, 97, 110, 110, 10]⟩⟩
def txD : ByteArray := ⟨⟨[97, 103, 101, 110, 116, 32, 97, 110, 110, 32, 49, 48, 32, 48, 32, 52, 32, 49, 48, 32, 51, 32, 53, 10, 112, 97, 114, 116, 121, 32, 98, 111, 98, 10, 112, 97, 114, 116, 121, 32, 99, 97, 114, 111, 108, 10, 112, 97, 121, 32, 98, 111, 98, 32, 99, 97, 114, 111, 108, 32, 53, 48, 48, 10, 115, 104, 97, 114, 101, 32, 99, 97, 114, 111, 108, 32, 102, 111, 114, 32, 98, 111, 98, 32, 99, 97, 114, 111, 108, 32, 57, 48, 10, 112, 97, 121, 32, 98, 111, 98, 32, 98, 111, 98, 32, 53, 10]⟩⟩
def knG : Row := winOf (((((((Row.zeros 3).setS 0 0 ⟨⟨[97, 110, 110]⟩⟩).setI 0 1 1).setS 1 0 ⟨⟨[98, 111, 98]⟩⟩).setI 1 1 2).setS 2 0 ⟨⟨[99, 97, 114, 111, 108]⟩⟩).setI 2 1 2) 0 3
def fF : Option (List D) := some [.v (.bool false)]
theorem al14 (g : Row) (tc : Row → Bool) (tS : Row → ByteArray) (tE : Row → Int) (pc : ByteArray → Bool) (pO : ByteArray → Row) (pE : ByteArray → Int) (nc : Row → Bool) (nO : Row → Row) (nE : Row → Int) (rE : ByteArray → Int) (sc sB kc kB : Row → Row → Bool) : evF (CA g tc tS tE pc pO pE nc nO nE rE sc sB kc kB) 6 14 [] =
    br (tc (winOf g 0 g.n)) (br (pc txA) (br (nc (winOf g 0 g.n)) (br (tE (winOf g 0 g.n) == 0) (br (pE txA == 0) (br (nE (winOf g 0 g.n) == 0) (br ((tS (winOf g 0 g.n)).toList == txA.toList) (br (sc (winOf (pO txA) 0 (pO txA).n) (winOf g 0 g.n)) (br (sB (winOf (pO txA) 0 (pO txA).n) (winOf g 0 g.n)) (br (kc (winOf (nO (winOf g 0 g.n)) 0 (nO (winOf g 0 g.n)).n) knG) (br (kB (winOf (nO (winOf g 0 g.n)) 0 (nO (winOf g 0 g.n)).n) knG) (br (pc txB) (br (rE txB == 6) (br (pc txC) (br (rE txC == 14) (br (pc txD) (some [.v (.bool (rE txD == 12))]) none) fF) none) fF) none) fF) none) fF) none) fF) fF) fF) fF) none) none) none := by kernel_rfl
end Go.Proofs.YtopdfmhlgkbaaaaDoor
/- alive: the closed facts. No conditions. -/
namespace Go.Proofs.YtopdfmhlgkbaaaaDoor
open Go.Ev Go.RowKit Go.Lib Go.Dec
set_option linter.all false
theorem runS_congr2 {β : Type} {stop stop' : Nat → β → Bool} {nx nx' : Nat → β → β} {len : Nat} (hs : ∀ j a, j < len → stop' j a = stop j a) (hn : ∀ j a, j < len → stop j a = false → nx' j a = nx j a) : ∀ {m j : Nat} {a : β}, j + m = len →
    runS stop' nx' m j a = runS stop nx m j a
  | 0, j, a, hj => rfl
  | m + 1, j, a, hj => by
    cases hc : stop j a
    · rw [runS_s hc, runS_s ((hs j a (by omega)).trans hc), hn j a (by omega) hc]
      exact runS_congr2 hs hn (by omega)
    · rw [runS_t hc, runS_t ((hs j a (by omega)).trans hc)]
theorem lnE_sm {l o : Row} {i k : Nat} (h : lnE l o i k) : l.I i 0 = o.I k 0 ∧ SmL (l.R i 1) (l.R i 2) (o.R k 1) (o.R k 2) := ⟨h.1, h.2.1.1, h.2.1.2, h.2.2.1, h.2.2.2⟩
theorem sa_va {l o : Row} (h : saL l o) {i : Nat} (hi : i < l.n) : vaL l i = vaL o i := by
  obtain ⟨h1, h2⟩ := lnE_sm (h.2 i hi)
  unfold vaL
  rw [h1, h2.va]
/-- Equal lines: the same names become known, the same error. -/
theorem kn_congr {l o : Row} (h : saL l o) : knR l = knR o := by
  unfold knR
  rw [h.1]
  refine runS_congr2 (len := o.n) (fun j a hj => ?_) (fun j a hj hs => ?_) (by omega)
  · obtain ⟨h1, h2⟩ := lnE_sm (h.2 j (by rw [h.1]; exact hj))
    unfold stK
    rw [sa_va h (by rw [h.1]; exact hj)]
    cases hv : vaL o j
    · rfl
    · obtain ⟨_, hn1⟩ := va_word hv
      rw [h1]
      cases hw : newB (o.I j 0)
      · have e : anyF (badK l a j) (l.R j 1).n 0 = anyF (badK o a j) (o.R j 1).n 0 := by
          rw [h2.a]
          refine anyF_congr fun i _ hi => ?_
          unfold badK
          rw [h1, h2.b i (by rw [h2.a]; omega)]
        rw [e]
        rfl
      · rw [h2.b 0 (by rw [h2.a, hn1 hw]; omega)]
        rfl
  · obtain ⟨h1, h2⟩ := lnE_sm (h.2 j (by rw [h.1]; exact hj))
    obtain ⟨_, hn1⟩ := va_word (stK_va hs)
    unfold nxK
    rw [h1]
    cases hw : newB (o.I j 0)
    · rfl
    · rw [h2.b 0 (by rw [h2.a, hn1 hw]; omega)]
theorem runS_j {β : Type} {stop : Nat → β → Bool} {nx : Nat → β → β} {m j : Nat} {a : β} (h : (runS stop nx m j a).1 = true) : (runS stop nx m j a).2.1 < j + m := by
  have := runS_inv (stop := stop) (nx := nx) (Inv := fun _ _ => True) (len := j + m) (fun _ _ _ _ _ => trivial) (m := m) (j := j) (a := a) rfl trivial
  exact (this.2.1 h).1
theorem na_congr {l o : Row} (h : saL l o) : naE l = naE o ∧ naO l = naO o := by
  have hk := kn_congr h
  unfold naE naO knE knO
  rw [hk, h.1]
  refine ⟨?_, rfl⟩
  cases hc : (knR o).1
  · rfl
  · have hj : (knR o).2.1 < o.n := by have := runS_j (stop := stK o) (nx := nxK o) (m := o.n) (j := 0) (a := .nil) hc; unfold knR; omega
    have hl : (knR o).2.1 < l.n := by rw [h.1]; exact hj
    unfold erK
    rw [sa_va h hl, (h.2 _ hl).1]
def rowI (l : List Int) : Row := .mk l.length (fun e _ => l.getD e 0) (fun _ _ => false) (fun _ _ => .empty) (fun _ _ => .nil)
/-- The chapter's lines. -/
def gvR : Row := (winOf ((((((((((((((((Row.zeros 5).setI 0 0 1).setR 0 1 (winOf ((Row.zeros 1).setS 0 0 ⟨⟨[97, 110, 110]⟩⟩) 0 1)).setR 0 2 (winOf (((((((Row.zeros 6).setI 0 0 10).setI 1 0 0).setI 2 0 4).setI 3 0 10).setI 4 0 3).setI 5 0 5) 0 6)).setI 1 0 2).setR 1 1 (winOf ((Row.zeros 1).setS 0 0 ⟨⟨[98, 111, 98]⟩⟩) 0 1)).setR 1 2 Row.nil).setI 2 0 2).setR 2 1 (winOf ((Row.zeros 1).setS 0 0 ⟨⟨[99, 97, 114, 111, 108]⟩⟩) 0 1)).setR 2 2 Row.nil).setI 3 0 3).setR 3 1 (winOf (((Row.zeros 2).setS 0 0 ⟨⟨[98, 111, 98]⟩⟩).setS 1 0 ⟨⟨[99, 97, 114, 111, 108]⟩⟩) 0 2)).setR 3 2 (winOf ((Row.zeros 1).setI 0 0 500) 0 1)).setI 4 0 4).setR 4 1 (winOf ((((Row.zeros 3).setS 0 0 ⟨⟨[99, 97, 114, 111, 108]⟩⟩).setS 1 0 ⟨⟨[98, 111, 98]⟩⟩).setS 2 0 ⟨⟨[99, 97, 114, 111, 108]⟩⟩) 0 3)).setR 4 2 (winOf ((Row.zeros 1).setI 0 0 90) 0 1)) 0 5)
def bob : ByteArray := ⟨⟨[98, 111, 98]⟩⟩
def gvB : Row := pushL gvR (lnR 3 (rowS [bob, ⟨⟨[100, 97, 118, 101]⟩⟩]) (rowI [5]))
def gvC : Row := pushL gvR (lnR 2 (rowS [⟨⟨[97, 110, 110]⟩⟩]) .nil)
def badN2 : Row := rowS [bob, bob]
theorem gv_na : naE gvR = 0 := by kernel_rfl
theorem gv_te : teL gvR gvR.n = by_ txA := by kernel_rfl
theorem gvB_na : naE gvB = 6 := by kernel_rfl
theorem gvB_te : teL gvB gvB.n = by_ txB := by kernel_rfl
theorem gvC_na : naE gvC = 14 := by kernel_rfl
theorem gvC_te : teL gvC gvC.n = by_ txC := by kernel_rfl
theorem gvB_va : (!anyF (fun i => !vaL gvB i) gvB.n 0) = true := by kernel_rfl
theorem gvC_va : (!anyF (fun i => !vaL gvC i) gvC.n 0) = true := by kernel_rfl
theorem gv_kn : saNB (winOf (wiR (naO gvR)) 0 (wiR (naO gvR)).n) knG = true := by kernel_rfl
theorem gv_ok : okL gvR = true := by kernel_rfl
end Go.Proofs.YtopdfmhlgkbaaaaDoor
/- alive gives true. No conditions. -/
namespace Go.Proofs.YtopdfmhlgkbaaaaDoor
open Go.Ev Go.RowKit Go.Lib Go.Dec
set_option linter.all false
def tcB (l : Row) : Bool := decide (l.n > 200) || okL l
def pcB (s : ByteArray) : Bool := decide (s.size ≤ 1000000)
def nmO (l : Row) : Row := wiR (naO l)
theorem den_textq : DenW Tryd.prog Wd 9 (Ftq tcB teS teE) := den_text.less fun ds rs h => by
  unfold Ftq at h
  split at h
  · exact h
  · cases h
theorem den_parseq : DenW Tryd.prog Wd 11 (Fpq pcB paO paE) := den_parse.less fun ds rs h => by
  unfold Fpq at h
  split at h
  · exact h
  · cases h
theorem den_namesq : DenW Tryd.prog Wd 16 (Fnq tcB nmO naE) := (den_names.at Wd).less fun ds rs h => by
  unfold Fnq at h
  split at h
  · exact h
  · cases h
theorem den_sameq : DenW Tryd.prog Wd 13 (Fsq (fun l _ => bgL l) saLB) := (den_sameL.at Wd).less fun ds rs h => by
  unfold Fsq at h
  split at h
  · exact h
  · cases h
theorem den_sameNq : DenW Tryd.prog Wd 17 (Fkq (fun l _ => decide (l.n ≤ big)) saNB) := (den_sameN.at Wd).less fun ds rs h => by
  unfold Fkq at h
  split at h
  · exact h
  · cases h
theorem CG_ok : CxW CG Wd := mkCx_okW enter mixed (fun p h => by cases h) (fun l h => by cases h)
theorem den_given : DenW Tryd.prog Wd 23 (Fgq gvR) := evF_denW CG_ok fun ds rs h => by
  unfold Fgq at h
  split at h
  · simp only [Option.some.injEq, Prod.mk.injEq] at h
    obtain ⟨_, rfl⟩ := h
    exact al23
  · cases h
theorem CP_ok : CxW (CP pcB paO paE) Wd := mkCx_okW enter mixed (fun p h => by
  simp only [List.mem_cons, List.not_mem_nil, or_false] at h
  subst h
  exact den_parseq) (fun l h => by cases h)
theorem paO_nil {s : ByteArray} (h : (paE s != 0) = true) : paO s = .nil := by
  unfold paE at h
  unfold paO
  cases h1 : decide (20000 < s.size)
  · cases h2 : (paR s).1
    · rw [h1, h2] at h
      rw [show (naE (paL s) != 0) = true from h]
      rfl
    · rfl
  · rfl
theorem den_lread : DenW Tryd.prog Wd 21 (Frq pcB paE) := evF_denW CP_ok fun ds rs h => by
  unfold Frq at h
  split at h
  · rename_i s
    simp only [Option.some.injEq, Prod.mk.injEq] at h
    obtain ⟨h0, rfl⟩ := h
    refine (al21 pcB paO paE s).trans ?_
    rw [h0]
    cases hp : (paE s != 0)
    · rfl
    · rw [paO_nil hp]
      rfl
  · cases h
theorem pa_of {l : Row} (h : ∀ i, i < l.n → vaL l i = true) (hs : (teL l l.n).length ≤ 20000) : paE (txt (teL l l.n)) = naE l ∧ saL (paL (txt (teL l l.n))) l := by
  obtain ⟨h1, h2⟩ := pa_lines h
  refine ⟨?_, h2⟩
  unfold paE
  rw [h1, txt_size, decide_eq_false (show ¬ 20000 < (teL l l.n).length by omega), (na_congr h2).1]
  rfl
theorem va_all {l : Row} (h : (!anyF (fun i => !vaL l i) l.n 0) = true) : ∀ i, i < l.n → vaL l i = true := fun i hi => by
  rw [Bool.not_eq_true', anyF_false] at h
  have := h i (Nat.zero_le _) (by omega)
  simpa using this
theorem txA_is : txA = txt (teL gvR gvR.n) := by rw [gv_te, txt_by]
theorem txB_is : txB = txt (teL gvB gvB.n) := by rw [gvB_te, txt_by]
theorem txC_is : txC = txt (teL gvC gvC.n) := by rw [gvC_te, txt_by]
theorem pa_A : paE txA = 0 ∧ saL (paL txA) gvR := by
  obtain ⟨h1, h2⟩ := pa_of (l := gvR) (na_zero gv_na).2.2 (by rw [gv_te]; exact Nat.le_of_ble_eq_true (by kernel_rfl))
  rw [← txA_is] at h1 h2
  exact ⟨h1.trans gv_na, h2⟩
theorem pa_B : paE txB = 6 := by
  obtain ⟨h1, h2⟩ := pa_of (va_all gvB_va) (by rw [gvB_te]; exact Nat.le_of_ble_eq_true (by kernel_rfl))
  rw [← txB_is] at h1
  exact h1.trans gvB_na
theorem pa_C : paE txC = 14 := by
  obtain ⟨h1, h2⟩ := pa_of (va_all gvC_va) (by rw [gvC_te]; exact Nat.le_of_ble_eq_true (by kernel_rfl))
  rw [← txC_is] at h1
  exact h1.trans gvC_na
theorem ok_bb : OkLn 3 badN2 (rowI [5]) := ⟨⟨by decide, by decide⟩, fun i hi => by
    have : i = 0 ∨ i = 1 := by replace hi : i < 2 := hi; omega
    rcases this with rfl | rfl <;> (show @Eq Bool _ _; kernel_rfl), fun i hi => by
    have : i = 0 := by replace hi : i < 1 := hi; omega
    subst this
    exact ⟨by decide, by decide⟩, fun h => by cases h⟩
theorem pa_D : paE txD = 12 := by
  have e : txD = txt (teG gvR gvR.n 0 ++ (wrL 3 badN2 (rowI [5]) ++ 10 :: [])) := by
    rw [← teL_G, gv_te]
    exact by_inj (by kernel_rfl)
  have hv : ∀ e, 0 ≤ e → e < 0 + gvR.n → vaL gvR e = true := fun e _ he => (na_zero gv_na).2.2 e (by omega)
  obtain ⟨s1, s2, s3⟩ := sp_line (x := wrL 3 badN2 (rowI [5])) (y := []) (wr_no10 ok_bb)
  obtain ⟨h1, h2, h3⟩ := ok_bb.read
  obtain ⟨a, b⟩ := strs_eq h2
  obtain ⟨c, d⟩ := ints_eq h3
  have hS : SmL (rdN (txt (wrL 3 badN2 (rowI [5])))) (rdU (txt (wrL 3 badN2 (rowI [5])))) badN2 (rowI [5]) := ⟨a, b, c, d⟩
  have hb : rdB (txt (wrL 3 badN2 (rowI [5]))) = false := by
    unfold rdB
    rw [h1, hS.va 3, show vaB 3 badN2 (rowI [5]) = false by kernel_rfl, Bool.false_and]
  have hn : lnN (txt (wrL 3 badN2 (rowI [5]) ++ 10 :: [])) = 1 := by
    rw [lnN_rest (by rw [by_txt]; simp), s3, lnN_nil (s := txt []) rfl]
  have hst : ∀ j acc, stP j (txt (wrL 3 badN2 (rowI [5]) ++ 10 :: []), acc) = true := fun j acc => by
    unfold stP
    rw [s1, s2, hb]
    rfl
  have hR : (paR txD).1 = true := by
    unfold paR
    rw [e, lnN_lines gvR _ gvR.n 0 hv, run_lines gvR _ gvR.n 0 0 _ .nil hv, hn, runS_t (hst _ _)]
  unfold paE
  rw [hR, show decide (20000 < txD.size) = false by kernel_rfl]
  rfl
noncomputable abbrev CAi : Cx := CA gvR tcB teS teE pcB paO paE tcB nmO naE paE (fun l _ => bgL l) saLB (fun l _ => decide (l.n ≤ big)) saNB
theorem CAi_ok : CxW CAi Wd := by
 unfold CAi CA
 exact mkCx_okW enter mixed (fun p h => by
  simp only [List.mem_cons, List.not_mem_nil, or_false] at h
  rcases h with rfl | rfl | rfl | rfl | rfl | rfl | rfl
  · exact den_textq
  · exact den_parseq
  · exact den_given
  · exact den_namesq
  · exact den_sameNq
  · exact den_sameq
  · exact den_lread) (fun l h => by cases h)
def Falive : List D → Option (Bool × List D)
  | [] => some (true, [.v (.bool true)])
  | _ => none
theorem te_A : teE gvR = 0 ∧ teS gvR = txA := by
  unfold teE teS
  rw [gv_na, gv_te, show decide (20000 < (by_ txA).length) = false by kernel_rfl]
  exact ⟨rfl, txt_by txA⟩
theorem den_alive : DenW Tryd.prog Wd 14 Falive := evF_denW CAi_ok fun ds rs h => by
  unfold Falive at h
  split at h
  · simp only [Option.some.injEq, Prod.mk.injEq] at h
    obtain ⟨_, rfl⟩ := h
    refine (al14 gvR tcB teS teE pcB paO paE tcB nmO naE paE (fun l _ => bgL l) saLB (fun l _ => decide (l.n ≤ big)) saNB).trans ?_
    obtain ⟨a1, a2⟩ := pa_A
    obtain ⟨t1, t2⟩ := te_A
    have hw : winOf gvR 0 gvR.n = gvR := rfl
    have hO : paO txA = paL txA := by
      unfold paO
      have h1 : decide (20000 < txA.size) = false := by kernel_rfl
      have h2 : (paR txA).1 = false := by rw [txA_is]; exact (pa_lines (na_zero gv_na).2.2).1
      rw [h1, h2, (na_congr a2).1, gv_na]
      rfl
    have hsa : saLB (winOf (paO txA) 0 (paO txA).n) gvR = true := by rw [hO]; exact saLB_iff.2 a2
    have hbg : bgL (winOf (paO txA) 0 (paO txA).n) = true := by
      rw [hO]
      refine bgL_iff.2 ⟨?_, fun i hi => ?_⟩
      · show (paL txA).n ≤ big
        rw [a2.1]
        exact Nat.le_of_ble_eq_true (by kernel_rfl)
      · have hv := paL_va txA i hi
        have := vaL_lnB hv
        unfold lnB at this
        rw [Bool.and_eq_true, decide_eq_true_eq] at this
        exact ⟨Nat.le_trans (smN_iff.1 this.1).1 (Nat.le_of_ble_eq_true (by kernel_rfl)), Nat.le_trans this.2 (Nat.le_of_ble_eq_true (by kernel_rfl))⟩
    have hk : saNB (winOf (nmO gvR) 0 (nmO gvR).n) knG = true := gv_kn
    rw [hw, t1, t2, a1, pa_B, pa_C, pa_D, gv_na, hsa, hbg, hk, show tcB gvR = true by unfold tcB; rw [gv_ok, Bool.or_true], show pcB txA = true by kernel_rfl, show pcB txB = true by kernel_rfl, show pcB txC = true by kernel_rfl, show pcB txD = true by kernel_rfl, show decide ((winOf (nmO gvR) 0 (nmO gvR).n).n ≤ big) = true by kernel_rfl, beq_self_eq_true txA.toList]
    rfl
  · cases h
end Go.Proofs.YtopdfmhlgkbaaaaDoor

/- The laws of ratios: whether three are valid; contexts. No conditions. -/
import Derived.Test.YtofkkhdmjllcfaaDoorQ12
namespace Go.Proofs.YtofkkhdmjllcfaaDoor
open Go.Ev Go.RowKit
set_option linter.all false
/-- Whether three ratios are valid. -/
def vaB (n d m e k f : Int) : Bool := (chk2 n d m e == 0) && (chkE k f == 0)
def Fvv (va : Int → Int → Int → Int → Int → Int → Bool) : List D → Option (Bool × List D)
  | [.agg [.v (.int .i64 n), .v (.int .i64 d)], .agg [.v (.int .i64 m), .v (.int .i64 e)], .agg [.v (.int .i64 k), .v (.int .i64 f)]] => some (iR n && iR d && (iR m && iR e) && (iR k && iR f), [.v (.bool (va n d m e k f))])
  | _ => none
noncomputable def CV : Cx := mkCx Tryd.prog fns [(33, Fboth), (27, Fchk)] []
theorem CV_ok : CxOk CV := mkCx_ok enter mixed (fun p h => by
  simp only [List.mem_cons, List.not_mem_nil, or_false] at h
  rcases h with rfl | rfl
  · exact den_both
  · exact den_chkr) (fun l h => by cases h)
theorem tvalid (n d m e k f : Int) : evF CV 6 14 [.agg [.v (i64 n), .v (i64 d)], .agg [.v (i64 m), .v (i64 e)], .agg [.v (i64 k), .v (i64 f)]] =
    br (iR n && iR d && iR m && iR e) (br (chk2 n d m e == 0) (br (iR k && iR f) (some [.v (.bool (chkE k f == 0))]) (none)) (some [.v (.bool (false))])) (none) := by kernel_rfl
theorem den_valid : Den Tryd.prog 14 (Fvv vaB) := evF_den CV_ok fun ds rs h => by
  unfold Fvv at h
  split at h
  · rename_i n d m e k f
    simp only [Option.some.injEq, Prod.mk.injEq] at h
    obtain ⟨h0, rfl⟩ := h
    simp only [Bool.and_eq_true] at h0
    obtain ⟨⟨⟨a1, a2⟩, a3, a4⟩, a5, a6⟩ := h0
    refine (tvalid n d m e k f).trans ?_
    unfold vaB
    rw [a1, a2, a3, a4, a5, a6]
    cases (chk2 n d m e == 0) <;> rfl
  · cases h
theorem va_iff {n d m e k f : Int} : vaB n d m e k f = true ↔ goodR n d ∧ goodR m e ∧ goodR k f := by
  unfold vaB
  rw [Bool.and_eq_true, beq_iff_eq, beq_iff_eq]
  constructor
  · rintro ⟨h1, h2⟩
    unfold chk2 at h1
    by_cases hc : chkE n d = 0
    · rw [if_pos hc] at h1
      exact ⟨chk_good hc, chk_good h1, chk_good h2⟩
    · rw [if_neg hc] at h1
      exact absurd h1 hc
  · rintro ⟨h1, h2, h3⟩
    exact ⟨Ra.good2 h1 h2, if_pos h3⟩
/-- An operation on two ratios. -/
def Fo (on od oe : Int → Int → Int → Int → Int) : List D → Option (Bool × List D)
  | [.agg [.v (.int .i64 n), .v (.int .i64 d)], .agg [.v (.int .i64 m), .v (.int .i64 e)]] => some (iR n && iR d && iR m && iR e, [.agg [.v (i64 (on n d m e)), .v (i64 (od n d m e))], .v (i64 (oe n d m e))])
  | _ => none
noncomputable def CF (va : Int → Int → Int → Int → Int → Int → Bool) (an ad ae sn sd se pn pd pe dn dd de : Int → Int → Int → Int → Int) (tn : Int → Int → ByteArray) (te : Int → Int → Int) (rn rd re : ByteArray → Int) : Cx :=
  mkCx Tryd.prog fns [(14, Fvv va), (16, Fo an ad ae), (18, Fo sn sd se), (17, Fo pn pd pe), (19, Fo dn dd de), (8, Ftxv tn te), (10, Fpv rn rd re), (15, Falive)] []
theorem CF_ok : CxW (CF vaB adN adD adE sbN sbD sbE prN prD prE diN diD diE (fun n d => txt (txL n d)) chkE (fun s => rpN (by_ s)) (fun s => rpD (by_ s)) (fun s => rpE (by_ s))) Wt := mkCx_okW enter mixed (fun p h => by
  simp only [List.mem_cons, List.not_mem_nil, or_false] at h
  rcases h with rfl | rfl | rfl | rfl | rfl | rfl | rfl | rfl
  · exact den_valid.at _
  · exact den_addp.at _
  · exact den_subp.at _
  · exact den_mulp.at _
  · exact den_div.at _
  · exact den_text
  · exact den_parp
  · exact den_alive) (fun l h => by cases h)
def yes : Option (List D) := some [.v (.bool true)]
def no : Option (List D) := some [.v (.bool false)]
/-- The text of a ratio, parsed. -/
def fT3 (tn : Int → Int → ByteArray) (te : Int → Int → Int) (rn rd re : ByteArray → Int) (n d : Int) : Option (List D) :=
  br (iR n && iR d) (br (decide ((tn n d).size ≤ 4000000000)) (br (te n d == 0) (br (re (tn n d) == 0) (br (rn (tn n d) == n && (rd (tn n d) == d && true)) yes no) no) no) none) none
/-- The quotient, multiplied. -/
def fT2 (pn pd pe dn dd de : Int → Int → Int → Int → Int) (n d m e : Int) (t : Option (List D)) : Option (List D) :=
  br (iR n && iR d && iR m && iR e) (br (!(de n d m e == 18) == (m == 0)) no (br (de n d m e == 0) (br (iR (dn n d m e) && iR (dd n d m e) && iR m && iR e) (br (pe (dn n d m e) (dd n d m e) m e != 0) no (br (!(pn (dn n d m e) (dd n d m e) m e == n && (pd (dn n d m e) (dd n d m e) m e == d && true))) no t)) none) t)) none
/-- The difference, added. -/
def fT1 (an ad ae sn sd se : Int → Int → Int → Int → Int) (n d m e : Int) (t : Option (List D)) : Option (List D) :=
  br (iR n && iR d && iR m && iR e) (br (se n d m e == 0) (br (iR (sn n d m e) && iR (sd n d m e) && iR m && iR e) (br (ae (sn n d m e) (sd n d m e) m e != 0) no (br (!(an (sn n d m e) (sd n d m e) m e == n && (ad (sn n d m e) (sd n d m e) m e == d && true))) no t)) none) t) none
def fT0 (va : Int → Int → Int → Int → Int → Int → Bool) (an ad ae pn pd pe : Int → Int → Int → Int → Int) (n d m e : Int) (t : Option (List D)) : Option (List D) :=
  br (iR n && iR d && (iR m && iR e) && (iR n && iR d)) (br (!va n d m e n d) yes (br (iR n && iR d && iR m && iR e) (br (iR m && iR e && iR n && iR d) (br (iR n && iR d && iR m && iR e) (br (iR m && iR e && iR n && iR d)
    (br (!(an n d m e == an m e n d && (ad n d m e == ad m e n d && true))) no (br (ae n d m e != ae m e n d) no (br (!(pn n d m e == pn m e n d && (pd n d m e == pd m e n d && true))) no (br (pe n d m e != pe m e n d) no
      (br (ae n d m e != 0) (br (ae n d m e != 16) no (br (pe n d m e != 0) (br (pe n d m e != 16) no t) t)) (br (pe n d m e != 0) (br (pe n d m e != 16) no t) t))))))
    none) none) none) none)) none
set_option maxRecDepth 100000 in
theorem tfield (va : Int → Int → Int → Int → Int → Int → Bool) (an ad ae sn sd se pn pd pe dn dd de : Int → Int → Int → Int → Int) (tn : Int → Int → ByteArray) (te : Int → Int → Int) (rn rd re : ByteArray → Int) (n d m e : Int) :
    evF (CF va an ad ae sn sd se pn pd pe dn dd de tn te rn rd re) 6 4 [.agg [.v (i64 n), .v (i64 d)], .agg [.v (i64 m), .v (i64 e)]] =
    fT0 va an ad ae pn pd pe n d m e (fT1 an ad ae sn sd se n d m e (fT2 pn pd pe dn dd de n d m e (fT3 tn te rn rd re n d))) := by kernel_rfl
end Go.Proofs.YtofkkhdmjllcfaaDoor

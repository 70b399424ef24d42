/- Sum by contract, the examples; the law RatioTexts. No conditions. -/
import Derived.Test.YtofkkhdmjllcfaaDoorQ10
namespace Go.Proofs.YtofkkhdmjllcfaaDoor
open Go.Ev Go.RowKit Go.Lib Go.Dec
set_option linter.all false
/-- What Sum gives. -/
def suE (r : Row) : Int := if (r.n : Int) > 100 then 4 else if anyF (Su.bd r) r.n 0 = true then 8 else if (Su.smF r r.n 0 0 1).1 = true then (Su.smF r r.n 0 0 1).2.2.2 else 0
def suB (r : Row) : Bool := decide ((r.n : Int) > 100) || anyF (Su.bd r) r.n 0 || (Su.smF r r.n 0 0 1).1
def suN (r : Row) : Int := if suB r = true then 0 else (Su.smF r r.n 0 0 1).2.1
def suD (r : Row) : Int := if suB r = true then 0 else (Su.smF r r.n 0 0 1).2.2.1
def Fsum : List D → Option (Bool × List D)
  | [.slice [.int .i64, .int .i64] r] => some (decide ((r.n : Int) > 100) || Su.wf2 r r.n, [.agg [.v (i64 (suN r)), .v (i64 (suD r))], .v (i64 (suE r))])
  | _ => none
theorem su_tree {r : Row} {c1 c2 : Bool} (hc : (decide ((r.n : Int) > 100) || Su.wf2 r r.n) = true) (h1 : ¬ (r.n : Int) > 100 → c1 = true) (h2 : ¬ (r.n : Int) > 100 → c2 = true) :
    br (decide ((r.n : Int) > 100)) (some [.agg [.v (i64 0), .v (i64 0)], .v (i64 4)]) (br (c1 && Su.wf2 r r.n) (br (anyF (Su.bd r) r.n 0) (some [.agg [.v (i64 0), .v (i64 0)], .v (i64 8)])
      (br (c2 && Su.wf2 r r.n && !anyF (Su.bd r) r.n 0) (br (Su.smF r r.n 0 0 1).1 (some [.agg [.v (i64 0), .v (i64 0)], .v (i64 (Su.smF r r.n 0 0 1).2.2.2)]) (some [.agg [.v (i64 (Su.smF r r.n 0 0 1).2.1), .v (i64 (Su.smF r r.n 0 0 1).2.2.1)], .v (i64 0)])) none)) none) =
    some [D.agg [.v (i64 (suN r)), .v (i64 (suD r))], .v (i64 (suE r))] := by
  unfold suN suD suE suB
  by_cases hn : (r.n : Int) > 100
  · rw [decide_eq_true hn, br_true, if_pos hn]; rfl
  · have hw : Su.wf2 r r.n = true := by rw [decide_eq_false hn, Bool.false_or] at hc; exact hc
    rw [decide_eq_false hn, br_false, if_neg hn, h1 hn, h2 hn, hw]
    cases anyF (Su.bd r) r.n 0
    · cases (Su.smF r r.n 0 0 1).1 <;> rfl
    · rfl
theorem den_sum : Den Tryd.prog 12 Fsum := evF_den Su.CS_ok fun ds rs h => by
  unfold Fsum at h
  split at h
  · rename_i r
    simp only [Option.some.injEq, Prod.mk.injEq] at h
    obtain ⟨hc, rfl⟩ := h
    exact (Su.tsum chkE adN adD adE r).trans (su_tree hc (fun hn => decide_eq_true ⟨rfl, rfl, by omega⟩) (fun hn => decide_eq_true ⟨rfl, by omega⟩))
  · cases h
theorem den_sumr : Den Tryd.prog 13 Fsum := evF_den Su.CS_ok fun ds rs h => by
  unfold Fsum at h
  split at h
  · rename_i r
    simp only [Option.some.injEq, Prod.mk.injEq] at h
    obtain ⟨hc, rfl⟩ := h
    exact (Su.tsumr chkE adN adD adE r).trans (su_tree hc (fun hn => decide_eq_true (by omega)) (fun hn => decide_eq_true (by omega)))
  · cases h
noncomputable def CAl : Cx := mkCx Tryd.prog fns [(22, Fmake), (16, Fadd), (18, Fsub), (17, Fpr), (21, Ffloor), (10, Fps)] []
theorem CAl_ok : CxW CAl Wt := mkCx_okW enter mixed (fun p h => by
  simp only [List.mem_cons, List.not_mem_nil, or_false] at h
  rcases h with rfl | rfl | rfl | rfl | rfl | rfl
  · exact den_make.at _
  · exact den_addp.at _
  · exact den_subp.at _
  · exact den_mulp.at _
  · exact den_floor.at _
  · exact den_parp) (fun l h => by cases h)
theorem talive : evF CAl 6 15 [] = some [.v (.bool true)] := by kernel_rfl
def Falive : List D → Option (Bool × List D)
  | [] => some (true, [.v (.bool true)])
  | _ => none
theorem den_alive : DenW Tryd.prog Wt 15 Falive := evF_denW CAl_ok fun ds rs h => by
  unfold Falive at h
  split at h
  · simp only [Option.some.injEq, Prod.mk.injEq, true_and] at h
    subst h
    exact talive
  · cases h
def Ftxv (tn : Int → Int → ByteArray) (te : Int → Int → Int) : List D → Option (Bool × List D)
  | [.agg [.v (.int .i64 n), .v (.int .i64 d)]] => some (iR n && iR d, [.v (.string (tn n d)), .v (i64 (te n d))])
  | _ => none
def Fpv (pn pd pe : ByteArray → Int) : List D → Option (Bool × List D)
  | [.v (.string s)] => some (decide (s.size ≤ 4000000000), [.agg [.v (i64 (pn s)), .v (i64 (pd s))], .v (i64 (pe s))])
  | _ => none
def Fsv (cw : Row → Bool) (sn sd se : Row → Int) : List D → Option (Bool × List D)
  | [.slice [.int .i64, .int .i64] r] => some (cw r, [.agg [.v (i64 (sn r)), .v (i64 (sd r))], .v (i64 (se r))])
  | _ => none
noncomputable def CTx (tn : Int → Int → ByteArray) (te : Int → Int → Int) (pn pd pe : ByteArray → Int) (cw : Row → Bool) (sn sd se : Row → Int) : Cx := mkCx Tryd.prog fns [(8, Ftxv tn te), (9, Ftxv tn te), (10, Fpv pn pd pe), (11, Fpv pn pd pe), (12, Fsv cw sn sd se), (13, Fsv cw sn sd se)] []
theorem ttexts (tn : Int → Int → ByteArray) (te : Int → Int → Int) (pn pd pe : ByteArray → Int) (cw : Row → Bool) (sn sd se : Row → Int) (n d : Int) (s : ByteArray) (r : Row) : evF (CTx tn te pn pd pe cw sn sd se) 6 3 [.agg [.v (i64 n), .v (i64 d)], .v (.string s), .slice [.int .i64, .int .i64] r] =
    br (decide ((↑s.size : Int) > 300)) (some [.v (.bool (true))]) (br (decide ((↑r.n : Int) > 30)) (br (decide ((↑r.n : Int) ≤ 100)) (some [.v (.bool (true))]) (br (decide ((↑r.n : Int) > 200)) (some [.v (.bool (true))]) (br (iR n && iR d) (br (iR n && iR d) (br (decide (s.size ≤ 4000000000)) (br (decide (s.size ≤ 4000000000)) (br (cw (winOf r 0 r.n)) (br (cw (winOf r 0 r.n)) (br ((tn n d).toList == (tn n d).toList) (br (te n d == te n d) (br (pn s == pn s && (pd s == pd s && true)) (br (pe s == pe s) (br (sn (winOf r 0 r.n) == sn (winOf r 0 r.n) && (sd (winOf r 0 r.n) == sd (winOf r 0 r.n) && true)) (some [.v (.bool (se (winOf r 0 r.n) == se (winOf r 0 r.n)))]) (some [.v (.bool (false))])) (some [.v (.bool (false))])) (some [.v (.bool (false))])) (some [.v (.bool (false))])) (some [.v (.bool (false))])) (none)) (none)) (none)) (none)) (none)) (none)))) (br (decide ((↑r.n : Int) > 200)) (some [.v (.bool (true))]) (br (iR n && iR d) (br (iR n && iR d) (br (decide (s.size ≤ 4000000000)) (br (decide (s.size ≤ 4000000000)) (br (cw (winOf r 0 r.n)) (br (cw (winOf r 0 r.n)) (br ((tn n d).toList == (tn n d).toList) (br (te n d == te n d) (br (pn s == pn s && (pd s == pd s && true)) (br (pe s == pe s) (br (sn (winOf r 0 r.n) == sn (winOf r 0 r.n) && (sd (winOf r 0 r.n) == sd (winOf r 0 r.n) && true)) (some [.v (.bool (se (winOf r 0 r.n) == se (winOf r 0 r.n)))]) (some [.v (.bool (false))])) (some [.v (.bool (false))])) (some [.v (.bool (false))])) (some [.v (.bool (false))])) (some [.v (.bool (false))])) (none)) (none)) (none)) (none)) (none)) (none)))) := by kernel_rfl
end Go.Proofs.YtofkkhdmjllcfaaDoor

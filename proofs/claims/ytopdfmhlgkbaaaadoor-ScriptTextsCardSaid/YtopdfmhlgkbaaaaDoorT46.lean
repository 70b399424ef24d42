/- ScriptTexts: the tree. No conditions. -/
import Derived.Test.YtopdfmhlgkbaaaaDoorT45
namespace Go.Proofs.YtopdfmhlgkbaaaaDoor
open Go.Ev Go.RowKit Go.Lib Go.Dec
set_option linter.all false
noncomputable def CX6 (gc gB tc : Row → Bool) (tS : Row → ByteArray) (tE : Row → Int) (uS : Row → ByteArray) (uE : Row → Int) (pc : ByteArray → Bool) (pO : ByteArray → Row) (pE : ByteArray → Int) (rO : ByteArray → Row) (rE : ByteArray → Int) (sc sB : Row → Row → Bool) : Cx := mkCx Tryd.prog fns [(8, Fgr2 gc gB), (9, Ftq tc tS tE), (10, Ftq tc uS uE), (11, Fpq pc pO pE), (12, Fpq pc rO rE), (13, Fsq sc sB)] []
theorem eX (gc gB tc : Row → Bool) (tS : Row → ByteArray) (tE : Row → Int) (uS : Row → ByteArray) (uE : Row → Int) (pc : ByteArray → Bool) (pO : ByteArray → Row) (pE : ByteArray → Int) (rO : ByteArray → Row) (rE : ByteArray → Int) (sc sB : Row → Row → Bool) (l : Row) (s : ByteArray) : evF (CX6 gc gB tc tS tE uS uE pc pO pE rO rE sc sB) 6 3 [.slice ksL l, .v (.string s)] =
    br (gc (winOf l 0 l.n)) (br (gB (winOf l 0 l.n)) (some [.v (.bool (true))]) (br (decide ((↑s.size : Int) > 5000)) (br (decide ((↑s.size : Int) ≤ 20000)) (some [.v (.bool (true))]) (br (decide ((↑s.size : Int) > 21000)) (some [.v (.bool (true))]) (br (tc (winOf l 0 l.n)) (br (tc (winOf l 0 l.n)) (br (pc s) (br (pc s) (br ((tS (winOf l 0 l.n)).toList == (uS (winOf l 0 l.n)).toList) (br (tE (winOf l 0 l.n) == uE (winOf l 0 l.n)) (br (sc (winOf (pO s) 0 (pO s).n) (winOf (rO s) 0 (rO s).n)) (br (sB (winOf (pO s) 0 (pO s).n) (winOf (rO s) 0 (rO s).n)) (some [.v (.bool (pE s == rE s))]) (some [.v (.bool (false))])) (none)) (some [.v (.bool (false))])) (some [.v (.bool (false))])) (none)) (none)) (none)) (none)))) (br (decide ((↑s.size : Int) > 21000)) (some [.v (.bool (true))]) (br (tc (winOf l 0 l.n)) (br (tc (winOf l 0 l.n)) (br (pc s) (br (pc s) (br ((tS (winOf l 0 l.n)).toList == (uS (winOf l 0 l.n)).toList) (br (tE (winOf l 0 l.n) == uE (winOf l 0 l.n)) (br (sc (winOf (pO s) 0 (pO s).n) (winOf (rO s) 0 (rO s).n)) (br (sB (winOf (pO s) 0 (pO s).n) (winOf (rO s) 0 (rO s).n)) (some [.v (.bool (pE s == rE s))]) (some [.v (.bool (false))])) (none)) (some [.v (.bool (false))])) (some [.v (.bool (false))])) (none)) (none)) (none)) (none))))) (none) := by kernel_rfl
noncomputable abbrev CXi : Cx := CX6 (fun l => decide (l.n ≤ big)) greB tcB teS teE teS teE pcB paO paE pqO pqE (fun l _ => bgL l) saLB
theorem CX_ok : CxW CXi Wd := by
 unfold CXi CX6
 exact mkCx_okW enter mixed (fun p h => by
  simp only [List.mem_cons, List.not_mem_nil, or_false] at h
  rcases h with rfl | rfl | rfl | rfl | rfl | rfl
  · exact den_greatq2
  · exact den_textq
  · exact den_Textq
  · exact den_parseq
  · exact den_Parseq
  · exact den_sameq) (fun l h => by cases h)
theorem pa_big {s : ByteArray} (h : s.size ≤ 1000000) : bgL (winOf (paO s) 0 (paO s).n) = true := by
  show bgL (paO s) = true
  have hR : paO s = .nil ∨ paO s = paL s := by
    unfold paO
    cases decide (20000 < s.size) || ((paR s).1 || naE (paL s) != 0)
    · exact .inr rfl
    · exact .inl rfl
  rcases hR with h1 | h1
  · rw [h1]
    exact bgL_iff.2 ⟨Nat.zero_le _, fun i hi => absurd hi (Nat.not_lt_zero i)⟩
  · rw [h1]
    exact bg_of (paL_va s) (okL_iff.1 (paL_ok s h)).1
theorem law_texts (l : Row) (s : ByteArray) (hl : l.n ≤ big) : evF CXi 6 3 [.slice ksL l, .v (.string s)] = some [.v (.bool true)] := by
  refine (eX _ _ _ _ _ _ _ _ _ _ _ _ _ _ l s).trans ?_
  rw [decide_eq_true (show (winOf l 0 l.n).n ≤ big from hl)]
  cases hg : greB (winOf l 0 l.n)
  · have hok : okL (wiR l) = true := gre_ok hg
    have key : s.size ≤ 1000000 → br (tcB (winOf l 0 l.n)) (br (tcB (winOf l 0 l.n)) (br (pcB s) (br (pcB s) (br ((teS (winOf l 0 l.n)).toList == (teS (winOf l 0 l.n)).toList) (br (teE (winOf l 0 l.n) == teE (winOf l 0 l.n)) (br (bgL (winOf (paO s) 0 (paO s).n)) (br (saLB (winOf (paO s) 0 (paO s).n) (winOf (pqO s) 0 (pqO s).n)) (some [D.v (.bool (paE s == pqE s))]) (some [.v (.bool (false))])) (none)) (some [.v (.bool (false))])) (some [.v (.bool (false))])) (none)) (none)) (none)) (none) = some [.v (.bool true)] := fun hs => by
      obtain ⟨h1, h2⟩ := parses hs
      have h3 : saLB (winOf (paO s) 0 (paO s).n) (winOf (pqO s) 0 (pqO s).n) = true := saLB_iff.2 h2
      rw [show tcB (winOf l 0 l.n) = true by show (_ || okL (wiR l)) = true; rw [hok, Bool.or_true], show pcB s = true from decide_eq_true hs, pa_big hs, h3, h1, beq_self_eq_true (pqE s), beq_self_eq_true (teE _), beq_self_eq_true (teS _).toList]
      rfl
    by_cases h1 : (s.size : Int) > 5000
    · rw [decide_eq_true h1]
      by_cases h2 : (s.size : Int) ≤ 20000
      · rw [decide_eq_true h2]; rfl
      · rw [decide_eq_false h2]
        by_cases h3 : (s.size : Int) > 21000
        · rw [decide_eq_true h3]; rfl
        · rw [decide_eq_false h3]
          exact key (by omega)
    · rw [decide_eq_false h1]
      by_cases h3 : (s.size : Int) > 21000
      · rw [decide_eq_true h3]; rfl
      · rw [decide_eq_false h3]
        exact key (by omega)
  · rfl
end Go.Proofs.YtopdfmhlgkbaaaaDoor

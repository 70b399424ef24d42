/- ScriptRenames: the law's function gives true. No conditions. -/
import Derived.Test.YtopdfmhlgkbaaaaDoorT36
namespace Go.Proofs.YtopdfmhlgkbaaaaDoor
open Go.Ev Go.RowKit Go.Lib Go.Dec
set_option linter.all false
theorem rs_bgL {l : Row} (h : bgL l = true) (s t : ByteArray) : bgL (rsR l s t) = true := by
  obtain ⟨h1, h2⟩ := rs_rn l s t
  obtain ⟨h3, h4⟩ := bgL_iff.1 h
  refine bgL_iff.2 ⟨by show (rsR l s t).n ≤ big; rw [h1]; exact h3, fun i hi => ?_⟩
  have hi : i < l.n := by rw [← h1]; exact hi
  obtain ⟨_, ⟨e1, _⟩, e2, _⟩ := h2 i hi
  rw [e1, e2]
  exact h4 i hi
theorem law_renames (l : Row) (s t : ByteArray) (hl : l.n ≤ big) : evF CNi 6 7 [.slice ksL l, .v (.string s), .v (.string t)] = some [.v (.bool true)] := by
  refine (eN _ _ _ _ _ _ _ _ _ l s t).trans ?_
  rw [decide_eq_true (show (wiR l).n ≤ big from hl)]
  cases hg : greB (wiR l)
  · have hok := gre_ok hg
    by_cases h1 : (s.size : Int) > 100
    · rw [decide_eq_true h1]; rfl
    · rw [decide_eq_false h1]
      by_cases h2 : (t.size : Int) > 100
      · rw [decide_eq_true h2]; rfl
      · rw [decide_eq_false h2, hok, Bool.or_true, decide_eq_true (show t.size ≤ 1000000 by omega), decide_eq_true (show s.size ≤ 1000000 by omega)]
        cases hE : (reE (wiR l) s t != 0)
        · have hE : reE (wiR l) s t = 0 := by simpa using hE
          obtain ⟨z1, _, _, _⟩ := re_zero hE
          have hrn := rs_rn (wiR l) s t
          obtain ⟨b1, b2, b3⟩ := ren_back hE hrn
          obtain ⟨a1, _, _⟩ := ren_ok hE hrn
          obtain ⟨hn, _, _, _⟩ := na_run z1
          have hrO : (bif reE (wiR l) s t == 0 then rsR (wiR l) s t else Row.nil) = rsR (wiR l) s t := by rw [hE]; rfl
          have hw : wiR (rsR (wiR l) s t) = rsR (wiR l) s t := rfl
          have hrO2 : (bif reE (rsR (wiR l) s t) t s == 0 then rsR (rsR (wiR l) s t) t s else Row.nil) = rsR (rsR (wiR l) s t) t s := by rw [b2]; rfl
          have hw2 : wiR (rsR (rsR (wiR l) s t) t s) = rsR (rsR (wiR l) s t) t s := rfl
          have hrl : (rsR (wiR l) s t).n = l.n := hrn.1
          have hl2 : l.n ≤ 200 := hn
          have hokr : okL (rsR (wiR l) s t) = true := okL_iff.2 ⟨by omega, fun i hi => vaL_lnB (a1 i (by show i < l.n; omega))⟩
          have hbg : bgL (rsR (rsR (wiR l) s t) t s) = true := rs_bgL (rs_bgL (ok_big hok) s t) t s
          have hgd : ∀ i, i < l.n → gdL s t l (rsR (wiR l) s t) i = true := fun i hi => by
            obtain ⟨r1, ⟨r2, r3⟩, r4, r5⟩ := hrn.2 i hi
            have hb := lb_nums hok (i := i) hi
            have hm := lb_names hok (i := i) hi
            refine gdL_iff.2 ⟨⟨r1, r2, r4, hm, hb⟩, fun k hk => ?_, r5⟩
            rw [show (rsR (wiR l) s t).R i 1 = (rsR (wiR l) s t).R i 1 from rfl, r3 k hk]
            show gdN s t ((l.R i 1).S k 0) (subS s t ((l.R i 1).S k 0)) = true
            unfold gdN subS
            cases eqS ((l.R i 1).S k 0) s
            · exact eqS_iff.2 rfl
            · exact eqS_iff.2 rfl
          have hc7 : c7 ⟨l.n, s, t, true, l.n, 0, 0, l, rsR (wiR l) s t⟩ = true := c7_iff.2 ⟨⟨rfl, rfl, by show l.n ≤ 1000000; omega⟩, hgd⟩
          have hz : (0 != (0 : Int)) = false := rfl
          rw [hrO, hw, hokr, Bool.or_true, hrO2, hw2, b2, b1, hbg, saLB_iff.2 b3, hrl, hc7, bne_self_eq_false, bne_self_eq_false, show tcB (rsR (wiR l) s t) = true by unfold tcB; rw [hokr, Bool.or_true]]
          rfl
        · have hO : (bif reE (wiR l) s t == 0 then rsR (wiR l) s t else Row.nil) = Row.nil := by
            rw [show (reE (wiR l) s t == 0) = false by rw [bne, Bool.not_eq_true'] at hE; exact hE]; rfl
          rw [hO]
          rfl
  · rfl
end Go.Proofs.YtopdfmhlgkbaaaaDoor

/- At of the reference. No conditions. -/
import Derived.Test.YtiiaimghkmlhlaaD3
namespace Go.Proofs.Ytiiaimghkmlhlaa
open Go.Ev
set_option linter.all false
def boxC (c : Cs) : Option Blk := some (.box [i64 c.an, i64 c.ev, i64 c.de, i64 c.ex, i64 c.cl, u8 c.st, i64 c.day, i64 c.due, i64 c.xd, i64 c.e0, i64 c.e1, i64 c.aw])
def S13 (c : Cs) (d : Int) : St := ⟨us 1 ++ [i64 d, .pointer (some ⟨0, 0, some 0⟩)] ++ us 1 ++ [.pointer (some ⟨1, 0, some 0⟩)] ++ us 47, [[]], [boxC c, boxC zeroC]⟩
def S13x (c : Cs) : St := ⟨us 2 ++ [.pointer (some ⟨0, 0, some 0⟩)] ++ us 1 ++ [.pointer (some ⟨1, 0, some 0⟩)] ++ us 47, [[]], [boxC c, boxC zeroC]⟩
/-- What the days do to a case that is open. -/
def passC (c : Cs) (d : Int) : Cs :=
  if c.st = 1 ∧ c.due < d then { c with st := 6, aw := c.cl }
  else if c.st = 2 ∧ c.due < d then (if c.due + c.de < d then { c with st := 7, due := c.due + c.de } else { c with st := 3, due := c.due + c.de })
  else if c.st = 3 ∧ c.due < d then { c with st := 7 } else c
def smallP (c : Cs) : Bool := decide (0 ≤ c.due) && decide (c.due ≤ 1000000) && decide (0 ≤ c.de) && decide (c.de ≤ 1000000)
def G13 : List It → (X → St → Option (List D)) → Option (List D)
  | [.i d, .i an, .i ev, .i de, .i ex, .i cl, .i st, .i day, .i due, .i xd, .i e0, .i e1, .i aw], k => br (smallP ⟨an, ev, de, ex, cl, st, day, due, xd, e0, e1, aw⟩) (k (.exit 0) (S13x (passC ⟨an, ev, de, ex, cl, st, day, due, xd, e0, e1, aw⟩ d))) none
  | _, _ => none
def l13 : LoopC where
  f := 13
  id := 8
  lv := [1, 2, 4]
  lx := [2, 4, 5]
  p := { τ := pu 1 ++ [.v (.int .i64), .v (.c (.pointer (some ⟨0, 0, some 0⟩)))] ++ pu 1 ++ [.v (.c (.pointer (some ⟨1, 0, some 0⟩)))] ++ pu 47, saved := [[]], mem := [.box [.v (.int .i64), .v (.int .i64), .v (.int .i64), .v (.int .i64), .v (.int .i64), .v (.int .u8), .v (.int .i64), .v (.int .i64), .v (.int .i64), .v (.int .i64), .v (.int .i64), .v (.int .i64)], .box [.v (.c (i64 0)), .v (.c (i64 0)), .v (.c (i64 0)), .v (.c (i64 0)), .v (.c (i64 0)), .v (.c (u8 0)), .v (.c (i64 0)), .v (.c (i64 0)), .v (.c (i64 0)), .v (.c (i64 0)), .v (.c (i64 0)), .v (.c (i64 0))]] }
  G := G13
noncomputable def C13 : Cx := mkCx Try.prog fns [(32, Fin), (17, Fchk), (20, Flive)] [l13]
theorem round13 (q : Nat) (R : St → Option (List D)) (K : X → St → Option (List D)) (c : Cs) (d : Int) :
    evCode C13 13 true (inl C13 (q + 4)) (lbody C13.P 13 8) (S13 c d) (rnd [1, 2, 4] (some [2, 4, 5]) R K) =
    br (liveB c.st) (br (decide (c.due < d)) (br (c.st == 1) (R ⟨us 1 ++ [i64 (d), .pointer (some ⟨0, 0, some 0⟩)] ++ us 1 ++ [.pointer (some ⟨1, 0, some 0⟩)] ++ us 47, [[]], [some (.box [i64 (c.an), i64 (c.ev), i64 (c.de), i64 (c.ex), i64 (c.cl), .int .u8 (6), i64 (c.day), i64 (c.due), i64 (c.xd), i64 (c.e0), i64 (c.e1), i64 (c.cl)]), some (.box [i64 (0), i64 (0), i64 (0), i64 (0), i64 (0), .int .u8 (0), i64 (0), i64 (0), i64 (0), i64 (0), i64 (0), i64 (0)])]⟩) (br (c.st == 2) (R ⟨us 1 ++ [i64 (d), .pointer (some ⟨0, 0, some 0⟩)] ++ us 1 ++ [.pointer (some ⟨1, 0, some 0⟩)] ++ us 47, [[]], [some (.box [i64 (c.an), i64 (c.ev), i64 (c.de), i64 (c.ex), i64 (c.cl), .int .u8 (3), i64 (c.day), i64 (IntKind.i64.wrap (c.due + c.de)), i64 (c.xd), i64 (c.e0), i64 (c.e1), i64 (c.aw)]), some (.box [i64 (0), i64 (0), i64 (0), i64 (0), i64 (0), .int .u8 (0), i64 (0), i64 (0), i64 (0), i64 (0), i64 (0), i64 (0)])]⟩) (br (c.st == 3) (R ⟨us 1 ++ [i64 (d), .pointer (some ⟨0, 0, some 0⟩)] ++ us 1 ++ [.pointer (some ⟨1, 0, some 0⟩)] ++ us 47, [[]], [some (.box [i64 (c.an), i64 (c.ev), i64 (c.de), i64 (c.ex), i64 (c.cl), .int .u8 (7), i64 (c.day), i64 (c.due), i64 (c.xd), i64 (c.e0), i64 (c.e1), i64 (c.aw)]), some (.box [i64 (0), i64 (0), i64 (0), i64 (0), i64 (0), .int .u8 (0), i64 (0), i64 (0), i64 (0), i64 (0), i64 (0), i64 (0)])]⟩) (R ⟨us 1 ++ [i64 (d), .pointer (some ⟨0, 0, some 0⟩)] ++ us 1 ++ [.pointer (some ⟨1, 0, some 0⟩)] ++ us 47, [[]], [some (.box [i64 (c.an), i64 (c.ev), i64 (c.de), i64 (c.ex), i64 (c.cl), .int .u8 (c.st), i64 (c.day), i64 (c.due), i64 (c.xd), i64 (c.e0), i64 (c.e1), i64 (c.aw)]), some (.box [i64 (0), i64 (0), i64 (0), i64 (0), i64 (0), .int .u8 (0), i64 (0), i64 (0), i64 (0), i64 (0), i64 (0), i64 (0)])]⟩)))) (K (.exit 0) ⟨us 2 ++ [.pointer (some ⟨0, 0, some 0⟩)] ++ us 1 ++ [.pointer (some ⟨1, 0, some 0⟩)] ++ us 47, [[]], [some (.box [i64 (c.an), i64 (c.ev), i64 (c.de), i64 (c.ex), i64 (c.cl), .int .u8 (c.st), i64 (c.day), i64 (c.due), i64 (c.xd), i64 (c.e0), i64 (c.e1), i64 (c.aw)]), some (.box [i64 (0), i64 (0), i64 (0), i64 (0), i64 (0), .int .u8 (0), i64 (0), i64 (0), i64 (0), i64 (0), i64 (0), i64 (0)])]⟩)) (K (.exit 0) ⟨us 2 ++ [.pointer (some ⟨0, 0, some 0⟩)] ++ us 1 ++ [.pointer (some ⟨1, 0, some 0⟩)] ++ us 47, [[]], [some (.box [i64 (c.an), i64 (c.ev), i64 (c.de), i64 (c.ex), i64 (c.cl), .int .u8 (c.st), i64 (c.day), i64 (c.due), i64 (c.xd), i64 (c.e0), i64 (c.e1), i64 (c.aw)]), some (.box [i64 (0), i64 (0), i64 (0), i64 (0), i64 (0), .int .u8 (0), i64 (0), i64 (0), i64 (0), i64 (0), i64 (0), i64 (0)])]⟩) := by kernel_rfl
theorem tatr (c : Cs) (d : Int) : evF C13 6 13 [csD c, .v (i64 d)] =
    br (u8B c.st) (br (chkE c != 0) (some [.agg [.v (i64 (0)), .v (i64 (0)), .v (i64 (0)), .v (i64 (0)), .v (i64 (0)), .v (.int .u8 (0)), .v (i64 (0)), .v (i64 (0)), .v (i64 (0)), .v (i64 (0)), .v (i64 (0)), .v (i64 (0))], .v (i64 (8))]) (br (!inB d 0 100000) (some [.agg [.v (i64 (0)), .v (i64 (0)), .v (i64 (0)), .v (i64 (0)), .v (i64 (0)), .v (.int .u8 (0)), .v (i64 (0)), .v (i64 (0)), .v (i64 (0)), .v (i64 (0)), .v (i64 (0)), .v (i64 (0))], .v (i64 (2))]) (br (decide (d < c.day)) (some [.agg [.v (i64 (0)), .v (i64 (0)), .v (i64 (0)), .v (i64 (0)), .v (i64 (0)), .v (.int .u8 (0)), .v (i64 (0)), .v (i64 (0)), .v (i64 (0)), .v (i64 (0)), .v (i64 (0)), .v (i64 (0))], .v (i64 (32))]) (br (smallP { an := c.an, ev := c.ev, de := c.de, ex := c.ex, cl := c.cl, st := c.st, day := d, due := c.due, xd := c.xd, e0 := c.e0, e1 := c.e1, aw := c.aw : Cs }) (some [.agg [.v (i64 ((passC { an := c.an, ev := c.ev, de := c.de, ex := c.ex, cl := c.cl, st := c.st, day := d, due := c.due, xd := c.xd, e0 := c.e0, e1 := c.e1, aw := c.aw : Cs } d).an)), .v (i64 ((passC { an := c.an, ev := c.ev, de := c.de, ex := c.ex, cl := c.cl, st := c.st, day := d, due := c.due, xd := c.xd, e0 := c.e0, e1 := c.e1, aw := c.aw : Cs } d).ev)), .v (i64 ((passC { an := c.an, ev := c.ev, de := c.de, ex := c.ex, cl := c.cl, st := c.st, day := d, due := c.due, xd := c.xd, e0 := c.e0, e1 := c.e1, aw := c.aw : Cs } d).de)), .v (i64 ((passC { an := c.an, ev := c.ev, de := c.de, ex := c.ex, cl := c.cl, st := c.st, day := d, due := c.due, xd := c.xd, e0 := c.e0, e1 := c.e1, aw := c.aw : Cs } d).ex)), .v (i64 ((passC { an := c.an, ev := c.ev, de := c.de, ex := c.ex, cl := c.cl, st := c.st, day := d, due := c.due, xd := c.xd, e0 := c.e0, e1 := c.e1, aw := c.aw : Cs } d).cl)), .v (.int .u8 ((passC { an := c.an, ev := c.ev, de := c.de, ex := c.ex, cl := c.cl, st := c.st, day := d, due := c.due, xd := c.xd, e0 := c.e0, e1 := c.e1, aw := c.aw : Cs } d).st)), .v (i64 ((passC { an := c.an, ev := c.ev, de := c.de, ex := c.ex, cl := c.cl, st := c.st, day := d, due := c.due, xd := c.xd, e0 := c.e0, e1 := c.e1, aw := c.aw : Cs } d).day)), .v (i64 ((passC { an := c.an, ev := c.ev, de := c.de, ex := c.ex, cl := c.cl, st := c.st, day := d, due := c.due, xd := c.xd, e0 := c.e0, e1 := c.e1, aw := c.aw : Cs } d).due)), .v (i64 ((passC { an := c.an, ev := c.ev, de := c.de, ex := c.ex, cl := c.cl, st := c.st, day := d, due := c.due, xd := c.xd, e0 := c.e0, e1 := c.e1, aw := c.aw : Cs } d).xd)), .v (i64 ((passC { an := c.an, ev := c.ev, de := c.de, ex := c.ex, cl := c.cl, st := c.st, day := d, due := c.due, xd := c.xd, e0 := c.e0, e1 := c.e1, aw := c.aw : Cs } d).e0)), .v (i64 ((passC { an := c.an, ev := c.ev, de := c.de, ex := c.ex, cl := c.cl, st := c.st, day := d, due := c.due, xd := c.xd, e0 := c.e0, e1 := c.e1, aw := c.aw : Cs } d).e1)), .v (i64 ((passC { an := c.an, ev := c.ev, de := c.de, ex := c.ex, cl := c.cl, st := c.st, day := d, due := c.due, xd := c.xd, e0 := c.e0, e1 := c.e1, aw := c.aw : Cs } d).aw))], .v (i64 (0))]) (none))))) (none) := by kernel_rfl

theorem done13 (q : Nat) (K : X → St → Option (List D)) (c : Cs) (d : Int) (n : Nat) (h : (liveB c.st && decide (c.due < d)) = false) :
    rounds [1, 2, 4] (some [2, 4, 5]) (evCode C13 13 true (inl C13 (q + 4)) (lbody C13.P 13 8)) (n + 1) (S13 c d) K = K (.exit 0) (S13x c) := by
  rw [rnds1, round13]
  cases h1 : liveB c.st
  · rfl
  · rw [h1, Bool.true_and] at h
    rw [h]
    rfl
theorem go13c (q : Nat) (K : X → St → Option (List D)) (c : Cs) (d : Int) (n : Nat) (h : c.st = 3) (hd : c.due < d) :
    rounds [1, 2, 4] (some [2, 4, 5]) (evCode C13 13 true (inl C13 (q + 4)) (lbody C13.P 13 8)) (n + 2) (S13 c d) K = K (.exit 0) (S13x { c with st := 7 }) := by
  rw [rnds1, round13, h, decide_eq_true hd]
  exact done13 q K { c with st := 7 } d n rfl
theorem go13 (q : Nat) (K : X → St → Option (List D)) (c : Cs) (d : Int) (n : Nat) (hs : smallP c = true) :
    rounds [1, 2, 4] (some [2, 4, 5]) (evCode C13 13 true (inl C13 (q + 4)) (lbody C13.P 13 8)) (n + 3) (S13 c d) K = K (.exit 0) (S13x (passC c d)) := by
  by_cases hg : (liveB c.st && decide (c.due < d)) = false
  · rw [done13 q K c d _ hg]
    have hn : ¬ (liveP c.st ∧ c.due < d) := by
      intro ⟨h1, h2⟩
      rw [liveB, decide_eq_true h1, decide_eq_true h2] at hg
      cases hg
    have : passC c d = c := by
      unfold passC
      rw [if_neg (fun h => hn ⟨.inl h.1, h.2⟩), if_neg (fun h => hn ⟨.inr (.inl h.1), h.2⟩), if_neg (fun h => hn ⟨.inr (.inr h.1), h.2⟩)]
    rw [this]
  · simp only [Bool.not_eq_false, Bool.and_eq_true, liveB, decide_eq_true_eq] at hg
    obtain ⟨h1, hd⟩ := hg
    rcases h1 with h1 | h1 | h1
    · have e : passC c d = { c with st := 6, aw := c.cl } := if_pos ⟨h1, hd⟩
      rw [e, rnds1, round13, h1, decide_eq_true hd]
      exact done13 q K { c with st := 6, aw := c.cl } d (n + 1) rfl
    · simp only [smallP, Bool.and_eq_true, decide_eq_true_eq] at hs
      have e : passC c d = if c.due + c.de < d then { c with st := 7, due := c.due + c.de } else { c with st := 3, due := c.due + c.de } := by
        unfold passC
        rw [if_neg (by omega), if_pos ⟨h1, hd⟩]
      rw [e, rnds1, round13, h1, decide_eq_true hd, wrap64 (n := c.due + c.de) (by omega) (by omega)]
      by_cases h2 : c.due + c.de < d
      · rw [if_pos h2]
        exact go13c q K { c with st := 3, due := c.due + c.de } d n rfl h2
      · rw [if_neg h2]
        exact done13 q K { c with st := 3, due := c.due + c.de } d (n + 1) (by show (liveB 3 && decide (c.due + c.de < d)) = false; rw [decide_eq_false h2]; rfl)
    · have e : passC c d = { c with st := 7 } := by
        unfold passC
        rw [if_neg (by omega), if_neg (by omega), if_pos ⟨h1, hd⟩]
      rw [e]
      exact go13c q K c d (n + 1) h1 hd
theorem loop13 : LoopOk C13 l13 := ⟨by kernel_rfl, fun q its k rr h => by
  show rounds [1, 2, 4] (some [2, 4, 5]) (evCode C13 13 true (inl C13 (q + 4)) (lbody C13.P 13 8)) (18446744073709551613 + 3) (bst l13.p its) k = some rr
  change G13 its k = some rr at h
  unfold G13 at h
  split at h
  · rename_i d an ev de ex cl st day due xd e0 e1 aw
    rcases br_some h with ⟨h1, h2⟩ | ⟨_, h2⟩
    · rw [← h2]
      exact go13 q k ⟨an, ev, de, ex, cl, st, day, due, xd, e0, e1, aw⟩ d _ h1
    · cases h2
  · cases h⟩
theorem C13_ok : CxOk C13 := mkCx_ok enter mixed (fun p h => by
  simp only [List.mem_cons, List.not_mem_nil, or_false] at h
  rcases h with rfl | rfl | rfl
  · exact den_inr
  · exact den_chkr
  · exact den_liver) (fun l h => by
  simp only [List.mem_singleton] at h
  subst h
  exact loop13)
theorem pass_step (c : Cs) (d : Int) : passC { c with day := d } d = stepC c d := by
  unfold passC stepC
  dsimp only
theorem den_atr : Den Try.prog 13 Fat := evF_den C13_ok fun ds rs h => by
  unfold Fat at h
  split at h
  · rename_i an ev de ex cl st day due xd e0 e1 aw d
    simp only [Option.some.injEq, Prod.mk.injEq] at h
    obtain ⟨h1, rfl⟩ := h
    refine (tatr ⟨an, ev, de, ex, cl, st, day, due, xd, e0, e1, aw⟩ d).trans ?_
    dsimp only
    rw [h1]
    by_cases hg : goodC ⟨an, ev, de, ex, cl, st, day, due, xd, e0, e1, aw⟩
    · rw [show chkE ⟨an, ev, de, ex, cl, st, day, due, xd, e0, e1, aw⟩ = 0 from if_pos hg]
      have hg' := hg
      simp only [goodC, termsP] at hg'
      have hs : smallP ⟨an, ev, de, ex, cl, st, d, due, xd, e0, e1, aw⟩ = true := by simp only [smallP, Bool.and_eq_true, decide_eq_true_eq]; omega
      rw [hs]
      have hp : passC ⟨an, ev, de, ex, cl, st, d, due, xd, e0, e1, aw⟩ d = stepC ⟨an, ev, de, ex, cl, st, day, due, xd, e0, e1, aw⟩ d := pass_step ⟨an, ev, de, ex, cl, st, day, due, xd, e0, e1, aw⟩ d
      rw [hp]
      repeat' refine br_split (fun h => ?_) (fun h => ?_)
      all_goals first | rfl | contradiction | (exfalso; (try simp only [and_true, true_and, not_tr, decide_eq_true_eq, Bool.and_eq_true, Bool.or_eq_true, beq_iff_eq, bne_iff_ne, ne_eq, inB_iff, termsB, liveB, evtB, allB] at *); omega) | ((try simp only [and_true, true_and, not_tr, decide_eq_true_eq, Bool.and_eq_true, Bool.or_eq_true, beq_iff_eq, bne_iff_ne, ne_eq, inB_iff, termsB, liveB, evtB, allB] at *); simp only [atC, atE, hg]; (repeat' split); all_goals first | rfl | contradiction | (exfalso; omega))
    · rw [show chkE ⟨an, ev, de, ex, cl, st, day, due, xd, e0, e1, aw⟩ = 8 from if_neg hg]
      simp only [atC, atE, hg]
      rfl
  · cases h
end Go.Proofs.Ytiiaimghkmlhlaa

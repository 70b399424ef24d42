/- The kinds that are allowed. No conditions. -/
import Derived.Test.YtiiaimghkmlhlaaD4
namespace Go.Proofs.Ytiiaimghkmlhlaa
open Go.Ev
set_option linter.all false
def Fall : List D → Option (Bool × List D)
  | [.v (.int .u8 k), .v (.int .u8 s)] => some (true, [.v (.bool (allB k s))])
  | _ => none
noncomputable def C4 : Cx := mkCx Try.prog fns [(20, Flive), (12, Fat), (13, Fat)] []
theorem C4_ok : CxOk C4 := mkCx_ok enter mixed (fun p h => by
  simp only [List.mem_cons, List.not_mem_nil, or_false] at h
  rcases h with rfl | rfl | rfl
  · exact den_liver
  · exact den_at
  · exact den_atr) (fun l h => by cases h)
theorem tall (k s : Int) : evF C4 6 34 [.v (u8 k), .v (u8 s)] =
    br (k == 1) (some [.v (.bool (s == 1))]) (br (k == 2) (br (k == 2) (some [.v (.bool (s == 2))]) (br (k == 4) (some [.v (.bool (s == 3))]) (br (k == 5) (some [.v (.bool (liveB s))]) (br (k == 6) (br (k == 6) (br (s == 1) (some [.v (.bool (true))]) (some [.v (.bool (s == 2))])) (some [.v (.bool (false))])) (br (k == 7) (br (s == 1) (some [.v (.bool (true))]) (some [.v (.bool (s == 2))])) (some [.v (.bool (false))])))))) (br (k == 3) (some [.v (.bool (s == 2))]) (br (k == 4) (some [.v (.bool (s == 3))]) (br (k == 5) (some [.v (.bool (liveB s))]) (br (k == 6) (br (k == 6) (br (s == 1) (some [.v (.bool (true))]) (some [.v (.bool (s == 2))])) (some [.v (.bool (false))])) (br (k == 7) (br (s == 1) (some [.v (.bool (true))]) (some [.v (.bool (s == 2))])) (some [.v (.bool (false))]))))))) := by kernel_rfl
theorem den_all : Den Try.prog 34 Fall := evF_den C4_ok fun ds rs h => by
  unfold Fall at h
  split at h
  · rename_i k s
    cases h
    refine (tall k s).trans ?_
    repeat' refine br_split (fun h => ?_) (fun h => ?_)
    all_goals exact congrArg (fun b => some [D.v (.bool b)]) (by (try simp only [and_true, true_and, not_tr, decide_eq_true_eq, Bool.and_eq_true, Bool.or_eq_true, beq_iff_eq, bne_iff_ne, ne_eq, inB_iff, termsB, liveB, evtB, allB] at *); rw [Bool.eq_iff_iff]; simp only [and_true, true_and, not_tr, decide_eq_true_eq, Bool.and_eq_true, Bool.or_eq_true, beq_iff_eq, bne_iff_ne, ne_eq, inB_iff, termsB, liveB, evtB, allB]; simp only [allP, liveP]; first | omega | (simp; omega))
  · cases h
theorem talp (c : Cs) (d : Int) : evF C4 6 14 [csD c, .v (i64 d)] =
    br (u8B c.st) (br (atE c d != 0) (some [.slice [.int .u8] (Row.nil), .v (i64 (atE c d))]) (br ((atC c d).st == 1) (some [.slice [.int .u8] (winOf (((((Row.zeros 4).setI 0 0 1).setI 1 0 5).setI 2 0 6).setI 3 0 7) 0 4), .v (i64 (0))]) (br ((atC c d).st == 2) (some [.slice [.int .u8] (winOf ((((((Row.zeros 5).setI 0 0 2).setI 1 0 3).setI 2 0 5).setI 3 0 6).setI 4 0 7) 0 5), .v (i64 (0))]) (br ((atC c d).st == 3) (some [.slice [.int .u8] (winOf (((Row.zeros 2).setI 0 0 4).setI 1 0 5) 0 2), .v (i64 (0))]) (some [.slice [.int .u8] (Row.nil), .v (i64 (0))]))))) (none) := by kernel_rfl

/-- The rows of the kinds: as the program and as the reference make them. -/
def kR (s : Int) : Row := if s = 1 then winOf (((((Row.zeros 4).setI 0 0 1).setI 1 0 5).setI 2 0 6).setI 3 0 7) 0 4 else if s = 2 then winOf ((((((Row.zeros 5).setI 0 0 2).setI 1 0 3).setI 2 0 5).setI 3 0 6).setI 4 0 7) 0 5
  else if s = 3 then winOf (((Row.zeros 2).setI 0 0 4).setI 1 0 5) 0 2 else .nil
def appK (o : Row) (k : Int) : Row := winOf (o.app (winOf ((Row.zeros 1).setI 0 0 k) 0 1)) 0 (o.n + 1)
def sR (s : Int) : Row := if s = 1 then appK (appK (appK (appK .nil 1) 5) 6) 7 else if s = 2 then appK (appK (appK (appK (appK .nil 2) 3) 5) 6) 7 else if s = 3 then appK (appK .nil 4) 5 else .nil
def alR (c : Cs) (d : Int) : Row := if atE c d = 0 then kR (atC c d).st else .nil
def alS (c : Cs) (d : Int) : Row := if atE c d = 0 then sR (atC c d).st else .nil
def Falp : List D → Option (Bool × List D)
  | [.agg [.v (.int .i64 an), .v (.int .i64 ev), .v (.int .i64 de), .v (.int .i64 ex), .v (.int .i64 cl), .v (.int .u8 st), .v (.int .i64 day), .v (.int .i64 due), .v (.int .i64 xd), .v (.int .i64 e0), .v (.int .i64 e1), .v (.int .i64 aw)], .v (.int .i64 d)] => some (u8B st, [.slice [.int .u8] (alR ⟨an, ev, de, ex, cl, st, day, due, xd, e0, e1, aw⟩ d), .v (i64 (atE ⟨an, ev, de, ex, cl, st, day, due, xd, e0, e1, aw⟩ d))])
  | _ => none
def Falr : List D → Option (Bool × List D)
  | [.agg [.v (.int .i64 an), .v (.int .i64 ev), .v (.int .i64 de), .v (.int .i64 ex), .v (.int .i64 cl), .v (.int .u8 st), .v (.int .i64 day), .v (.int .i64 due), .v (.int .i64 xd), .v (.int .i64 e0), .v (.int .i64 e1), .v (.int .i64 aw)], .v (.int .i64 d)] => some (u8B st, [.slice [.int .u8] (alS ⟨an, ev, de, ex, cl, st, day, due, xd, e0, e1, aw⟩ d), .v (i64 (atE ⟨an, ev, de, ex, cl, st, day, due, xd, e0, e1, aw⟩ d))])
  | _ => none
theorem den_alp : Den Try.prog 14 Falp := evF_den C4_ok fun ds rs h => by
  unfold Falp at h
  split at h
  · rename_i an ev de ex cl st day due xd e0 e1 aw d
    simp only [Option.some.injEq, Prod.mk.injEq] at h
    obtain ⟨h1, rfl⟩ := h
    refine (talp ⟨an, ev, de, ex, cl, st, day, due, xd, e0, e1, aw⟩ d).trans ?_
    dsimp only
    rw [h1]
    unfold alR kR
    by_cases he : atE ⟨an, ev, de, ex, cl, st, day, due, xd, e0, e1, aw⟩ d = 0
    · rw [he]
      repeat' refine br_split (fun h => ?_) (fun h => ?_)
      all_goals first | rfl | contradiction | ((try simp only [and_true, true_and, not_tr, decide_eq_true_eq, Bool.and_eq_true, Bool.or_eq_true, beq_iff_eq, bne_iff_ne, ne_eq, inB_iff, termsB, liveB, evtB, allB] at *); first | contradiction | (simp only [*]; rfl) | simp [*])
    · rw [if_neg he]
      have : (atE ⟨an, ev, de, ex, cl, st, day, due, xd, e0, e1, aw⟩ d != 0) = true := by simpa using he
      rw [this]
      rfl
  · cases h
def Fats (s : Int) : List D → Option (Bool × List D)
  | [.agg [.v (.int .i64 an), .v (.int .i64 ev), .v (.int .i64 de), .v (.int .i64 ex), .v (.int .i64 cl), .v (.int .u8 st), .v (.int .i64 day), .v (.int .i64 due), .v (.int .i64 xd), .v (.int .i64 e0), .v (.int .i64 e1), .v (.int .i64 aw)], .v (.int .i64 d)] => some (u8B st && decide ((atC ⟨an, ev, de, ex, cl, st, day, due, xd, e0, e1, aw⟩ d).st = s), [csD { atC ⟨an, ev, de, ex, cl, st, day, due, xd, e0, e1, aw⟩ d with st := s }, .v (i64 (atE ⟨an, ev, de, ex, cl, st, day, due, xd, e0, e1, aw⟩ d))])
  | _ => none
theorem den_ats (s : Int) : Den Try.prog 13 (Fats s) := den_atr.less fun ds rs h => by
  unfold Fats at h
  split at h
  · rename_i an ev de ex cl st day due xd e0 e1 aw d
    simp only [Option.some.injEq, Prod.mk.injEq, Bool.and_eq_true, decide_eq_true_eq] at h
    obtain ⟨⟨h1, h2⟩, rfl⟩ := h
    subst h2
    unfold Fat
    simp only [h1]
  · cases h
def Fallf : List D → Option (Bool × List D)
  | [.v (.int .u8 k), .v (.int .u8 s)] => some (decide (s < 1 ∨ s > 3), [.v (.bool false)])
  | _ => none
theorem den_allf : Den Try.prog 34 Fallf := den_all.less fun ds rs h => by
  unfold Fallf at h
  split at h
  · rename_i k s
    simp only [Option.some.injEq, Prod.mk.injEq, decide_eq_true_eq] at h
    obtain ⟨h1, rfl⟩ := h
    have : allB k s = false := by rw [allB, decide_eq_false_iff_not]; unfold allP liveP; omega
    unfold Fall
    simp only [this]
  · cases h
noncomputable def C5 (s : Int) : Cx := mkCx Try.prog fns [(34, Fall), (13, Fats s)] []
theorem C5_ok (s : Int) : CxOk (C5 s) := mkCx_ok enter mixed (fun p h => by
  simp only [List.mem_cons, List.not_mem_nil, or_false] at h
  rcases h with rfl | rfl
  · exact den_all
  · exact den_ats s) (fun l h => by cases h)
noncomputable def C6 : Cx := mkCx Try.prog fns [(34, Fallf), (13, Fat)] []
theorem C6_ok : CxOk C6 := mkCx_ok enter mixed (fun p h => by
  simp only [List.mem_cons, List.not_mem_nil, or_false] at h
  rcases h with rfl | rfl
  · exact den_allf
  · exact den_atr) (fun l h => by cases h)
theorem talr1 (c : Cs) (d : Int) : evF (C5 1) 6 15 [csD c, .v (i64 d)] =
    br (u8B c.st && decide ((atC { an := c.an, ev := c.ev, de := c.de, ex := c.ex, cl := c.cl, st := c.st, day := c.day, due := c.due, xd := c.xd, e0 := c.e0, e1 := c.e1, aw := c.aw : Cs } d).st = 1)) (br (atE c d != 0) (some [.slice [.int .u8] (Row.nil), .v (i64 (atE c d))]) (some [.slice [.int .u8] (winOf ((winOf ((winOf ((winOf (Row.nil.app (winOf ((Row.zeros 1).setI 0 0 1) 0 1)) 0 1).app (winOf ((Row.zeros 1).setI 0 0 (IntKind.u8.wrap (IntKind.u8.wrap (IntKind.u8.wrap (IntKind.u8.wrap (1 + 1) + 1) + 1) + 1))) 0 1)) 0 2).app (winOf ((Row.zeros 1).setI 0 0 (IntKind.u8.wrap (IntKind.u8.wrap (IntKind.u8.wrap (IntKind.u8.wrap (IntKind.u8.wrap (1 + 1) + 1) + 1) + 1) + 1))) 0 1)) 0 3).app (winOf ((Row.zeros 1).setI 0 0 (IntKind.u8.wrap (IntKind.u8.wrap (IntKind.u8.wrap (IntKind.u8.wrap (IntKind.u8.wrap (IntKind.u8.wrap (1 + 1) + 1) + 1) + 1) + 1) + 1))) 0 1)) 0 4), .v (i64 (0))])) (none) := by kernel_rfl
theorem talr2 (c : Cs) (d : Int) : evF (C5 2) 6 15 [csD c, .v (i64 d)] =
    br (u8B c.st && decide ((atC { an := c.an, ev := c.ev, de := c.de, ex := c.ex, cl := c.cl, st := c.st, day := c.day, due := c.due, xd := c.xd, e0 := c.e0, e1 := c.e1, aw := c.aw : Cs } d).st = 2)) (br (atE c d != 0) (some [.slice [.int .u8] (Row.nil), .v (i64 (atE c d))]) (some [.slice [.int .u8] (winOf ((winOf ((winOf ((winOf ((winOf (Row.nil.app (winOf ((Row.zeros 1).setI 0 0 (IntKind.u8.wrap (1 + 1))) 0 1)) 0 1).app (winOf ((Row.zeros 1).setI 0 0 (IntKind.u8.wrap (IntKind.u8.wrap (1 + 1) + 1))) 0 1)) 0 2).app (winOf ((Row.zeros 1).setI 0 0 (IntKind.u8.wrap (IntKind.u8.wrap (IntKind.u8.wrap (IntKind.u8.wrap (1 + 1) + 1) + 1) + 1))) 0 1)) 0 3).app (winOf ((Row.zeros 1).setI 0 0 (IntKind.u8.wrap (IntKind.u8.wrap (IntKind.u8.wrap (IntKind.u8.wrap (IntKind.u8.wrap (1 + 1) + 1) + 1) + 1) + 1))) 0 1)) 0 4).app (winOf ((Row.zeros 1).setI 0 0 (IntKind.u8.wrap (IntKind.u8.wrap (IntKind.u8.wrap (IntKind.u8.wrap (IntKind.u8.wrap (IntKind.u8.wrap (1 + 1) + 1) + 1) + 1) + 1) + 1))) 0 1)) 0 5), .v (i64 (0))])) (none) := by kernel_rfl
theorem talr3 (c : Cs) (d : Int) : evF (C5 3) 6 15 [csD c, .v (i64 d)] =
    br (u8B c.st && decide ((atC { an := c.an, ev := c.ev, de := c.de, ex := c.ex, cl := c.cl, st := c.st, day := c.day, due := c.due, xd := c.xd, e0 := c.e0, e1 := c.e1, aw := c.aw : Cs } d).st = 3)) (br (atE c d != 0) (some [.slice [.int .u8] (Row.nil), .v (i64 (atE c d))]) (some [.slice [.int .u8] (winOf ((winOf (Row.nil.app (winOf ((Row.zeros 1).setI 0 0 (IntKind.u8.wrap (IntKind.u8.wrap (IntKind.u8.wrap (1 + 1) + 1) + 1))) 0 1)) 0 1).app (winOf ((Row.zeros 1).setI 0 0 (IntKind.u8.wrap (IntKind.u8.wrap (IntKind.u8.wrap (IntKind.u8.wrap (1 + 1) + 1) + 1) + 1))) 0 1)) 0 2), .v (i64 (0))])) (none) := by kernel_rfl
theorem talrf (c : Cs) (d : Int) : evF C6 6 15 [csD c, .v (i64 d)] =
    br (u8B c.st) (br (atE c d != 0) (some [.slice [.int .u8] (Row.nil), .v (i64 (atE c d))]) (br (decide ((atC { an := c.an, ev := c.ev, de := c.de, ex := c.ex, cl := c.cl, st := c.st, day := c.day, due := c.due, xd := c.xd, e0 := c.e0, e1 := c.e1, aw := c.aw : Cs } d).st < 1 ∨ (atC { an := c.an, ev := c.ev, de := c.de, ex := c.ex, cl := c.cl, st := c.st, day := c.day, due := c.due, xd := c.xd, e0 := c.e0, e1 := c.e1, aw := c.aw : Cs } d).st > 3)) (br (decide ((atC { an := c.an, ev := c.ev, de := c.de, ex := c.ex, cl := c.cl, st := c.st, day := c.day, due := c.due, xd := c.xd, e0 := c.e0, e1 := c.e1, aw := c.aw : Cs } d).st < 1 ∨ (atC { an := c.an, ev := c.ev, de := c.de, ex := c.ex, cl := c.cl, st := c.st, day := c.day, due := c.due, xd := c.xd, e0 := c.e0, e1 := c.e1, aw := c.aw : Cs } d).st > 3)) (br (decide ((atC { an := c.an, ev := c.ev, de := c.de, ex := c.ex, cl := c.cl, st := c.st, day := c.day, due := c.due, xd := c.xd, e0 := c.e0, e1 := c.e1, aw := c.aw : Cs } d).st < 1 ∨ (atC { an := c.an, ev := c.ev, de := c.de, ex := c.ex, cl := c.cl, st := c.st, day := c.day, due := c.due, xd := c.xd, e0 := c.e0, e1 := c.e1, aw := c.aw : Cs } d).st > 3)) (br (decide ((atC { an := c.an, ev := c.ev, de := c.de, ex := c.ex, cl := c.cl, st := c.st, day := c.day, due := c.due, xd := c.xd, e0 := c.e0, e1 := c.e1, aw := c.aw : Cs } d).st < 1 ∨ (atC { an := c.an, ev := c.ev, de := c.de, ex := c.ex, cl := c.cl, st := c.st, day := c.day, due := c.due, xd := c.xd, e0 := c.e0, e1 := c.e1, aw := c.aw : Cs } d).st > 3)) (br (decide ((atC { an := c.an, ev := c.ev, de := c.de, ex := c.ex, cl := c.cl, st := c.st, day := c.day, due := c.due, xd := c.xd, e0 := c.e0, e1 := c.e1, aw := c.aw : Cs } d).st < 1 ∨ (atC { an := c.an, ev := c.ev, de := c.de, ex := c.ex, cl := c.cl, st := c.st, day := c.day, due := c.due, xd := c.xd, e0 := c.e0, e1 := c.e1, aw := c.aw : Cs } d).st > 3)) (br (decide ((atC { an := c.an, ev := c.ev, de := c.de, ex := c.ex, cl := c.cl, st := c.st, day := c.day, due := c.due, xd := c.xd, e0 := c.e0, e1 := c.e1, aw := c.aw : Cs } d).st < 1 ∨ (atC { an := c.an, ev := c.ev, de := c.de, ex := c.ex, cl := c.cl, st := c.st, day := c.day, due := c.due, xd := c.xd, e0 := c.e0, e1 := c.e1, aw := c.aw : Cs } d).st > 3)) (br (decide ((atC { an := c.an, ev := c.ev, de := c.de, ex := c.ex, cl := c.cl, st := c.st, day := c.day, due := c.due, xd := c.xd, e0 := c.e0, e1 := c.e1, aw := c.aw : Cs } d).st < 1 ∨ (atC { an := c.an, ev := c.ev, de := c.de, ex := c.ex, cl := c.cl, st := c.st, day := c.day, due := c.due, xd := c.xd, e0 := c.e0, e1 := c.e1, aw := c.aw : Cs } d).st > 3)) (some [.slice [.int .u8] (Row.nil), .v (i64 (0))]) (none)) (none)) (none)) (none)) (none)) (none)) (none))) (none) := by kernel_rfl
def Falrs (s : Int) : List D → Option (Bool × List D)
  | [.agg [.v (.int .i64 an), .v (.int .i64 ev), .v (.int .i64 de), .v (.int .i64 ex), .v (.int .i64 cl), .v (.int .u8 st), .v (.int .i64 day), .v (.int .i64 due), .v (.int .i64 xd), .v (.int .i64 e0), .v (.int .i64 e1), .v (.int .i64 aw)], .v (.int .i64 d)] => some (u8B st && decide ((atC ⟨an, ev, de, ex, cl, st, day, due, xd, e0, e1, aw⟩ d).st = s), [.slice [.int .u8] (alS ⟨an, ev, de, ex, cl, st, day, due, xd, e0, e1, aw⟩ d), .v (i64 (atE ⟨an, ev, de, ex, cl, st, day, due, xd, e0, e1, aw⟩ d))])
  | _ => none
def Falrf : List D → Option (Bool × List D)
  | [.agg [.v (.int .i64 an), .v (.int .i64 ev), .v (.int .i64 de), .v (.int .i64 ex), .v (.int .i64 cl), .v (.int .u8 st), .v (.int .i64 day), .v (.int .i64 due), .v (.int .i64 xd), .v (.int .i64 e0), .v (.int .i64 e1), .v (.int .i64 aw)], .v (.int .i64 d)] => some (u8B st && decide ((atC ⟨an, ev, de, ex, cl, st, day, due, xd, e0, e1, aw⟩ d).st < 1 ∨ (atC ⟨an, ev, de, ex, cl, st, day, due, xd, e0, e1, aw⟩ d).st > 3), [.slice [.int .u8] (alS ⟨an, ev, de, ex, cl, st, day, due, xd, e0, e1, aw⟩ d), .v (i64 (atE ⟨an, ev, de, ex, cl, st, day, due, xd, e0, e1, aw⟩ d))])
  | _ => none
theorem den_alr1 : Den Try.prog 15 (Falrs 1) := evF_den (C5_ok 1) fun ds rs h => by
  unfold Falrs at h
  split at h
  · rename_i an ev de ex cl st day due xd e0 e1 aw d
    simp only [Option.some.injEq, Prod.mk.injEq, Bool.and_eq_true, decide_eq_true_eq] at h
    obtain ⟨⟨h1, h2⟩, rfl⟩ := h
    refine (talr1 ⟨an, ev, de, ex, cl, st, day, due, xd, e0, e1, aw⟩ d).trans ?_
    dsimp only
    rw [h1, decide_eq_true h2]
    unfold alS
    cases he : (atE ⟨an, ev, de, ex, cl, st, day, due, xd, e0, e1, aw⟩ d != 0)
    · rw [if_pos (by simpa using he), show atE ⟨an, ev, de, ex, cl, st, day, due, xd, e0, e1, aw⟩ d = 0 by simpa using he, h2]; rfl
    · rw [if_neg (by simpa using he)]; rfl
  · cases h
theorem den_alr2 : Den Try.prog 15 (Falrs 2) := evF_den (C5_ok 2) fun ds rs h => by
  unfold Falrs at h
  split at h
  · rename_i an ev de ex cl st day due xd e0 e1 aw d
    simp only [Option.some.injEq, Prod.mk.injEq, Bool.and_eq_true, decide_eq_true_eq] at h
    obtain ⟨⟨h1, h2⟩, rfl⟩ := h
    refine (talr2 ⟨an, ev, de, ex, cl, st, day, due, xd, e0, e1, aw⟩ d).trans ?_
    dsimp only
    rw [h1, decide_eq_true h2]
    unfold alS
    cases he : (atE ⟨an, ev, de, ex, cl, st, day, due, xd, e0, e1, aw⟩ d != 0)
    · rw [if_pos (by simpa using he), show atE ⟨an, ev, de, ex, cl, st, day, due, xd, e0, e1, aw⟩ d = 0 by simpa using he, h2]; rfl
    · rw [if_neg (by simpa using he)]; rfl
  · cases h
theorem den_alr3 : Den Try.prog 15 (Falrs 3) := evF_den (C5_ok 3) fun ds rs h => by
  unfold Falrs at h
  split at h
  · rename_i an ev de ex cl st day due xd e0 e1 aw d
    simp only [Option.some.injEq, Prod.mk.injEq, Bool.and_eq_true, decide_eq_true_eq] at h
    obtain ⟨⟨h1, h2⟩, rfl⟩ := h
    refine (talr3 ⟨an, ev, de, ex, cl, st, day, due, xd, e0, e1, aw⟩ d).trans ?_
    dsimp only
    rw [h1, decide_eq_true h2]
    unfold alS
    cases he : (atE ⟨an, ev, de, ex, cl, st, day, due, xd, e0, e1, aw⟩ d != 0)
    · rw [if_pos (by simpa using he), show atE ⟨an, ev, de, ex, cl, st, day, due, xd, e0, e1, aw⟩ d = 0 by simpa using he, h2]; rfl
    · rw [if_neg (by simpa using he)]; rfl
  · cases h
theorem den_alrf : Den Try.prog 15 Falrf := evF_den C6_ok fun ds rs h => by
  unfold Falrf at h
  split at h
  · rename_i an ev de ex cl st day due xd e0 e1 aw d
    simp only [Option.some.injEq, Prod.mk.injEq, Bool.and_eq_true, decide_eq_true_eq] at h
    obtain ⟨⟨h1, h2⟩, rfl⟩ := h
    refine (talrf ⟨an, ev, de, ex, cl, st, day, due, xd, e0, e1, aw⟩ d).trans ?_
    dsimp only
    rw [h1, decide_eq_true h2]
    unfold alS
    cases he : (atE ⟨an, ev, de, ex, cl, st, day, due, xd, e0, e1, aw⟩ d != 0)
    · rw [if_pos (by simpa using he), show atE ⟨an, ev, de, ex, cl, st, day, due, xd, e0, e1, aw⟩ d = 0 by simpa using he, show sR (atC ⟨an, ev, de, ex, cl, st, day, due, xd, e0, e1, aw⟩ d).st = .nil by unfold sR; rw [if_neg (by omega), if_neg (by omega), if_neg (by omega)]]; rfl
    · rw [if_neg (by simpa using he)]; rfl
  · cases h
theorem den_alr : Den Try.prog 15 Falr := Den.cover fun ds rs h => by
  unfold Falr at h
  split at h
  · rename_i an ev de ex cl st day due xd e0 e1 aw d
    simp only [Option.some.injEq, Prod.mk.injEq] at h
    obtain ⟨h1, rfl⟩ := h
    by_cases h2 : (atC ⟨an, ev, de, ex, cl, st, day, due, xd, e0, e1, aw⟩ d).st < 1 ∨ (atC ⟨an, ev, de, ex, cl, st, day, due, xd, e0, e1, aw⟩ d).st > 3
    · exact ⟨Falrf, den_alrf, by unfold Falrf; simp only [h1, decide_eq_true h2, Bool.and_self]⟩
    · have h3 : (atC ⟨an, ev, de, ex, cl, st, day, due, xd, e0, e1, aw⟩ d).st = 1 ∨ (atC ⟨an, ev, de, ex, cl, st, day, due, xd, e0, e1, aw⟩ d).st = 2 ∨ (atC ⟨an, ev, de, ex, cl, st, day, due, xd, e0, e1, aw⟩ d).st = 3 := by omega
      rcases h3 with h3 | h3 | h3
      · exact ⟨Falrs 1, den_alr1, by unfold Falrs; simp only [h1, decide_eq_true h3, Bool.and_self]⟩
      · exact ⟨Falrs 2, den_alr2, by unfold Falrs; simp only [h1, decide_eq_true h3, Bool.and_self]⟩
      · exact ⟨Falrs 3, den_alr3, by unfold Falrs; simp only [h1, decide_eq_true h3, Bool.and_self]⟩
  · cases h
theorem same_al (c : Cs) (d : Int) : sameR (wr (alR c d)) (wr (alS c d)) = true := by
  unfold alR alS
  by_cases h : atE c d = 0
  · rw [if_pos h, if_pos h]
    unfold kR sR
    by_cases h1 : (atC c d).st = 1
    · rw [if_pos h1, if_pos h1]; rfl
    · rw [if_neg h1, if_neg h1]
      by_cases h2 : (atC c d).st = 2
      · rw [if_pos h2, if_pos h2]; rfl
      · rw [if_neg h2, if_neg h2]
        by_cases h3 : (atC c d).st = 3
        · rw [if_pos h3, if_pos h3]; rfl
        · rw [if_neg h3, if_neg h3]; rfl
  · rw [if_neg h, if_neg h]; rfl
end Go.Proofs.Ytiiaimghkmlhlaa

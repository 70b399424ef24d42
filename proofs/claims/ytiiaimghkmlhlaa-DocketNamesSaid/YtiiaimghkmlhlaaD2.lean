/- Package docket and its reference: small functions, Check, Open, At. No conditions. -/
import Derived.Test.YtiiaimghkmlhlaaD1
namespace Go.Proofs.Ytiiaimghkmlhlaa
open Go.Ev
set_option linter.all false

def fns : List Nat := [3, 4, 5, 6, 7, 8, 9, 10, 11, 12, 13, 14, 15, 16, 17, 18, 19, 20, 21, 22, 23, 24, 25, 26, 27, 28, 29, 30, 31, 32, 33, 34, 35, 36, 37]
theorem enter : ∀ (g : FuncId), fns.contains g = true → ∀ (args : Array Value) (w : World), (callFunc g args).run Try.prog w = .ok (.enter g args) w := by
  intro g hg
  simp only [fns, List.contains_cons, List.contains_nil, Bool.or_false, Bool.or_eq_true, beq_iff_eq] at hg
  rcases hg with rfl | rfl | rfl | rfl | rfl | rfl | rfl | rfl | rfl | rfl | rfl | rfl | rfl | rfl | rfl | rfl | rfl | rfl | rfl | rfl | rfl | rfl | rfl | rfl | rfl | rfl | rfl | rfl | rfl | rfl | rfl | rfl | rfl | rfl | rfl
  · exact Try.call3
  · exact Try.call4
  · exact Try.call5
  · exact Try.call6
  · exact Try.call7
  · exact Try.call8
  · exact Try.call9
  · exact Try.call10
  · exact Try.call11
  · exact Try.call12
  · exact Try.call13
  · exact Try.call14
  · exact Try.call15
  · exact Try.call16
  · exact Try.call17
  · exact Try.call18
  · exact Try.call19
  · exact Try.call20
  · exact Try.call21
  · exact Try.call22
  · exact Try.call23
  · exact Try.call24
  · exact Try.call25
  · exact Try.call26
  · exact Try.call27
  · exact Try.call28
  · exact Try.call29
  · exact Try.call30
  · exact Try.call31
  · exact Try.call32
  · exact Try.call33
  · exact Try.call34
  · exact Try.call35
  · exact Try.call36
  · exact Try.call37
theorem mixed : Try.prog.follows .mixedOrders = true := by kernel_rfl
noncomputable def C0 : Cx := mkCx Try.prog fns [] []
theorem C0_ok : CxOk C0 := mkCx_ok enter mixed (fun p h => by cases h) (fun l h => by cases h)



/-! ### in, terms, open -/
def Fin : List D → Option (Bool × List D)
  | [.v (.int .i64 n), .v (.int .i64 lo), .v (.int .i64 hi)] => some (true, [.v (.bool (inB n lo hi))])
  | _ => none
theorem tin (n lo hi : Int) : evF C0 6 30 [.v (i64 n), .v (i64 lo), .v (i64 hi)] =
    br (decide (n ≥ lo)) (some [.v (.bool (decide (n ≤ hi)))]) (some [.v (.bool (false))]) := by kernel_rfl
theorem den_in : Den Try.prog 30 Fin := evF_den C0_ok fun ds rs h => by
  unfold Fin at h
  split at h
  · rename_i n lo hi
    cases h
    refine (tin n lo hi).trans ?_
    unfold inB
    rw [show decide (n ≥ lo) = decide (lo ≤ n) from rfl]
    cases decide (lo ≤ n) <;> rfl
  · cases h
theorem tinr (n lo hi : Int) : evF C0 6 32 [.v (i64 n), .v (i64 lo), .v (i64 hi)] =
    br (decide (n ≥ lo)) (some [.v (.bool (decide (n ≤ hi)))]) (some [.v (.bool (false))]) := by kernel_rfl
theorem den_inr : Den Try.prog 32 Fin := evF_den C0_ok fun ds rs h => by
  unfold Fin at h
  split at h
  · rename_i n lo hi
    cases h
    refine (tinr n lo hi).trans ?_
    unfold inB
    rw [show decide (n ≥ lo) = decide (lo ≤ n) from rfl]
    cases decide (lo ≤ n) <;> rfl
  · cases h
def Fterms : List D → Option (Bool × List D)
  | [.agg [.v (.int .i64 a), .v (.int .i64 e), .v (.int .i64 d), .v (.int .i64 x)]] => some (true, [.v (.bool (termsB a e d x))])
  | _ => none
noncomputable def C1 : Cx := mkCx Try.prog fns [(30, Fin), (32, Fin)] []
theorem C1_ok : CxOk C1 := mkCx_ok enter mixed (fun p h => by
  simp only [List.mem_cons, List.not_mem_nil, or_false] at h
  rcases h with rfl | rfl
  · exact den_in
  · exact den_inr) (fun l h => by cases h)
theorem termsB_eq (a e d x : Int) : termsB a e d x = (inB a 1 365 && inB e 1 365 && inB d 1 365 && inB x 0 9) := by
  rw [Bool.eq_iff_iff]
  simp only [termsB, decide_eq_true_eq, termsP, Bool.and_eq_true, inB_iff, and_assoc]
theorem tterms (a e d x : Int) : evF C1 6 29 [.agg [.v (i64 a), .v (i64 e), .v (i64 d), .v (i64 x)]] =
    br (inB a 1 365) (br (inB e 1 365) (br (inB d 1 365) (some [.v (.bool (inB x 0 9))]) (some [.v (.bool (false))])) (some [.v (.bool (false))])) (some [.v (.bool (false))]) := by kernel_rfl
theorem den_terms : Den Try.prog 29 Fterms := evF_den C1_ok fun ds rs h => by
  unfold Fterms at h
  split at h
  · rename_i a e d x
    cases h
    refine (tterms a e d x).trans ?_
    rw [termsB_eq]
    cases inB a 1 365 <;> cases inB e 1 365 <;> cases inB d 1 365 <;> rfl
  · cases h
theorem ttermsr (a e d x : Int) : evF C1 6 31 [.agg [.v (i64 a), .v (i64 e), .v (i64 d), .v (i64 x)]] =
    br (inB a 1 365) (br (inB e 1 365) (br (inB d 1 365) (some [.v (.bool (inB x 0 9))]) (some [.v (.bool (false))])) (some [.v (.bool (false))])) (some [.v (.bool (false))]) := by kernel_rfl
theorem den_termsr : Den Try.prog 31 Fterms := evF_den C1_ok fun ds rs h => by
  unfold Fterms at h
  split at h
  · rename_i a e d x
    cases h
    refine (ttermsr a e d x).trans ?_
    rw [termsB_eq]
    cases inB a 1 365 <;> cases inB e 1 365 <;> cases inB d 1 365 <;> rfl
  · cases h
def Flive : List D → Option (Bool × List D)
  | [.v (.int .u8 s)] => some (true, [.v (.bool (liveB s))])
  | _ => none
theorem tlive (s : Int) : evF C0 6 35 [.v (u8 s)] =
    br (s == 1) (some [.v (.bool (true))]) (br (s == 2) (some [.v (.bool (true))]) (some [.v (.bool (s == 3))])) := by kernel_rfl
theorem den_live : Den Try.prog 35 Flive := evF_den C0_ok fun ds rs h => by
  unfold Flive at h
  split at h
  · rename_i s
    cases h
    refine (tlive s).trans ?_
    simp only [br_ite, not_tr, decide_eq_true_eq, Bool.and_eq_true, Bool.or_eq_true, beq_iff_eq, bne_iff_ne, ne_eq, inB_iff, termsB, liveB, evtB, allB]
    repeat' split
    all_goals exact congrArg (fun b => some [D.v (.bool b)]) (by rw [Bool.eq_iff_iff]; simp only [decide_eq_true_eq, beq_iff_eq]; unfold liveP; first | omega | (simp; omega))
  · cases h
theorem tliver (s : Int) : evF C0 6 20 [.v (u8 s)] =
    br (decide (s ≥ 1)) (some [.v (.bool (decide (s ≤ 3)))]) (some [.v (.bool (false))]) := by kernel_rfl
theorem den_liver : Den Try.prog 20 Flive := evF_den C0_ok fun ds rs h => by
  unfold Flive at h
  split at h
  · rename_i s
    cases h
    refine (tliver s).trans ?_
    simp only [br_ite, not_tr, decide_eq_true_eq, Bool.and_eq_true, Bool.or_eq_true, beq_iff_eq, bne_iff_ne, ne_eq, inB_iff, termsB, liveB, evtB, allB]
    repeat' split
    all_goals exact congrArg (fun b => some [D.v (.bool b)]) (by rw [Bool.eq_iff_iff]; simp only [decide_eq_true_eq, beq_iff_eq]; unfold liveP; first | omega | (simp; omega))
  · cases h

/-! ### Check -/
def Fchk : List D → Option (Bool × List D)
  | [.agg [.v (.int .i64 an), .v (.int .i64 ev), .v (.int .i64 de), .v (.int .i64 ex), .v (.int .i64 cl), .v (.int .u8 st), .v (.int .i64 day), .v (.int .i64 due), .v (.int .i64 xd), .v (.int .i64 e0), .v (.int .i64 e1), .v (.int .i64 aw)]] => some (u8B st, [.v (i64 (chkE ⟨an, ev, de, ex, cl, st, day, due, xd, e0, e1, aw⟩))])
  | _ => none
noncomputable def C2 : Cx := mkCx Try.prog fns [(30, Fin), (32, Fin), (29, Fterms), (31, Fterms), (35, Flive), (20, Flive)] []
theorem C2_ok : CxOk C2 := mkCx_ok enter mixed (fun p h => by
  simp only [List.mem_cons, List.not_mem_nil, or_false] at h
  rcases h with rfl | rfl | rfl | rfl | rfl | rfl
  · exact den_in
  · exact den_inr
  · exact den_terms
  · exact den_termsr
  · exact den_live
  · exact den_liver) (fun l h => by cases h)
theorem wrap8 {n : Int} (h0 : 0 ≤ n) (h1 : n ≤ 255) : IntKind.i64.wrap n = n := wrap64 (by omega) (by omega)
set_option maxRecDepth 100000 in
theorem tchk (c : Cs) : evF C2 6 16 [csD c] =
    br (!termsB c.an c.ev c.de c.ex) (some [.v (i64 (8))]) (br (!inB c.cl 1 1000000000) (some [.v (i64 (8))]) (br (!inB (IntKind.i64.wrap c.st) 1 8) (some [.v (i64 (8))]) (br (!inB c.day 0 100000) (some [.v (i64 (8))]) (br (!inB c.due 0 200000) (some [.v (i64 (8))]) (br (!inB c.xd 0 c.ex) (some [.v (i64 (8))]) (br (!inB c.e0 0 9) (some [.v (i64 (8))]) (br (!inB c.e1 0 9) (some [.v (i64 (8))]) (br (liveB c.st) (br (decide (c.due < c.day)) (some [.v (i64 (8))]) (br (c.st == 4) (br (c.st == 4) (br (!inB c.aw 0 c.cl) (some [.v (i64 (8))]) (br (c.st == 1) (br (!(c.e0 == 0 && (c.e1 == 0 && true))) (some [.v (i64 (8))]) (some [.v (i64 (0))])) (br (c.st == 6) (br (!(c.e0 == 0 && (c.e1 == 0 && true))) (some [.v (i64 (8))]) (some [.v (i64 (0))])) (some [.v (i64 (0))])))) (br (c.st == 6) (br (!inB c.aw c.cl c.cl) (some [.v (i64 (8))]) (br (c.st == 1) (br (!(c.e0 == 0 && (c.e1 == 0 && true))) (some [.v (i64 (8))]) (some [.v (i64 (0))])) (br (c.st == 6) (br (!(c.e0 == 0 && (c.e1 == 0 && true))) (some [.v (i64 (8))]) (some [.v (i64 (0))])) (some [.v (i64 (0))])))) (br (!inB c.aw 0 0) (some [.v (i64 (8))]) (br (c.st == 1) (br (!(c.e0 == 0 && (c.e1 == 0 && true))) (some [.v (i64 (8))]) (some [.v (i64 (0))])) (br (c.st == 6) (br (!(c.e0 == 0 && (c.e1 == 0 && true))) (some [.v (i64 (8))]) (some [.v (i64 (0))])) (some [.v (i64 (0))])))))) (br (c.st == 5) (br (!inB c.aw 0 c.cl) (some [.v (i64 (8))]) (br (c.st == 1) (br (!(c.e0 == 0 && (c.e1 == 0 && true))) (some [.v (i64 (8))]) (some [.v (i64 (0))])) (br (c.st == 6) (br (!(c.e0 == 0 && (c.e1 == 0 && true))) (some [.v (i64 (8))]) (some [.v (i64 (0))])) (some [.v (i64 (0))])))) (br (c.st == 6) (br (!inB c.aw c.cl c.cl) (some [.v (i64 (8))]) (br (c.st == 1) (br (!(c.e0 == 0 && (c.e1 == 0 && true))) (some [.v (i64 (8))]) (some [.v (i64 (0))])) (br (c.st == 6) (br (!(c.e0 == 0 && (c.e1 == 0 && true))) (some [.v (i64 (8))]) (some [.v (i64 (0))])) (some [.v (i64 (0))])))) (br (!inB c.aw 0 0) (some [.v (i64 (8))]) (br (c.st == 1) (br (!(c.e0 == 0 && (c.e1 == 0 && true))) (some [.v (i64 (8))]) (some [.v (i64 (0))])) (br (c.st == 6) (br (!(c.e0 == 0 && (c.e1 == 0 && true))) (some [.v (i64 (8))]) (some [.v (i64 (0))])) (some [.v (i64 (0))])))))))) (br (c.st == 4) (br (c.st == 4) (br (!inB c.aw 0 c.cl) (some [.v (i64 (8))]) (br (c.st == 1) (br (!(c.e0 == 0 && (c.e1 == 0 && true))) (some [.v (i64 (8))]) (some [.v (i64 (0))])) (br (c.st == 6) (br (!(c.e0 == 0 && (c.e1 == 0 && true))) (some [.v (i64 (8))]) (some [.v (i64 (0))])) (some [.v (i64 (0))])))) (br (c.st == 6) (br (!inB c.aw c.cl c.cl) (some [.v (i64 (8))]) (br (c.st == 1) (br (!(c.e0 == 0 && (c.e1 == 0 && true))) (some [.v (i64 (8))]) (some [.v (i64 (0))])) (br (c.st == 6) (br (!(c.e0 == 0 && (c.e1 == 0 && true))) (some [.v (i64 (8))]) (some [.v (i64 (0))])) (some [.v (i64 (0))])))) (br (!inB c.aw 0 0) (some [.v (i64 (8))]) (br (c.st == 1) (br (!(c.e0 == 0 && (c.e1 == 0 && true))) (some [.v (i64 (8))]) (some [.v (i64 (0))])) (br (c.st == 6) (br (!(c.e0 == 0 && (c.e1 == 0 && true))) (some [.v (i64 (8))]) (some [.v (i64 (0))])) (some [.v (i64 (0))])))))) (br (c.st == 5) (br (!inB c.aw 0 c.cl) (some [.v (i64 (8))]) (br (c.st == 1) (br (!(c.e0 == 0 && (c.e1 == 0 && true))) (some [.v (i64 (8))]) (some [.v (i64 (0))])) (br (c.st == 6) (br (!(c.e0 == 0 && (c.e1 == 0 && true))) (some [.v (i64 (8))]) (some [.v (i64 (0))])) (some [.v (i64 (0))])))) (br (c.st == 6) (br (!inB c.aw c.cl c.cl) (some [.v (i64 (8))]) (br (c.st == 1) (br (!(c.e0 == 0 && (c.e1 == 0 && true))) (some [.v (i64 (8))]) (some [.v (i64 (0))])) (br (c.st == 6) (br (!(c.e0 == 0 && (c.e1 == 0 && true))) (some [.v (i64 (8))]) (some [.v (i64 (0))])) (some [.v (i64 (0))])))) (br (!inB c.aw 0 0) (some [.v (i64 (8))]) (br (c.st == 1) (br (!(c.e0 == 0 && (c.e1 == 0 && true))) (some [.v (i64 (8))]) (some [.v (i64 (0))])) (br (c.st == 6) (br (!(c.e0 == 0 && (c.e1 == 0 && true))) (some [.v (i64 (8))]) (some [.v (i64 (0))])) (some [.v (i64 (0))]))))))))))))))) := by kernel_rfl
theorem tchkr (c : Cs) : evF C2 6 17 [csD c] =
    br (termsB c.an c.ev c.de c.ex) (br (inB c.cl 1 1000000000) (br (decide (c.st ≥ 1)) (br (decide (c.st ≤ 8)) (br (inB c.day 0 100000) (br (inB c.due 0 200000) (br (inB c.xd 0 c.ex) (br (inB c.e0 0 9) (br (inB c.e1 0 9) (br (!inB c.aw 0 c.cl) (some [.v (i64 (8))]) (br (liveB c.st) (br (decide (c.due < c.day)) (some [.v (i64 (8))]) (br (c.st == 1) (br (!(c.e0 == 0 && (c.e1 == 0 && true))) (some [.v (i64 (8))]) (br (c.st == 6) (br (c.aw != c.cl) (some [.v (i64 (8))]) (br (liveB c.st) (br (c.aw != 0) (some [.v (i64 (8))]) (some [.v (i64 (0))])) (br (c.st == 7) (br (c.aw != 0) (some [.v (i64 (8))]) (some [.v (i64 (0))])) (br (c.st == 8) (br (c.aw != 0) (some [.v (i64 (8))]) (some [.v (i64 (0))])) (some [.v (i64 (0))]))))) (br (liveB c.st) (br (c.aw != 0) (some [.v (i64 (8))]) (some [.v (i64 (0))])) (br (c.st == 7) (br (c.aw != 0) (some [.v (i64 (8))]) (some [.v (i64 (0))])) (br (c.st == 8) (br (c.aw != 0) (some [.v (i64 (8))]) (some [.v (i64 (0))])) (some [.v (i64 (0))])))))) (br (c.st == 6) (br (!(c.e0 == 0 && (c.e1 == 0 && true))) (some [.v (i64 (8))]) (br (c.st == 6) (br (c.aw != c.cl) (some [.v (i64 (8))]) (br (liveB c.st) (br (c.aw != 0) (some [.v (i64 (8))]) (some [.v (i64 (0))])) (br (c.st == 7) (br (c.aw != 0) (some [.v (i64 (8))]) (some [.v (i64 (0))])) (br (c.st == 8) (br (c.aw != 0) (some [.v (i64 (8))]) (some [.v (i64 (0))])) (some [.v (i64 (0))]))))) (br (liveB c.st) (br (c.aw != 0) (some [.v (i64 (8))]) (some [.v (i64 (0))])) (br (c.st == 7) (br (c.aw != 0) (some [.v (i64 (8))]) (some [.v (i64 (0))])) (br (c.st == 8) (br (c.aw != 0) (some [.v (i64 (8))]) (some [.v (i64 (0))])) (some [.v (i64 (0))])))))) (br (c.st == 6) (br (c.aw != c.cl) (some [.v (i64 (8))]) (br (liveB c.st) (br (c.aw != 0) (some [.v (i64 (8))]) (some [.v (i64 (0))])) (br (c.st == 7) (br (c.aw != 0) (some [.v (i64 (8))]) (some [.v (i64 (0))])) (br (c.st == 8) (br (c.aw != 0) (some [.v (i64 (8))]) (some [.v (i64 (0))])) (some [.v (i64 (0))]))))) (br (liveB c.st) (br (c.aw != 0) (some [.v (i64 (8))]) (some [.v (i64 (0))])) (br (c.st == 7) (br (c.aw != 0) (some [.v (i64 (8))]) (some [.v (i64 (0))])) (br (c.st == 8) (br (c.aw != 0) (some [.v (i64 (8))]) (some [.v (i64 (0))])) (some [.v (i64 (0))])))))))) (br (c.st == 1) (br (!(c.e0 == 0 && (c.e1 == 0 && true))) (some [.v (i64 (8))]) (br (c.st == 6) (br (c.aw != c.cl) (some [.v (i64 (8))]) (br (liveB c.st) (br (c.aw != 0) (some [.v (i64 (8))]) (some [.v (i64 (0))])) (br (c.st == 7) (br (c.aw != 0) (some [.v (i64 (8))]) (some [.v (i64 (0))])) (br (c.st == 8) (br (c.aw != 0) (some [.v (i64 (8))]) (some [.v (i64 (0))])) (some [.v (i64 (0))]))))) (br (liveB c.st) (br (c.aw != 0) (some [.v (i64 (8))]) (some [.v (i64 (0))])) (br (c.st == 7) (br (c.aw != 0) (some [.v (i64 (8))]) (some [.v (i64 (0))])) (br (c.st == 8) (br (c.aw != 0) (some [.v (i64 (8))]) (some [.v (i64 (0))])) (some [.v (i64 (0))])))))) (br (c.st == 6) (br (!(c.e0 == 0 && (c.e1 == 0 && true))) (some [.v (i64 (8))]) (br (c.st == 6) (br (c.aw != c.cl) (some [.v (i64 (8))]) (br (liveB c.st) (br (c.aw != 0) (some [.v (i64 (8))]) (some [.v (i64 (0))])) (br (c.st == 7) (br (c.aw != 0) (some [.v (i64 (8))]) (some [.v (i64 (0))])) (br (c.st == 8) (br (c.aw != 0) (some [.v (i64 (8))]) (some [.v (i64 (0))])) (some [.v (i64 (0))]))))) (br (liveB c.st) (br (c.aw != 0) (some [.v (i64 (8))]) (some [.v (i64 (0))])) (br (c.st == 7) (br (c.aw != 0) (some [.v (i64 (8))]) (some [.v (i64 (0))])) (br (c.st == 8) (br (c.aw != 0) (some [.v (i64 (8))]) (some [.v (i64 (0))])) (some [.v (i64 (0))])))))) (br (c.st == 6) (br (c.aw != c.cl) (some [.v (i64 (8))]) (br (liveB c.st) (br (c.aw != 0) (some [.v (i64 (8))]) (some [.v (i64 (0))])) (br (c.st == 7) (br (c.aw != 0) (some [.v (i64 (8))]) (some [.v (i64 (0))])) (br (c.st == 8) (br (c.aw != 0) (some [.v (i64 (8))]) (some [.v (i64 (0))])) (some [.v (i64 (0))]))))) (br (liveB c.st) (br (c.aw != 0) (some [.v (i64 (8))]) (some [.v (i64 (0))])) (br (c.st == 7) (br (c.aw != 0) (some [.v (i64 (8))]) (some [.v (i64 (0))])) (br (c.st == 8) (br (c.aw != 0) (some [.v (i64 (8))]) (some [.v (i64 (0))])) (some [.v (i64 (0))]))))))))) (some [.v (i64 (8))])) (some [.v (i64 (8))])) (some [.v (i64 (8))])) (some [.v (i64 (8))])) (some [.v (i64 (8))])) (some [.v (i64 (8))])) (some [.v (i64 (8))])) (some [.v (i64 (8))])) (some [.v (i64 (8))]) := by kernel_rfl
end Go.Proofs.Ytiiaimghkmlhlaa
